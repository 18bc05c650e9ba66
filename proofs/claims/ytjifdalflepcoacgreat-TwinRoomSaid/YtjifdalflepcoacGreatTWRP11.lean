/-
  Parts of the proof, merged: what the functions do, and plain laws.
-/
import Derived.Test.YtjifdalflepcoacGreatTWRP9
import Derived.Test.YtjifdalflepcoacGreatTWRP10
set_option maxHeartbeats 16000000
set_option maxRecDepth 100000
set_option linter.unusedVariables false
set_option linter.unusedSimpArgs false
namespace Go.Proofs.YtjifdalflepcoacGreat
section
open Go.RowKit
theorem oE:∀ (l:List (Int × Int)) (g:Int),popW l g=if findG g l<l.length then some ((l.getD (findG g l) (0,0)).2,l.eraseIdx (findG g l)) else none
 | [],g=>rfl
 | e :: l,g=>by
  unfold popW findG;by_cases h:e.1=g
  ·simp [h]
  ·rw [if_neg h,if_neg h,oE l g];by_cases h2:findG g l<l.length
   ·rw [if_pos h2,if_pos (by simp;omega)];simp
   ·rw [if_neg h2,if_neg (by simp;omega)];rfl
section
variable {w w':World} {h:HH} {O O':Wo} {W:Wd} {φ:Int→Int}
theorem Az (n:Int) (R:aH O W φ) (B:a6 w h O) :
  Calls Tryz.prog 144 #[.pointer (some ⟨h.p,0,none⟩), .int .i64 n] w (gq w h O n):=by
 by_cases hn:n≤(O.ar.nur:Int)-O.ar.yng
 ·exact xw n B hn
 have HB:=Hz B;have HR:=Hz R;have HE:=Hz (show O.room n=if (O.ar.yng:Int)≤(O.ar.ws.length:Int)-O.ar.grn then g9 O else dU O by unfold Wo.room;rw [if_neg hn]);have o1:=B.H.ok.ha.h1;have o2:=B.H.ok.ha.h2;have o3:=B.H.ok.ha.h3;have hn2:((O.ar.nur-O.ar.yng:Nat):Int)<n:=by omega
 have HFO:=Hz (show ((O.ar.ws.length-O.ar.grn:Nat):Int)=(O.ar.ws.length:Int)-O.ar.grn by omega);obtain ⟨b0,bl⟩:=B.pc;have q0:=B.H.dY.1;have ql:=B.H.hp.lt;clear B R hn o1 o2 o3;go_enter Tryz.func144,Tryz.ntmps144;go_wp2_with fail;refine (jY _ HB.out.H.ha).mono ?_;rintro e w1 ⟨rfl,hk⟩;have B1:=Hz (HB.out.same hk);have K1:=Hz hk;clear hk b0 bl q0 ql;obtain ⟨b0,bl⟩:=B1.out.pc;have q0:=B1.out.H.dY.1;have ql:=B1.out.H.hp.lt;generalize ((O.ar.nur-O.ar.yng:Nat):Int)=fr at *;generalize ((O.ar.ws.length-O.ar.grn:Nat):Int)=fo at *;go_wp2_with fail;refine (kT _ B1.out.H.ha).mono ?_;rintro e w2 ⟨rfl,hk⟩;have B2:=Hz (B1.out.same hk);have K2:=Hz (K1.out.trans hk);clear hk b0 bl q0 ql B1 K1;obtain ⟨b0,bl⟩:=B2.out.pc;rw [←HFO.out] at HE;unfold gq;obtain ⟨yg,hyg⟩:∃ y:Int,(O.ar.yng:Int)=y:=⟨_,rfl⟩;rw [hyg] at HE;rw [hyg];clear hyg;by_cases hy:yg≤fo
 ·have HE2:=Hz (show O.room n=g9 O by rw [HE.out,if_pos hy]);go_wp2_with fail;refine (qY HR.out B2.out.H).mono ?_;rintro e w5 ⟨rfl,ht⟩;have TO:=Hz (aU.aK K2.out (aU.rD B2.out ht));clear ht b0 bl;go_wp2_with fail;go_ret;unfold gq;rw [HE2.out];exact ⟨rfl,TO.out⟩
 ·have HE2:=Hz (show O.room n=dU O by rw [HE.out,if_neg hy]);have hy:fo<yg:=by omega
  go_wp2_with fail;refine (q8 HR.out B2.out.H).mono ?_;rintro e w5 ⟨rfl,ht⟩;have TO:=Hz (aU.aK K2.out (aU.rD B2.out ht));clear ht b0 bl;go_wp2_with fail;go_ret;unfold gq;rw [HE2.out];exact ⟨rfl,TO.out⟩
theorem aH.xP (R:aH O W φ) {n:Int} (hn:n≤13) (h0:(O.room n).1=0):n≤((O.room n).2.ar.nur:Int)-(O.room n).2.ar.yng:=by
 obtain ⟨e,ψ,R'⟩:=R.room n;rw [R'.yK];rw [e] at h0;exact (R.hw.room n hn).2 h0
theorem gF.rep (R:aH O W φ) {n:Int} (hn:n≤13):gF h O n:=⟨fun w' B=>Az n R B,fun h0=>R.xP hn h0⟩
theorem oF (n:Int) (w:World) (hn:-cN≤n∧n<cN):Calls Tryz.prog 147 #[.int .i64 n] w fun e w'=>e=.returned (.int .i64 (4*n))∧aa (fun _=>False) w w':=by
 have HEN:=Hz (xy n hn);have hn64:a9 n:=by unfold a9;have:=hn.1;have:=hn.2;unfold cN at *;omega
 have HN:=Hz hn64;clear hn hn64;go_enter Tryz.func147,Tryz.ntmps147;go_wp2_with fail;refine (sL 1 n _ HN.out.1 HN.out.2).mono ?_;rintro e w2 ⟨rfl,hk⟩;rw [HEN.out];have HK:=Hz hk;clear hk;go_wp2_with fail;go_ret;exact ⟨rfl,HK.out⟩
def fG (O:Wo) (x:Int):Int × Int:=if O.j5 x=true then (x,0) else (0,2)
theorem tX (k:Nat) (B:a6 w h O) (hk:k<12) :
  Calls Tryz.prog 145 #[.pointer (some ⟨h.p,0,none⟩), .int .i64 k] w fun e w'=>e=.returned (.tuple #[.int .i64 (fG O (O.aX k)).1, .int .i64 (fG O (O.aX k)).2])∧aa (fun _=>False) w w':=by
 have HB:=Hz B;obtain ⟨b0,bl⟩:=B.pc;obtain ⟨g,o,cap,hro,hown,q0,q3,ql,gl,fz,rc⟩:=B.roots;have ra:=rc k hk;have hki:(k:Int)<12:=by omega
 have hkd:=fun w' (R:bh w' h.a O)=>sV (O.aX k) R;have HG:=Hz (show ∀ x,fG O x=if decide ((O.ar.aV x).2.2.2=0) && decide ((O.ar.aV x).2.1=5) then (x,0) else (0,2) from fun x=>rfl);clear hro hown fz rc B;have ra:w.cell? ⟨g,o+k,none⟩=some (.int .i64 (O.aX k)):=ra;generalize O.aX (k:Int)=va at *;have HG:=Hz (HG.out va);obtain ⟨⟨p1,kd,n1,e1⟩,hT1⟩:∃ t,O.ar.aV va=t:=⟨_,rfl⟩;rw [hT1] at HG;simp only [hT1] at hkd;have HK:=Hz hkd;clear hkd hT1;go_enter Tryz.func145,Tryz.ntmps145;go_wp2_with fail;refine a8 (.free 0 (.free 1 (.free 2 (.free 4 (.free 5 (.free 6 (.free 11 (.pure 3 (.pure 7 (.free 8 (.free 9 (.pure 10 (.free 12 (.pure 13 (.run 14 (.swi [] (.free 15 (.free 16 (.free 17 (.free 18 (.free 19 (.free 20 (.free 21 (.fin)))))))))))))))))))))))) [14,15,16,17,18,19,20,21] (Fz b0 (Fz q3 (Fa ra))) ?_
 iterate 14 refine Wz ?_
 refine aA rfl rfl rfl (fun K hK=>?_);unfold aw;go_simp;refine (HK.out _ (HB.out.same ((Kz w).drew)).H).mono ?_;rintro e3 w3 ⟨rfl,rfl⟩;refine hK _ _ ?_;clear hK K;refine aB (fun _=>True) trivial ?_
 iterate 7 refine Wz ?_
 refine av ?_;by_cases he1:e1=0
 ·subst he1;by_cases hk5:kd=5
  ·subst hk5;have HE:=Hz (show fG O va=(va,0) by rw [HG.out];rfl);go_wp2_with fail;go_ret2;rw [HE.out];exact ⟨rfl,(aa.refl _ _).drew⟩
  ·have hd:(kd != 5)=true:=by simpa using hk5
   have HE:=Hz (show fG O va=(0,2) by rw [HG.out];simp [hk5]);clear hk5;go_wp2_with fail;go_ret2;rw [HE.out];exact ⟨rfl,(aa.refl _ _).drew⟩
 ·have hd:(e1 != 0)=true:=by simpa using he1
  have HE:=Hz (show fG O va=(0,2) by rw [HG.out];simp [he1]);clear he1;go_wp2_with fail;go_ret2;rw [HE.out];exact ⟨rfl,(aa.refl _ _).drew⟩
end
end
section
open Go.RowKit
structure dj where
 p:Nat
 tv:Value
 rv:Value
 gv:Value
 wv:Value
 fv:Nat→Value
def dj.Own (h:dj) (k:Nat):Prop:=k=h.p∨ak h.tv k∨ak h.rv k∨ak h.gv k∨ak h.wv k∨∃ i,ak (h.fv i) k
structure nA (w:World) (u:Value) (t:Th) (c0 c1 c2 c3:Option Value):Prop where
 d:c3=some (.bool t.dead)
 k:t.dead=false→c0=some (.int .i64 t.k)
 f:t.dead=false→c1=some u
 o:t.dead=false→c2=some (.bool t.aI)
 s:t.dead=false→Sl w 96 2 u t.fs.length (aE t.fs)
 c:∃ (a:Int) (b:Value) (c:Bool),c0=some (.int .i64 a)∧c1=some b∧c2=some (.bool c)
def eL (w:World) (v:Value) (fv:Nat→Value) (T:List Th):Prop:=
 ∃ cs,Sl w 200 4 v T.length cs∧∀ i,i<T.length→nA w (fv i) (T.getD i Th.none) cs[i*4]? cs[i*4+1]? cs[i*4+2]? cs[i*4+3]?
theorem eL.ab {w w':World} {v:Value} {fv:Nat→Value} {T:List Th} {S:Nat→Prop} (h:eL w v fv T) (k:aa S w w') (hv:∀ b,ak v b→¬ S b) (hf:∀ i b,ak (fv i) b→¬ S b):eL w' v fv T:=by
 obtain ⟨cs,hs,hr⟩:=h;exact ⟨cs,hs.ab k hv,fun i hi=>⟨(hr i hi).d,(hr i hi).k,(hr i hi).f,(hr i hi).o,fun hd=>((hr i hi).s hd).ab k (hf i),(hr i hi).c⟩⟩
structure aQ (w:World) (h:dj) (W:Wd):Prop where
 hp:aj w h.p [h.tv,h.rv,h.gv,h.wv, .int .i64 W.az, .int .i64 W.cm, .int .i64 W.most, .int .i64 W.grow] 191
 ht:eL w h.tv h.fv W.T
 hr:Sl w 96 2 h.rv W.roots.length (aE W.roots)
 hg:Sl w 101 2 h.gv W.ah.length (aE W.ah)
 hw:Sl w 101 2 h.wv W.wait.length (aE W.wait)
 ap:∀ k,¬ (ak h.gv k∧ak h.wv k)
 af:∀ i k,ak (h.fv i) k→k<w.heap.size∧(∃ c,aj w k c 96)∧¬ ak h.rv k
 fi:∀ i j k,ak (h.fv i) k→ak (h.fv j) k→i=j
 fl:∀ (i:Nat) k,ak (h.fv i) k→W.live (i:Int)
 ok:W.ok
def aS (w:World) (h:dj) (w':World) (W':Wd):Prop:=
 ∃ h',aQ w' h' W'∧h'.p=h.p∧aa h.Own w w'∧∀ k,h'.Own k→h.Own k∨w.heap.size≤k
section
variable {w w':World} {h:dj} {W W':Wd}
theorem aQ.ab {S:Nat→Prop} (H:aQ w h W) (k:aa S w w') (hn:∀ b,h.Own b→¬ S b):aQ w' h W:=
 ⟨k.aq H.hp (hn _ (.inl rfl)),H.ht.ab k (fun b hb=>hn b (.inr (.inl hb))) (fun i b hb=>hn b (.inr (.inr (.inr (.inr (.inr ⟨i,hb⟩)))))),H.hr.ab k (fun b hb=>hn b (.inr (.inr (.inl hb)))),H.hg.ab k (fun b hb=>hn b (.inr (.inr (.inr (.inl hb))))),
  H.hw.ab k (fun b hb=>hn b (.inr (.inr (.inr (.inr (.inl hb)))))),H.ap,fun i b hb=>by
   obtain ⟨h1,⟨c,h2⟩,h3⟩:=H.af i b hb
   exact ⟨Nat.lt_of_lt_of_le h1 k.size,⟨c,k.aq h2 (hn b (.inr (.inr (.inr (.inr (.inr ⟨i,hb⟩))))))⟩,h3⟩,H.fi,H.fl,H.ok⟩
theorem aQ.same (H:aQ w h W) (k:aa (fun _=>False) w w'):aQ w' h W:=H.ab k (fun _ _ h=>h)
theorem aS.same (H:aQ w h W) (k:aa (fun _=>False) w w'):aS w h w' W:=⟨h,H.same k,rfl,k.mono (fun _ _ h=>h.elim),fun k hk=>.inl hk⟩
theorem aS.aK {w1:World} {W1:Wd} (k:aa (fun _=>False) w w1) (t:aS w1 h w' W1):aS w h w' W1:=by
 obtain ⟨h1,H1,e1,k1,o1⟩:=t;exact ⟨h1,H1,e1,(k.mono (fun _ _ h=>h.elim)).trans k1,fun b hb=>(o1 b hb).imp id (fun h=>Nat.le_trans k.size h)⟩
theorem aS.step {w1 w2:World} {h1:dj} {W':Wd} (ep:h1.p=h.p) (k:aa h.Own w w1) (o:∀ b,h1.Own b→h.Own b∨w.heap.size≤b) (t:aS w1 h1 w2 W'):aS w h w2 W':=by
 obtain ⟨h2,H2,e2,k2,o2⟩:=t;refine ⟨h2,H2,e2.trans ep,k.then k2 o,fun b hb=>?_⟩;rcases o2 b hb with h | h
 ·exact o b h
 ·exact .inr (Nat.le_trans k.size h)
theorem aQ.bB (H:aQ w h W) {k:Nat} (hk:h.Own k):k<w.heap.size∧∃ c T,aj w k c T∧(T=191∨T=200∨T=96∨T=101):=by
 rcases hk with rfl | hk | hk | hk | hk | ⟨i,hk⟩
 ·exact ⟨H.hp.lt,_,_,H.hp, .inl rfl⟩
 ·obtain ⟨cs,hs,_⟩:=H.ht;obtain ⟨h1,c,hc⟩:=hs.own hk;exact ⟨h1,c,_,hc, .inr (.inl rfl)⟩
 ·obtain ⟨h1,c,hc⟩:=H.hr.own hk;exact ⟨h1,c,_,hc, .inr (.inr (.inl rfl))⟩
 ·obtain ⟨h1,c,hc⟩:=H.hg.own hk;exact ⟨h1,c,_,hc, .inr (.inr (.inr rfl))⟩
 ·obtain ⟨h1,c,hc⟩:=H.hw.own hk;exact ⟨h1,c,_,hc, .inr (.inr (.inr rfl))⟩
 ·obtain ⟨h1,⟨c,hc⟩,_⟩:=H.af i k hk;exact ⟨h1,c,_,hc, .inr (.inr (.inl rfl))⟩
theorem aQ.a5 (H:aQ w h W) {k:Nat} (hk:h.Own k):k<w.heap.size:=(H.bB hk).1
theorem aQ.cells (H:aQ w h W):w.cell? ⟨h.p,0,none⟩=some h.tv∧w.cell? ⟨h.p,1,none⟩=some h.rv∧w.cell? ⟨h.p,2,none⟩=some h.gv∧w.cell? ⟨h.p,3,none⟩=some h.wv ∧
  w.cell? ⟨h.p,4,none⟩=some (.int .i64 W.az)∧w.cell? ⟨h.p,5,none⟩=some (.int .i64 W.cm)∧w.cell? ⟨h.p,6,none⟩=some (.int .i64 W.most)∧w.cell? ⟨h.p,7,none⟩=some (.int .i64 W.grow):=
 ⟨H.hp.cell 0,H.hp.cell 1,H.hp.cell 2,H.hp.cell 3,H.hp.cell 4,H.hp.cell 5,H.hp.cell 6,H.hp.cell 7⟩
def dj.gx (h:dj) (W:Wd):GX:=⟨h.tv,h.rv, .int .i64 W.az, .int .i64 W.cm, .int .i64 W.most, .int .i64 W.grow⟩
theorem aQ.side (H:aQ w h W):bR (h.gx W) w h.p h.gv h.wv W.ah W.wait:=⟨H.hp,H.hg,H.hw,H.ap⟩
theorem aQ.tv (H:aQ w h W):∃ no nc,h.tv=.slice no W.T.length nc:=by
 obtain ⟨cs,hs,-⟩:=H.ht;obtain ⟨no,nc,e,-,-,-⟩:=hs.rd;exact ⟨no,nc,e⟩
theorem aQ.nth (H:aQ w h W) {i:Nat} (hi:i<W.T.length):∃ g o nc,h.tv=.slice (some ⟨g,o,none⟩) W.T.length nc∧ak h.tv g∧g<w.heap.size∧(∀ j,w.frozen? ⟨g,j,none⟩=false) ∧
  nA w (h.fv i) (W.T.getD i Th.none) (w.cell? ⟨g,o+i*4,none⟩) (w.cell? ⟨g,o+i*4+1,none⟩) (w.cell? ⟨g,o+i*4+2,none⟩) (w.cell? ⟨g,o+i*4+3,none⟩):=by
 obtain ⟨cs,hs,hr⟩:=H.ht;obtain ⟨g,o,cap,cur,e,hb,h1,h2,h3,h4⟩:=hs.laid (by omega);have hl:=hs.1;have hc:∀ j,j<W.T.length*4→w.cell? ⟨g,o+j,none⟩=cs[j]? := fun j hj=>by
  rw [hb.cell,←h4,List.getElem?_take,if_pos hj,List.getElem?_drop]
 refine ⟨g,o,cap,e,by rw [e];rfl,hb.lt,hb.free,?_⟩;have:=hr i hi;rw [hc (i*4) (by omega),Nat.add_assoc o (i*4) 1,hc (i*4+1) (by omega),Nat.add_assoc o (i*4) 2,hc (i*4+2) (by omega),Nat.add_assoc o (i*4) 3,hc (i*4+3) (by omega)];exact this
theorem Wd.gH (W:Wd) (i:Nat):W.th (i:Int)=W.T.getD i Th.none:=by unfold Wd.th;rw [Int.toNat_natCast]
theorem aQ.root (H:aQ w h W) {k:Nat} (hk:k<12):∃ g o rc,h.rv=.slice (some ⟨g,o,none⟩) W.roots.length rc∧g<w.heap.size∧w.cell? ⟨g,o+k*2,none⟩=some (.int .i64 (W.rt k).1)∧w.cell? ⟨g,o+k*2+1,none⟩=some (.int .i64 (W.rt k).2):=by
 have hl:=H.ok.hr;obtain ⟨ao,rc,e,hrd,-,-⟩:=H.hr.rd;obtain ⟨g,o,rfl,hg,h0,h1⟩:=hrd.fP k (by omega);exact ⟨g,o,rc,e,hg,by rw [h0];unfold Wd.rt;rw [Int.toNat_natCast],by rw [h1];unfold Wd.rt;rw [Int.toNat_natCast]⟩
end
end
section
open Go.RowKit
def jU (l:List Nat):List Value:=l.map fun (k:Nat)=>Value.int .i64 (k:Int)
structure du (w:World) (gp lb ib:Nat) (nv:Value) (t:List Bool × List Nat):Prop where
 hp:aj w lb [.pointer (some ⟨gp,0,none⟩), .slice (some ⟨ib,0,none⟩) t.1.length t.1.length,nv] 207
 hi:aj w ib (t.1.map Value.bool) 4
 hn:Sl w 3 1 nv t.2.length (jU t.2)
def fX (lb ib:Nat) (nv:Value) (k:Nat):Prop:=k=lb∨k=ib∨ak nv k
def gQ (w:World) (gp lb ib:Nat) (nv:Value) (w':World) (t:List Bool × List Nat):Prop:=
 ∃ nv',du w' gp lb ib nv' t∧aa (fX lb ib nv) w w'∧∀ k,ak nv' k→ak nv k∨w.heap.size≤k
def gfalsW (w:World) (b:Nat):Nat:=match w.heap[b]? with
 | some (.cells a _ _)=>(a.toList.map fun v=>match v with | .bool false=>1 | _=>0).sum
 | _=>0
def sE (w:World) (b i:Nat):Nat:=match w.cell? ⟨b,i,none⟩ with
 | some (.slice _ n _)=>n
 | _=>0
theorem wB {w:World} {b:Nat} {l:List Bool} {T:TypeId} (h:aj w b (l.map Value.bool) T):gfalsW w b=cE l:=by
 unfold aj at h;unfold gfalsW;rw [h];simp only [cE];congr 1;simp only [List.map_map];refine List.map_congr_left fun x _=>?_;cases x <;> rfl
section
variable {w w':World} {gp lb ib:Nat} {nv:Value} {t:List Bool × List Nat}
theorem du.bN (L:du w gp lb ib nv t):gfalsW w ib=cE t.1:=wB L.hi
theorem du.tY (L:du w gp lb ib nv t):sE w lb 2=t.2.length:=by
 obtain ⟨no,nc,e,-,-,-⟩:=L.hn.rd;have:=L.hp.cell 2;simp only [Lz,aC] at this;unfold sE;rw [this,e]
theorem du.ab {S:Nat→Prop} (L:du w gp lb ib nv t) (k:aa S w w') (hn:∀ b,fX lb ib nv b→¬ S b):du w' gp lb ib nv t:=
 ⟨k.aq L.hp (hn _ (.inl rfl)),k.aq L.hi (hn _ (.inr (.inl rfl))),L.hn.ab k (fun b hb=>hn b (.inr (.inr hb)))⟩
theorem du.same (L:du w gp lb ib nv t) (k:aa (fun _=>False) w w'):du w' gp lb ib nv t:=L.ab k (fun _ _ h=>h)
theorem gQ.same (L:du w gp lb ib nv t) (k:aa (fun _=>False) w w'):gQ w gp lb ib nv w' t:=⟨nv,L.same k,k.mono (fun _ _ h=>h.elim),fun k hk=>.inl hk⟩
theorem du.bB (L:du w gp lb ib nv t) {k:Nat} (hk:fX lb ib nv k):k<w.heap.size∧∃ c T,aj w k c T∧(T=207∨T=4∨T=3):=by
 rcases hk with rfl | rfl | hk
 ·exact ⟨L.hp.lt,_,_,L.hp, .inl rfl⟩
 ·exact ⟨L.hi.lt,_,_,L.hi, .inr (.inl rfl)⟩
 ·obtain ⟨h1,c,hc⟩:=L.hn.own hk;exact ⟨h1,c,_,hc, .inr (.inr rfl)⟩
theorem du.bool (L:du w gp lb ib nv t) {i:Nat} (hi:i<t.1.length):w.cell? ⟨ib,i,none⟩=some (.bool (t.1.getD i false)):=by
 rw [L.hi.cell,List.getElem?_map,Ld,Le hi];rfl
theorem yY (i:Nat) (L:du w gp lb ib nv t) (hi:i<t.1.length) (hl:t.1.length≤1000000) :
  Calls Tryz.prog 168 #[.pointer (some ⟨lb,0,none⟩), .int .i64 i] w fun e w'=>e=.returned (.bool (au t.1 i))∧w=w':=by
 have hc:=L.bool hi;have hg:=L.hi.lt;have c1:=L.hp.cell 1;have cl:=L.hp.lt;simp only [Lz,aC] at c1;have HE:=Hz (dH t.1 i);generalize t.1.getD i false=bv at *;have hii:(i:Int)<t.1.length:=by omega
 clear L;go_enter Tryz.func168,Tryz.ntmps168;go_wp2_with fail;go_ret;rw [HE.out];exact ⟨rfl,rfl⟩
theorem du.AA (L:du w gp lb ib nv t) (i:Nat):du (w.setCell ⟨ib,i,none⟩ (.bool true)) gp lb ib nv (t.1.set i true,t.2)∧aa (fX lb ib nv) w (w.setCell ⟨ib,i,none⟩ (.bool true)):=by
 have K:=(aa.refl (·=ib) w).setCell (p:=⟨ib,i,none⟩) (.inl rfl) (.bool true);refine ⟨⟨?_,?_,L.hn.ab K (fun b hb h=>?_)⟩,K.mono (fun b _ h=>.inr (.inl h))⟩
 ·have:=K.aq L.hp (fun h=>L.hp.ne L.hi (by decide) h);simpa using this
 ·have:=L.hi.aG i (.bool true);dsimp only;rw [List.map_set];exact this
 ·obtain ⟨_,c',hc'⟩:=L.hn.own hb;exact hc'.ne L.hi (by decide) h
theorem oQ (v:Vl) (L:du w gp lb ib nv t) (hv:v.1=3→0≤v.2∧v.2<t.1.length) (hl:t.1.length≤100000) (hn:t.2.length≤100000) :
  Calls Tryz.prog 166 #[.pointer (some ⟨lb,0,none⟩), .agg #[.int .i64 v.1, .int .i64 v.2]] w fun e w'=>e=.returned (.tuple #[])∧gQ w gp lb ib nv w' (bW t v):=by
 obtain ⟨i0,hi,hz0,hz1,hz2⟩:=info_parts iK;have Hi:=Hz hi;have Hz0:=Hz hz0;have Hz1:=Hz hz1;have Hz2:=Hz hz2;clear hi hz0 hz1 hz2;obtain ⟨kd,x⟩:=v;dsimp only at hv ⊢;have ax:aj (w.alloc (.cells #[.int .i64 kd, .int .i64 x] 96)) w.heap.size [.int .i64 kd, .int .i64 x] 96:=aj.newAt _ rfl rfl;have ka:=(Kz w).alloc (.cells #[.int .i64 kd, .int .i64 x] 96);have L0:=Hz L;have L1:=Hz (L.same ka);have K1:=Hz ka;have B1:=Hz ax;clear ax ka L;go_enter Tryz.func166,Tryz.ntmps166;go_upto_region 1 with (fail)
 generalize w.alloc (.cells #[.int .i64 kd, .int .i64 x] 96)=w1 at *;generalize hsb:w.heap.size=sb at *;have HSB:=Hz hsb;clear hsb;have s0:=B1.out.cell 0;have s1:=B1.out.cell 1;have sl:=B1.out.lt;simp only [Lz,aC] at s0 s1;have cl:=L1.out.hp.lt;by_cases h3:kd=3
 case neg=>
  have hd:(kd == 3)=false:=by simpa using h3
  have HE:=Hz (show bW t (kd,x)=t by unfold bW;rw [if_neg (fun h=>h3 h.1)]);clear h3;go_wp2_with fail;refine a8 (.free 0 (.pure 1 (.free 2 (.free 3 (.free 4 (.free 5 (.free 6 (.free 8 (.pure 7 (.pure 9 (.free 10 (.pure 11 (.free 12 (.free 13 (.fin))))))))))))))) [] (Fa s0) ?_
  iterate 14 refine Wz ?_
  refine av ?_;go_wp2_with fail;go_end0;refine ⟨rfl,?_⟩;rw [HE.out];exact gQ.same L0.out K1.out.drew
 subst h3;obtain ⟨x0,x1⟩:=hv rfl;obtain ⟨x,rfl⟩:=Int.eq_ofNat_of_zero_le x0;have hxl:x<t.1.length:=by omega
 have hc:=L1.out.bool hxl;have hg:=L1.out.hi.lt;have hfx:=L1.out.hi.free x;have c1:=L1.out.hp.cell 1;simp only [Lz,aC] at c1;have hat:=dH t.1 x;have hxi:(x:Int)<t.1.length:=x1;clear x0 hv;obtain ⟨bv,dV⟩:∃ b,t.1.getD x false=b:=⟨_,rfl⟩;rw [dV] at hc hat
 cases bv
 case true=>
  have HE:=Hz (show bW t (3,(x:Int))=t by unfold bW;rw [if_neg (fun h=>by have:=h.2;dsimp only at this;rw [hat] at this;cases this)]);clear hat dV hfx;go_wp2_with fail;refine a8 (.free 0 (.pure 1 (.free 2 (.free 3 (.free 4 (.free 5 (.free 6 (.free 8 (.pure 7 (.pure 9 (.free 10 (.pure 11 (.free 12 (.free 13 (.fin))))))))))))))) [] (Fz s0 (Fz s1 (Fz c1 (Fa hc)))) ?_
  iterate 14 refine Wz ?_
  refine av ?_;go_wp2_with fail;go_end0;refine ⟨rfl,?_⟩;rw [HE.out];exact gQ.same L0.out K1.out.drew
 have HE:=Hz (show bW t (3,(x:Int))=(t.1.set x true,t.2 ++ [x]) by unfold bW;rw [if_pos ⟨rfl,hat⟩];rfl);clear hat dV;go_wp2_with fail;refine a8 (.free 0 (.pure 1 (.free 2 (.free 3 (.free 4 (.free 5 (.free 6 (.free 8 (.pure 7 (.pure 9 (.free 10 (.pure 11 (.free 12 (.free 13 (.fin))))))))))))))) [] (Fz s0 (Fz s1 (Fz c1 (Fa hc)))) ?_
 iterate 14 refine Wz ?_
 refine av ?_;go_wp2_with fail;refine a8 (.free 0 (.free 1 (.free 2 (.free 4 (.pure 3 (.pure 5 (.free 6 (.run 7 (.swi [] (.fin)))))))))) [7] (Fz s1 (Fa c1)) ?_
 iterate 7 refine Wz ?_
 refine aA rfl rfl rfl (fun K hK=>?_);unfold aw;go_simp;refine hK _ _ ?_;clear hK K;refine aB (fun _=>True) trivial (av ?_);have hL2:=(L1.out.AA x);have kd2:=(Kz (w1.setCell ⟨ib,x,none⟩ (.bool true))).drew.drew;have L2:=Hz (hL2.1.same kd2);have K2:=Hz ((hL2.2.trans (kd2.mono (fun _ _ h=>h.elim))));have BS2:=Hz (show aj _ sb _ _ from kd2.aq (B1.out.dO (a:=⟨ib,x,none⟩) (B1.out.ne L1.out.hi (by decide)) (.bool true)) (fun h=>h));clear hL2 kd2 s0 s1 sl c1 hc hfx hg cl;generalize (w1.setCell ⟨ib,x,none⟩ (.bool true)).drew.drew=w2 at *;have s1:=BS2.out.cell 1;have sl:=BS2.out.lt;have c2:=L2.out.hp.cell 2;have cl:=L2.out.hp.lt;simp only [Lz,aC] at s1 c2;obtain ⟨no,nc,en,-,-,-⟩:=L2.out.hn.rd;rw [en] at c2;have HN2:=Hz (show Sl w2 3 1 (.slice no t.2.length nc) t.2.length (jU t.2) by have:=L2.out.hn;rw [en] at this;exact this);have HEN:=Hz en;have HSZ:=Hz (show w.heap.size≤w2.heap.size from by have:=K1.out.size;have:=K2.out.size;omega);clear en;go_wp2_with fail;refine a8 (.free 0 (.free 1 (.free 2 (.free 3 (.free 5 (.pure 4 (.pure 6 (.run 7 (.run 8 (.swi [11] (.free 9 (.free 10 (.run 11 (.swi [] (.fin))))))))))))))) [8,9,10,11] (Fz c2 (Fa s1)) ?_
 iterate 7 refine Wz ?_
 refine aM rfl rfl (fun K hK=>?_);unfold aw;go_simp;have hka:aa (fun _=>False) w2 ((w2.alloc (.cells #[.int .i64 x] 3)).drew):=((Kz w2).alloc (.cells #[.int .i64 x] 3)).drew;refine hK _ _ (fun _=>⟨(hka.aq L2.out.hp (fun h=>h)).cell 2 |>.trans (by simp [HEN.out]),(hka.aq BS2.out (fun h=>h)).cell 1⟩) ?_;clear hK K;refine aA rfl rfl rfl (fun K hK=>?_);refine dF (.tmp 29) (.tmp 32) 83 rfl 3 i0 (.int .i64 0) 1 8 Tryz.underlying83 Hi.out Hz0.out Hz1.out Hz2.out rfl (by decide) _ t.2.length (jU t.2) rfl (HN2.out.ab hka (fun _ _ h=>h)) ⟨w2.heap.size,0,none⟩ 1 1 [.int .i64 x] rfl rfl (bX w2 3 #[.int .i64 x]) (by intro u hu;simp at hu;subst hu;rfl) (by unfold maxLen;omega) (by omega) ?_;intro v3 w3 hs3 hk3 ho3;refine hK _ _ ?_;clear hK K;obtain ⟨vo3,vc3,rfl,-,-,-⟩:=hs3.rd;have hnl:¬ ak (.slice no t.2.length nc) lb:=fun e=>by
  obtain ⟨_,c,hc⟩:=HN2.out.own e;exact L2.out.hp.ne hc (by decide) rfl
 have hp3:=hk3.aq (hka.aq L2.out.hp (fun h=>h)) hnl;have x0:=hp3.cell 2;have xl:=hp3.lt;have xf:=hp3.free 2;simp only [Lz,aC] at x0;have set:=(aa.refl (·=lb) w3).setCell (p:=⟨lb,2,none⟩) (.inl rfl) (.slice vo3 (t.2.length+1) vc3);have K13:aa (fX lb ib nv) w1 w3:=(K2.out.then hka (fun _ h=>h.elim)).then hk3 (fun k hk=>.inl (.inr (.inr (by rw [HEN.out];exact hk))));have L4:=Hz (show du (w3.setCell ⟨lb,2,none⟩ (.slice vo3 (t.2.length+1) vc3)) gp lb ib (.slice vo3 (t.2.length+1) vc3) (t.1.set x true,t.2 ++ [x]) from
  ⟨by simpa using hp3.aG 2 (.slice vo3 (t.2.length+1) vc3),set.aq (hk3.aq (hka.aq L2.out.hi (fun h=>h)) (fun e=>by
   obtain ⟨_,c',hc'⟩:=HN2.out.own e
   exact L2.out.hi.ne hc' (by decide) rfl)) (fun e=>L2.out.hi.ne L2.out.hp (by decide) e),by
   have e1:jU (t.2 ++ [x])=jU t.2 ++ [.int .i64 x]:=by simp [jU]
   have e2:(t.2 ++ [x]).length=t.2.length+1:=by simp
   dsimp only;rw [e1,e2];exact hs3.ab set (fun b hb e=>by
    obtain ⟨_,c,hc⟩:=hs3.own hb
    exact hc.ne hp3 (by decide) e)⟩)
 have K4:=Hz (K13.then set (fun k hk=>.inl (.inl hk)));have O4:=Hz (show ∀ k,ak (.slice vo3 (t.2.length+1) vc3) k→ak nv k∨w.heap.size≤k from fun k hk=>by
  rcases ho3 k hk with h1 | h1
  ·exact .inl (by rw [HEN.out];exact h1)
  ·refine .inr (Nat.le_trans HSZ.out ?_)
   have:=hka.size;omega)
 clear hs3 hk3 ho3 hnl hp3 set K13 c2 cl s1 sl hka;refine aB (fun _=>True) trivial ?_
 iterate 2 refine Wz ?_
 refine aA rfl rfl rfl (fun K hK=>?_);unfold aw;go_simp;refine hK _ _ ?_;clear hK K;refine aB (fun _=>True) trivial (av ?_);clear x0 xl xf;go_wp2_with fail;go_end0;refine ⟨rfl,?_⟩;rw [HE.out];exact ⟨_,L4.out,(K1.out.mono (fun _ _ h=>h.elim)).trans K4.out,O4.out⟩
end
end
section
open Go.RowKit
section
variable {w w':World} {tv:Value} {fv:Nat→Value} {L:List Th} {i:Nat} {is:List Bool} {ib:Nat}
theorem fH {cs:List Value} {i n:Nat} (hl:cs.length=n*4) (hi:i<n) (j:Nat) (hj:j<4) (k:Nat) (hk:k<4) (v:Value) :
  (cs.set (i*4+j) v)[i*4+k]? = if j=k then some v else cs[i*4+k]? := by
 rw [List.getElem?_set];by_cases e:j=k
 ·subst e;simp;omega
 ·rw [if_neg (by omega),if_neg e]
theorem il {cs:List Value} {i m:Nat} (h:m≠i) (j:Nat) (hj:j<4) (k:Nat) (hk:k<4) (v:Value):(cs.set (i*4+j) v)[m*4+k]? = cs[m*4+k]? := by
 rw [List.getElem?_set,if_neg (by omega)]
theorem zB {L:List Th} {i:Nat} (hi:i<L.length) (t:Th) (j:Nat):(L.set i t).getD j Th.none=if j=i then t else L.getD j Th.none:=by
 simp only [Ld,List.getElem?_set];by_cases e:i=j
 ·subst e;simp [hi]
 ·rw [if_neg e,if_neg (fun h=>e h.symm)]
theorem eL.row {g o nc:Nat} (T:eL w (.slice (some ⟨g,o,none⟩) L.length nc) fv L) (hi:i<L.length):g<w.heap.size∧(∀ j,w.frozen? ⟨g,j,none⟩=false) ∧
  nA w (fv i) (L.getD i Th.none) (w.cell? ⟨g,o+i*4,none⟩) (w.cell? ⟨g,o+i*4+1,none⟩) (w.cell? ⟨g,o+i*4+2,none⟩) (w.cell? ⟨g,o+i*4+3,none⟩):=by
 obtain ⟨cs,hs,hr⟩:=T;obtain ⟨g',o',cap,cur,e,hb,h1,h2,h3,h4⟩:=hs.laid (by omega);cases e;have hl:=hs.1;have hc:∀ j,j<L.length*4→w.cell? ⟨g,o+j,none⟩=cs[j]? := fun j hj=>by
  rw [hb.cell,←h4,List.getElem?_take,if_pos hj,List.getElem?_drop]
 refine ⟨hb.lt,hb.free,?_⟩;have:=hr i hi;rw [hc (i*4) (by omega),Nat.add_assoc o (i*4) 1,hc (i*4+1) (by omega),Nat.add_assoc o (i*4) 2,hc (i*4+2) (by omega),Nat.add_assoc o (i*4) 3,hc (i*4+3) (by omega)];exact this
theorem eL.zC (T:eL w tv fv L) (k:aa (fun _=>False) w w'):eL w' tv fv L:=T.ab k (fun _ _ h=>h) (fun _ _ _ h=>h)
theorem BK {f:Vl→Vl} {fs:List Vl} {q:Nat}:((fs.take q).map f ++ fs.drop q).getD q (0,0)=fs.getD q (0,0):=by
 simp only [Ld];by_cases h:q<fs.length
 ·rw [List.getElem?_append_right (by simp;omega)];simp [Nat.min_eq_left (Nat.le_of_lt h)]
 ·rw [List.getElem?_eq_none (by simp;omega),List.getElem?_eq_none (by omega)]
theorem BL {f:Vl→Vl} {fs:List Vl} {q:Nat} (h:q<fs.length):(fs.take (q+1)).map f ++ fs.drop (q+1)=((fs.take q).map f ++ fs.drop q).set q (f (fs.getD q (0,0))):=by
 rw [List.set_append_right _ _ (by simp;omega),←List.take_append_getElem h,List.map_append,List.append_assoc];congr 1;rw [List.length_map,List.length_take,Nat.min_eq_left (Nat.le_of_lt h),Nat.sub_self,List.drop_eq_getElem_cons h,List.set_cons_zero];rw [Ld,Le h]
 rfl
theorem CT {f:Vl→Vl} {fs:List Vl} {q:Nat} (h:q<fs.length) (e:f (fs.getD q (0,0))=fs.getD q (0,0)):(fs.take (q+1)).map f ++ fs.drop (q+1)=(fs.take q).map f ++ fs.drop q:=by
 rw [BL h,e];apply List.ext_getElem?;intro j;rw [List.getElem?_set];by_cases hj:q=j
 ·subst hj;have hl:q<((fs.take q).map f ++ fs.drop q).length:=by simp;omega
  rw [if_pos rfl,if_pos hl,←BK (f:=f),Ld,Le hl];rfl
 ·rw [if_neg hj]
theorem eL.aI {g o nc:Nat} (T:eL w (.slice (some ⟨g,o,none⟩) L.length nc) fv L) (hi:i<L.length) (hf:∀ j b,ak (fv j) b→b≠g) :
  eL (w.setCell ⟨g,o+i*4+2,none⟩ (.bool true)) (.slice (some ⟨g,o,none⟩) L.length nc) fv (L.set i { L.getD i Th.none with aI:=true })∧aa (·=g) w (w.setCell ⟨g,o+i*4+2,none⟩ (.bool true)):=by
 have K:=(aa.refl (·=g) w).setCell (p:=⟨g,o+i*4+2,none⟩) (.inl rfl) (.bool true);obtain ⟨cs,hs,hr⟩:=T;have hl:=hs.1;have hs2:=hs.set (j:=i*4+2) (u:=.bool true) (by omega);rw [←Nat.add_assoc] at hs2;refine ⟨⟨_,by rw [List.length_set];exact hs2,fun j hj=>?_⟩,K⟩;rw [List.length_set] at hj;have h:=hr j hj;rw [zB hi];by_cases e:j=i
 ·subst e;rw [if_pos rfl,←Nat.add_zero (j*4),fH hl hi 2 (by decide) 0 (by decide),fH hl hi 2 (by decide) 1 (by decide),fH hl hi 2 (by decide) 2 (by decide),fH hl hi 2 (by decide) 3 (by decide)];obtain ⟨a,b,c,h0,h1,h2⟩:=h.c;exact ⟨h.d,h.k,h.f,fun _=>rfl,fun hd=>(h.s hd).ab K (fun b hb e=>hf j b hb e),a,b,true,h0,h1,rfl⟩
 ·rw [if_neg e,←Nat.add_zero (j*4),il e 2 (by decide) 0 (by decide),il e 2 (by decide) 1 (by decide),il e 2 (by decide) 2 (by decide),il e 2 (by decide) 3 (by decide)];exact ⟨h.d,h.k,h.f,h.o,fun hd=>(h.s hd).ab K (fun b hb e=>hf j b hb e),h.c⟩
theorem eL.gone {g o nc:Nat} {cs:List Value} {t:Th} (hs:Sl w 200 4 (.slice (some ⟨g,o,none⟩) L.length nc) L.length cs)
  (hr:∀ i,i<L.length→nA w (fv i) (L.getD i Th.none) cs[i*4]? cs[i*4+1]? cs[i*4+2]? cs[i*4+3]?) (hi:i<L.length) (hf:∀ j b,ak (fv j) b→b≠g) (ht:t.dead=true)
  (hs':Sl w' 200 4 (.slice (some ⟨g,o,none⟩) L.length nc) L.length ((((cs.set (i*4) (.int .i64 0)).set (i*4+1) (.slice none 0 0)).set (i*4+2) (.bool false)).set (i*4+3) (.bool true))) (K:aa (·=g) w w') :
  eL w' (.slice (some ⟨g,o,none⟩) L.length nc) (fun j=>if j=i then .slice none 0 0 else fv j) (L.set i t):=by
 have hl:=hs.1;refine ⟨_,by rw [List.length_set];exact hs',fun j hj=>?_⟩;rw [List.length_set] at hj;have h:=hr j hj;rw [zB hi];rw [←Nat.add_zero (i*4)]
 show nA w' (if j=i then Value.slice none 0 0 else fv j) _ _ _ _ _
 have l1:(cs.set (i*4+0) (.int .i64 0)).length=L.length*4:=by simpa using hl
 have l2:((cs.set (i*4+0) (.int .i64 0)).set (i*4+0+1) (.slice none 0 0)).length=L.length*4:=by simpa using hl
 have l3:(((cs.set (i*4+0) (.int .i64 0)).set (i*4+0+1) (.slice none 0 0)).set (i*4+0+2) (.bool false)).length=L.length*4:=by simpa using hl
 by_cases e:j=i
 ·subst e;rw [if_pos rfl,if_pos rfl];refine ⟨?_,fun h=>?_,fun h=>?_,fun h=>?_,fun h=>?_,0, .slice none 0 0,false,?_,?_,?_⟩
  ·simp only [Nat.add_zero] at l3 ⊢;rw [fH l3 hi 3 (by decide) 3 (by decide),if_pos rfl,ht]
  ·rw [ht] at h;cases h
  ·rw [ht] at h;cases h
  ·rw [ht] at h;cases h
  ·rw [ht] at h;cases h
  ·simp only [Nat.add_zero] at l1 l2 l3 ⊢;have e3:=fH l3 hi 3 (by decide) 0 (by decide) (.bool true);have e2:=fH l2 hi 2 (by decide) 0 (by decide) (.bool false);have e1:=fH l1 hi 1 (by decide) 0 (by decide) (.slice none 0 0);have e0:=fH hl hi 0 (by decide) 0 (by decide) (.int .i64 0);simp only [Nat.add_zero] at e0 e1 e2 e3;rw [e3,if_neg (by decide),e2,if_neg (by decide),e1,if_neg (by decide),e0];simp
  ·simp only [Nat.add_zero] at l1 l2 l3 ⊢;rw [fH l3 hi 3 (by decide) 1 (by decide),if_neg (by decide),fH l2 hi 2 (by decide) 1 (by decide),if_neg (by decide),fH l1 hi 1 (by decide) 1 (by decide),if_pos rfl]
  ·simp only [Nat.add_zero] at l1 l2 l3 ⊢;rw [fH l3 hi 3 (by decide) 2 (by decide),if_neg (by decide),fH l2 hi 2 (by decide) 2 (by decide),if_pos rfl]
 ·rw [if_neg e,if_neg e,←Nat.add_zero (j*4)];have H:∀ k,k<4→((((cs.set (i*4+0) (.int .i64 0)).set (i*4+0+1) (.slice none 0 0)).set (i*4+0+2) (.bool false)).set (i*4+0+3) (.bool true))[j*4+k]? = cs[j*4+k]? := fun k hk=>by
   simp only [Nat.add_zero];rw [il e 3 (by decide) k hk,il e 2 (by decide) k hk,il e 1 (by decide) k hk];have:=il (cs:=cs) e 0 (by decide) k hk (.int .i64 0);simpa using this
  rw [H 0 (by decide),H 1 (by decide),H 2 (by decide),H 3 (by decide)];exact ⟨h.d,h.k,h.f,h.o,fun hd=>(h.s hd).ab K (fun b hb e=>hf j b hb e),h.c⟩
theorem eL.dg {fs:List Vl} (T:eL w tv fv L) (hi:i<L.length) (hd:(L.getD i Th.none).dead=false) (K:aa (ak (fv i)) w w') (hs:Sl w' 96 2 (fv i) fs.length (aE fs))
  (ht:∀ b,ak tv b→¬ ak (fv i) b) (hf:∀ j b,ak (fv i) b→ak (fv j) b→j=i):eL w' tv fv (L.set i { L.getD i Th.none with fs:=fs }):=by
 obtain ⟨cs,hc,hr⟩:=T;refine ⟨cs,by rw [List.length_set];exact hc.ab K ht,fun j hj=>?_⟩;rw [List.length_set] at hj;have h:=hr j hj;rw [zB hi];by_cases e:j=i
 ·subst e;rw [if_pos rfl];exact ⟨h.d,h.k,h.f,h.o,fun _=>hs,h.c⟩
 ·rw [if_neg e];exact ⟨h.d,h.k,h.f,h.o,fun hd=>(h.s hd).ab K (fun b hb h2=>e (hf j b h2 hb)),h.c⟩
theorem oG {P:Program} {ops:Array Oper} {rest:List Oper} {o:Oper} {a:Act} {w:World} {Q:Exit→Act→World→Prop} (hgd:o.guard=none) (ty:TypeId) (x y:Operand) (ho:o.op=.store ty x y) (hd:o.dst=none)
  (g off n cap k:Nat) (xs:List Value) (e:Nat) (v0 v1 v2 v3:Value) (hx:a.eval x=.pointer (some ⟨g,off+k*4,none⟩)) (hy:a.eval y=.agg #[v0,v1,v2,v3])
  (hs:Sl w e 4 (.slice (some ⟨g,off,none⟩) n cap) n xs) (hk:k<n) (hi:(P.info? ty).map (·.size)=some 4) (h0:∀ v ∈ [v0,v1,v2,v3],v.oneCell'=true)
  (h:∀ w',Sl w' e 4 (.slice (some ⟨g,off,none⟩) n cap) n ((((xs.set (k*4) v0).set (k*4+1) v1).set (k*4+2) v2).set (k*4+3) v3)→aa (·=g) w w'→w'.heap.size=w.heap.size→wpList P ops Q rest a w'):wpList P ops Q (o :: rest) a w:=by
 obtain ⟨g',o',cap',cur,e1,hb,hc1,hc2,hc3,hc4⟩:=hs.laid (by omega);cases e1;have hth:w.there g (off+k*4) 4:=fun j hj=>by
  have hl:off+k*4+j<cur.length:=by omega
  refine ⟨?_,hb.free _⟩;rw [hb.cell,Le hl];rfl
 refine wpList_store_mid hgd ty x y ho g (off+k*4) #[v0,v1,v2,v3] hx hy hth (by simpa using hi) (all_oneCell_toArray (cs:=[v0,v1,v2,v3]) h0) ?_;rw [hd];refine h _ ?_ ?_ ?_
 ·have s1:=hs.set (j:=k*4) (u:=v0) (by omega);have s2:=s1.set (j:=k*4+1) (u:=v1) (by omega);have s3:=s2.set (j:=k*4+2) (u:=v2) (by omega);have s4:=s3.set (j:=k*4+3) (u:=v3) (by omega);simp only [←Nat.add_assoc] at s4;exact s4
 ·exact ((((aa.refl (·=g) w).setCell (p:=⟨g,off+k*4,none⟩) (.inl rfl) v0).setCell (p:=⟨g,off+k*4+1,none⟩) (.inl rfl) v1).setCell (p:=⟨g,off+k*4+2,none⟩) (.inl rfl) v2).setCell (p:=⟨g,off+k*4+3,none⟩) (.inl rfl) v3
 ·show (World.setCell _ _ _).heap.size=_
  simp
theorem vz (v:Vl) {bb n:Nat} (hb:aj w bb [.slice (some ⟨ib,0,none⟩) n n] 122) (hi:aj w ib (is.map Value.bool) 4) (hn:is.length=n) (hl:n≤1000000) (hv:v.1=3→0≤v.2∧v.2<n) :
  Calls Tryz.prog 175 #[.agg #[.int .i64 v.1, .int .i64 v.2], .pointer (some ⟨bb,0,none⟩)] w fun e w'=>e=.returned (.bool (!bS is v))∧aa (fun _=>False) w w':=by
 obtain ⟨kd,x⟩:=v;dsimp only at hv ⊢;have b0:=hb.cell 0;have bl:=hb.lt;simp only [Lz] at b0;by_cases h3:kd=3
 ·subst h3;obtain ⟨x0,x1⟩:=hv rfl;obtain ⟨x,rfl⟩:=Int.eq_ofNat_of_zero_le x0;have hxl:x<is.length:=by omega
  have hc:w.cell? ⟨ib,x,none⟩=some (.bool (is.getD x false)):=by rw [hi.cell,List.getElem?_map,Ld,Le hxl];rfl
  have hil:=hi.lt;have HE:=Hz (show (!bS is (3,(x:Int)))=!is.getD x false by unfold bS;rw [dH];simp);generalize is.getD x false=bv at *;clear hb hi hv x0;go_enter Tryz.func175,Tryz.ntmps175;go_wp2_with fail;go_ret;exact ⟨db HE.out.symm,(aa.refl _ _).alloc _⟩
 ·have e3:(kd == 3)=false:=by simpa using h3
  have HE:=Hz (show (!bS is (kd,x))=false by unfold bS;simp [h3]);clear hb hi hv h3;go_enter Tryz.func175,Tryz.ntmps175;go_wp2_with fail;go_ret;exact ⟨db HE.out.symm,(aa.refl _ _).alloc _⟩
end
end
section
open Go.RowKit
def lQ (is:List Bool) (i:Nat) (t:Th):Th:=if is.getD i false=true then ⟨t.k,t.fs.map (fO is (iA is t)),true,t.dead⟩ else ⟨t.k,[],t.aI,true⟩
structure BM (L:List Th) (is:List Bool) (i:Nat):Prop where
 d:is.getD i false=true→(L.getD i Th.none).dead=false
 v:is.getD i false=true→∀ v ∈ (L.getD i Th.none).fs,v.1=3→0≤v.2∧v.2<L.length
 n:is.getD i false=true→(L.getD i Th.none).fs.length≤1000
 f:is.getD i false=true→(L.getD i Th.none).k=4→0<(L.getD i Th.none).fs.length
section
variable {w w':World} {tv:Value} {fv:Nat→Value} {L:List Th} {i:Nat} {is:List Bool} {ib:Nat}
def xQ (w:World) (tv:Value) (fv:Nat→Value) (L:List Th) (is:List Bool) (i:Nat) (w':World):Prop:=
 ∃ fv',eL w' tv fv' (L.set i (lQ is i (L.getD i Th.none)))∧aa (fun k=>ak tv k∨ak (fv i) k) w w'∧(∀ j b,ak (fv' j) b→∃ c,aj w' b c 96) ∧
  (fv'=if is.getD i false=true then fv else fun j=>if j=i then .slice none 0 0 else fv j)
theorem xR (i:Nat) {gp:Nat} {pc:List Value} (P:aj w gp pc 191) (hpc:pc[0]? = some tv) (T:eL w tv fv L) (F:∀ j b,ak (fv j) b→∃ c,aj w b c 96) (fi:∀ i j k,ak (fv i) k→ak (fv j) k→i=j)
  (HI:aj w ib (is.map Value.bool) 4) (hn:is.length=L.length) (hL:L.length≤100000) (hi:i<L.length) (ok:BM L is i) :
  Calls Tryz.prog 171 #[.pointer (some ⟨gp,0,none⟩), .int .i64 i, .slice (some ⟨ib,0,none⟩) L.length L.length] w fun e w'=>e=.returned (.tuple #[])∧xQ w tv fv L is i w':=by
 have p0:=P.cell 0;have pl:=P.lt;rw [hpc] at p0;obtain ⟨cs,hs,hr⟩:=T;obtain ⟨g,o,nc,cur,rfl,hb,-,-,-,-⟩:=hs.laid (by omega);have hc:w.cell? ⟨ib,i,none⟩=some (.bool (is.getD i false)):=by rw [HI.cell,List.getElem?_map,Ld,Le (by omega)];rfl
 have hil:=HI.lt;have hii:(i:Int)<L.length:=by omega
 have hgl:=hb.lt;have HB:=Hz hb;have HS:=Hz hs;have HR:=Hz hr;have HF:=Hz F;have HFI:=Hz fi;have HOK:=Hz ok;have HHI:=Hz HI;have HP:=Hz P;have HNL:=Hz hn;have HLL:=Hz hi;have HFG:=Hz (show ∀ j b,ak (fv j) b→b≠g from fun j b hb' e=>by
  obtain ⟨c,hc⟩:=F j b hb'
  exact hc.ne hb (by decide) e)
 have hka:=(Kz w).alloc (.cells #[.slice (some ⟨ib,0,none⟩) L.length L.length] 122);have BB:=Hz (show aj (w.alloc (.cells #[.slice (some ⟨ib,0,none⟩) L.length L.length] 122)) w.heap.size _ 122 from aj.newAt _ rfl rfl);have KA:=Hz hka;clear hb hs hr F fi ok HI P hn hka hi;cases dV:is.getD i false
 ·rw [dV] at hc;have HE:=Hz dV;clear dV;go_enter Tryz.func171,Tryz.ntmps171;have SA:=Hz (HS.out.ab KA.out (fun _ _ h=>h));go_wp2_with (refine oG rfl 200 (.tmp 24) (.tmp 23) rfl rfl g o L.length nc i cs 200 (.int .i64 0) (.slice none 0 0) (.bool false) (.bool true) rfl rfl SA.out HLL.out (by kernel_rfl) (by intro v hv;simp at hv;rcases hv with rfl | rfl | rfl | rfl <;> rfl) ?_);intro w2 hs2 hk2 hz2;have T2:=Hz (eL.gone (t:=⟨(L.getD i Th.none).k,[],(L.getD i Th.none).aI,true⟩) SA.out (fun j hj=>by
   have h:=HR.out j hj
   exact ⟨h.d,h.k,h.f,h.o,fun hd=>(h.s hd).ab KA.out (fun _ _ h=>h),h.c⟩) HLL.out HFG.out rfl hs2 hk2)
  have K2:=Hz ((KA.out.mono (T:=fun k=>ak (.slice (some ⟨g,o,none⟩) L.length nc) k∨ak (fv i) k) (fun _ _ h=>h.elim)).trans (hk2.mono (fun k _ e=>by subst e;exact .inl rfl)));have F2:=Hz (show ∀ j b,ak ((fun j=>if j=i then Value.slice none 0 0 else fv j) j) b→∃ c,aj w2 b c 96 from fun j b hb=>by
   dsimp only at hb;split at hb
   ·exact absurd hb (by intro h;cases h)
   ·obtain ⟨c,hc⟩:=HF.out j b hb
    exact ⟨c,hk2.aq (KA.out.aq hc (fun h=>h)) (HFG.out j b hb)⟩)
  clear hs2 hk2 hz2;go_wp2_with fail
  ((try simp only [Exit.inBlock,Exit.then]);refine bodyPost_ret (results_none rfl _ _ _) rfl ?_)
  refine ⟨rfl,_,?_,K2.out,F2.out,?_⟩
  ·have:lQ is i (L.getD i Th.none)=⟨(L.getD i Th.none).k,[],(L.getD i Th.none).aI,true⟩:=by unfold lQ;rw [HE.out];rfl
   rw [this];exact T2.out
  ·rw [HE.out];rfl
 ·rw [dV] at hc;have HE:=Hz dV;have hded:=HOK.out.d dV;have hvv:=HOK.out.v dV;have hvn:=HOK.out.n dV;have hvf:=HOK.out.f dV;have T1:=Hz (show eL w (.slice (some ⟨g,o,none⟩) L.length nc) fv L from ⟨cs,HS.out,HR.out⟩);obtain ⟨-,hfree,hrow⟩:=T1.out.row HLL.out;have t2:=hrow.o hded;have tf:=hfree (o+i*4+2);have T2:=Hz (T1.out.aI HLL.out HFG.out);have FS:=Hz (hrow.s hded);obtain ⟨fo,fc,efv,-,-,-⟩:=FS.out.rd;have HEF:=Hz efv;have HTG:Hid (∀ b,ak (.slice (some ⟨g,o,none⟩) L.length nc) b→¬ ak (fv i) b):=fun b h1 h2=>by
   have e:g=b:=by simpa [ak,Value.ownBlock] using h1
   exact HFG.out i b h2 e.symm
  have HG:=Hz (show lQ is i (L.getD i Th.none)=⟨(L.getD i Th.none).k,(L.getD i Th.none).fs.map (fO is (iA is (L.getD i Th.none))),true,false⟩ by unfold lQ;rw [if_pos dV,hded]);have HBK:=Hz (show iA is (L.getD i Th.none)=decide ((L.getD i Th.none).k=4∧bS is ((L.getD i Th.none).fs.getD 0 (0,0))=false) from rfl);have HST:=Hz (show (L.getD i Th.none).dead=false from hded);have HL2:=Hz (show (L.set i { L.getD i Th.none with aI:=true }).length=L.length by simp);have HT2:=Hz (show (L.set i { L.getD i Th.none with aI:=true }).getD i Th.none={ L.getD i Th.none with aI:=true } by rw [zB HLL.out,if_pos rfl]);clear hrow hfree dV hded;obtain ⟨th,hth⟩:∃ t,L.getD i Th.none=t:=⟨_,rfl⟩;rw [hth] at hvv hvn hvf t2 FS HG HBK HST T2 efv HL2 HT2 HEF;have HTH:=Hz hth;clear hth efv;obtain ⟨kd,fs,od,dd⟩:=th;dsimp only at hvv hvn hvf t2 FS HG HBK HST T2 HL2 HT2 HEF;have HVV:=Hz hvv;have HVN:=Hz hvn;go_enter Tryz.func171,Tryz.ntmps171;go_upto_region 5 with fail
  have ka:=(Kz (w.setCell ⟨g,o+i*4+2,none⟩ (.bool true))).alloc (.cells #[.slice (some ⟨ib,0,none⟩) L.length L.length] 122);have T3:=Hz (T2.out.1.zC ka);have K3:=Hz (T2.out.2.trans (ka.mono (fun _ _ h=>h.elim)));have B3:=Hz (show aj ((w.setCell ⟨g,o+i*4+2,none⟩ (.bool true)).alloc (.cells #[.slice (some ⟨ib,0,none⟩) L.length L.length] 122)) w.heap.size _ 122 from aj.newAt _ (by simp) rfl);have I3:=Hz (K3.out.aq HHI.out (fun e=>HHI.out.ne HB.out (by decide) e));have FS3:=Hz (FS.out.ab K3.out (fun b hb e=>HFG.out i b hb e));clear ka t2 tf p0 pl hc hil BB KA;generalize (w.setCell ⟨g,o+i*4+2,none⟩ (.bool true)).alloc (.cells #[.slice (some ⟨ib,0,none⟩) L.length L.length] 122)=w3 at *;generalize w.heap.size=bb at *;have hT3:=T3.out;rw [←HL2.out] at hT3;obtain ⟨hg3,-,hrow⟩:=hT3.row (i:=i) (by rw [HL2.out];exact HLL.out);rw [HT2.out] at hrow;have t0:=hrow.k HST.out;have t1:=hrow.f HST.out;rw [HEF.out] at t1;dsimp only at t0 t1;clear hrow hT3;have b0:=B3.out.cell 0;have bl:=B3.out.lt;simp only [Lz] at b0;obtain ⟨bk,hbk⟩:∃ b,iA is ⟨kd,fs,od,dd⟩=b:=⟨_,rfl⟩;rw [hbk] at HG HBK;clear hbk;go_upto_region 6 with fail
  refine gK (fun i=>Nat.blt 28 i && Nat.blt i 44 || Nat.beq i 8) (fun s' wx=>s' 8=.bool bk∧aa (fun _=>False) w3 wx) ?_ ?_
  ·intro K' hK';by_cases h4:kd=4
   ·subst h4;have h0:0<fs.length:=hvf rfl;have rd3:Rd w3 fo (aE fs):=by
     have:=FS3.out;rw [HEF.out] at this;obtain ⟨_,_,e',rd,-,-⟩:=this.rd;cases e';exact rd
    obtain ⟨gf,of,rfl,hgf,v0,v1⟩:=rd3.fP 0 h0;simp only [Nat.zero_mul,Nat.add_zero] at v0 v1;have hin:fs.getD 0 (0,0) ∈ fs:=by rw [Ld,Le h0];exact List.getElem_mem h0
    have hbk2:(!bS is (fs.getD 0 (0,0)))=bk:=by rw [HBK.out];cases bS is (fs.getD 0 (0,0)) <;> simp
    have HD:=Hz (vz (fs.getD 0 (0,0)) B3.out I3.out HNL.out (by omega) (hvv _ hin));rw [hbk2] at HD;clear hvv hvn hvf rd3 hin hbk2;generalize fs.getD 0 (0,0)=v at *;have hlf:(0:Int)<fs.length:=by omega
    go_wp2_with (refine nX (by kernel_rfl) 96 (.tmp 40) rfl (by kernel_rfl) gf of rfl _ _ v0 v1 ?_);refine HD.out.mono ?_;rintro e w4 ⟨rfl,hk⟩;go_wp2_with fail;refine ⟨by kernel_rfl,?_⟩;exact ⟨rfl,hk⟩
   ·have k4:(kd == 4)=false:=by simpa using h4
    have hbk2:bk=false:=by rw [HBK.out];simp [h4]
    subst hbk2;clear h4 hvv hvn hvf;go_wp2_with fail;refine ⟨by kernel_rfl,?_⟩;exact ⟨rfl,aa.refl _ _⟩
  intro u1 wx hR;obtain ⟨e8,hkx⟩:=hR;have e8:u1 8=.bool bk:=e8;simp (maxSteps:=2000000) only [fN,overL,List.toList_toArray,Nat.blt,Nat.beq,Nat.ble,Nat.reduceAdd,Bool.or_false,Bool.false_or,Bool.or_true,Bool.true_or,Bool.and_true,Bool.true_and,Bool.and_false,Bool.false_and,cond_true,cond_false];rw [e8];clear e8 hvv hvn hvf t0 t1 hg3 b0 bl;rename_i Kc hKc;have TX:=Hz (T3.out.zC hkx);have BX:=Hz (hkx.aq B3.out (fun h=>h));have IX:=Hz (hkx.aq I3.out (fun h=>h));have FX:=Hz (FS3.out.ab hkx (fun _ _ h=>h));have KX:=Hz (K3.out.trans (hkx.mono (fun _ _ h=>h.elim)));clear T3 B3 I3 FS3 K3 hkx;have HTX:=Hz (show ∀ w',aa (ak (fv i)) wx w'→w'.cell? ⟨g,o+i*4+1,none⟩=some (.slice fo fs.length fc)∧g<w'.heap.size from fun w' k=>by
   have hT:=TX.out;rw [←HL2.out] at hT;obtain ⟨hg3,-,hrow⟩:=hT.row (i:=i) (by rw [HL2.out];exact HLL.out);rw [HT2.out] at hrow;have t1:=hrow.f HST.out;rw [HEF.out] at t1;refine ⟨?_,Nat.lt_of_lt_of_le hg3 k.size⟩;have:=k.block g hg3 (HTG.out g (by rfl));rw [←t1]
   simp only [World.cell?,this])
  obtain ⟨t1,hg3⟩:=HTX.out wx (aa.refl _ _);have HMX:=Hz (show ∀ v ∈ fs,v.1=3→0≤v.2∧v.2<(L.length:Int) from HVV.out);go_wp2_with fail;go_loopw [49] (fun u wr=>∃ q:Nat,q≤fs.length∧u=.int .i64 q∧Sl wr 96 2 (fv i) fs.length (aE ((fs.take q).map (fO is bk) ++ fs.drop q))∧aa (ak (fv i)) wx wr) (fun u _=>fs.length-(intOf u).toNat)
  case atStart=>exact ⟨0,Nat.zero_le _,rfl,by simpa using FX.out,aa.refl _ _⟩
  case round=>
   clear t1 hg3;obtain ⟨q,hq,rfl,hsl,hkr⟩:=hrel;have HSL:=Hz hsl;have HKR:=Hz hkr;clear hsl hkr;by_cases hlt:q<fs.length
   ·have rd3:Rd wr fo (aE ((fs.take q).map (fO is bk) ++ fs.drop q)):=by
     have:=HSL.out;rw [HEF.out] at this;obtain ⟨_,_,e',rd,-,-⟩:=this.rd;cases e';exact rd
    obtain ⟨gf,of,rfl,hgf,v0,v1⟩:=rd3.fP q (by simp;omega);rw [BK] at v0 v1;have hin:fs.getD q (0,0) ∈ fs:=by rw [Ld,Le hlt];exact List.getElem_mem hlt
    have HV:=Hz (HMX.out _ hin);have MS:=Hz (BL (f:=fO is bk) hlt);have MN:=Hz (fun h=>CT (f:=fO is bk) hlt h);have HC:=Hz (show fO is bk (fs.getD q (0,0))=if (bk || !bS is (fs.getD q (0,0)))=true then (2,0) else fs.getD q (0,0) by
     unfold fO
     cases bk <;> cases bS is (fs.getD q (0,0)) <;> simp)
    clear rd3 hin;generalize fs.getD q (0,0)=v at *;obtain ⟨t1,hg3⟩:=HTX.out wr HKR.out;have hqi:(q:Int)<fs.length:=by omega
    have hvn:=HVN.out;go_upto_region 10 with (refine bZ rfl 96 (.tmp 52) rfl (by kernel_rfl) gf (of+q*2) rfl _ _ v0 v1 ?_)
    have ka:=(Kz wr).alloc (.cells #[.int .i64 v.1, .int .i64 v.2] 96);have BV:=Hz (show aj (wr.alloc (.cells #[.int .i64 v.1, .int .i64 v.2] 96)) wr.heap.size _ 96 from aj.newAt _ rfl rfl);have KV:=Hz (HKR.out.trans (ka.mono (fun _ _ h=>h.elim)));have SV:=Hz (HSL.out.ab ka (fun _ _ h=>h));clear ka t1 hg3 v0 v1 hgf HSL HKR;generalize wr.alloc (.cells #[.int .i64 v.1, .int .i64 v.2] 96)=wv at *;generalize wr.heap.size=vb at *;have c0:=BV.out.cell 0;have c1:=BV.out.cell 1;have cl:=BV.out.lt;simp only [Lz,aC] at c0 c1;have nvf:∀ b,ak (fv i) b→∃ c,aj wx b c 96:=fun b hb=>(FX.out.own hb).2;have DD:=Hz (vz v (KV.out.aq BX.out (fun h=>by obtain ⟨c,hc⟩:=nvf _ h;exact BX.out.ne hc (by decide) rfl)) (KV.out.aq IX.out (fun h=>by obtain ⟨c,hc⟩:=nvf _ h;exact IX.out.ne hc (by decide) rfl)) HNL.out (by omega) HV.out);refine gK (fun i=>Nat.blt 53 i && Nat.blt i 60) (fun s' wy=>s' 59=.bool (bk || !bS is v)∧aa (fun _=>False) wv wy) ?_ ?_
    ·intro K' hK';cases bk
     ·go_wp2_with (refine nX (by kernel_rfl) 96 (.tmp 10) rfl (by kernel_rfl) vb 0 rfl _ _ c0 c1 ?_);refine DD.out.mono ?_;rintro e w4 ⟨rfl,hk⟩;go_wp2_with fail;refine ⟨by kernel_rfl,?_⟩;exact ⟨rfl,hk⟩
     ·go_wp2_with fail;refine ⟨by kernel_rfl,?_⟩;exact ⟨rfl,aa.refl _ _⟩
    intro u2 wy hR;obtain ⟨e59,hky⟩:=hR;have e59:u2 59=.bool (bk || !bS is v):=e59;simp (maxSteps:=2000000) only [fN,overL,List.toList_toArray,Nat.blt,Nat.beq,Nat.ble,Nat.reduceAdd,Bool.or_false,Bool.false_or,Bool.or_true,Bool.true_or,Bool.and_true,Bool.true_and,Bool.and_false,Bool.false_and,cond_true,cond_false];rw [e59];rename_i Kd hKd;have KY:=Hz (KV.out.trans (hky.mono (fun _ _ h=>h.elim)));have SY:=Hz (SV.out.ab hky (fun _ _ h=>h));clear hky KV SV BV DD c0 c1 cl e59;obtain ⟨t1,hg3⟩:=HTX.out wy KY.out;generalize (bk || !bS is v)=cnd at *;cases cnd
    ·have ME:=Hz (MN.out (by rw [HC.out];rfl));go_wp2_with fail;go_roundw
     case rel=>exact ⟨q+1,hlt,by go_num,by rw [ME.out];exact SY.out,KY.out⟩
     case measure=>simp [intOf];omega
    ·have ME:=Hz (MS.out);rw [HC.out] at ME;rw [HEF.out] at SY;go_wp2_with (refine pH rfl 96 (.tmp 66) (.tmp 65) rfl rfl gf of fs.length fc q _ 96 (.int .i64 2) (.int .i64 0) rfl rfl SY.out hlt (by kernel_rfl) rfl rfl ?_);intro w5 hs5 hk5 hz5;have S5:=Hz (show Sl w5 96 2 (fv i) fs.length (aE ((fs.take (q+1)).map (fO is bk) ++ fs.drop (q+1))) from by
      rw [ME.out,HEF.out,g7,List.map_take];exact hs5)
     have K5:=Hz (KY.out.trans (hk5.mono (T:=ak (fv i)) (fun k _ e=>by rw [HEF.out];subst e;rfl)));clear hs5 hk5 hz5;go_wp2_with fail;go_roundw
     case rel=>exact ⟨q+1,hlt,by go_num,S5.out,K5.out⟩
     case measure=>simp [intOf];omega
   ·obtain rfl:q=fs.length:=by omega
    have SE:=HSL.out;rw [List.take_length,List.drop_length,List.append_nil] at SE;have SE:=Hz SE;go_wp2_with fail;go_end0;have hT:=TX.out;have hlen:(fs.map (fO is bk)).length=fs.length:=by simp
    have hT2:=eL.dg (L:=L.set i ⟨kd,fs,true,dd⟩) (i:=i) (fs:=fs.map (fO is bk)) hT (by rw [HL2.out];exact HLL.out) (by rw [HT2.out];exact HST.out) HKR.out (by rw [hlen];exact SE.out) HTG.out (fun j b h1 h2=>HFI.out j i b h2 h1);rw [HT2.out,List.set_set] at hT2;have hd:dd=false:=HST.out;refine ⟨rfl,fv,?_,KX.out.mono (fun k _ e=>by subst e;exact .inl rfl) |>.trans (HKR.out.mono (fun k _ h=>.inr h)),fun j b hb=>?_,?_⟩
    ·rw [HTH.out,HG.out];rw [hd] at hT2;exact hT2
    ·by_cases e:ak (fv i) b
     ·exact (SE.out.own e).2
     ·obtain ⟨c,hc⟩:=HF.out j b hb;exact ⟨c,HKR.out.aq (KX.out.aq hc (HFG.out j b hb)) e⟩
    ·rw [HE.out];rfl
end
end
section
open Go.RowKit
section
variable {w w':World} {h:dj} {W W':Wd}
theorem aQ.rA (H:aQ w h W) {g o rc:Nat} (hrv:h.rv=.slice (some ⟨g,o,none⟩) W.roots.length rc) {k:Nat} (hk:k<12) {v:Vl} (hv:W.cC v)
  (hs:Sl w' 96 2 (.slice (some ⟨g,o,none⟩) W.roots.length rc) W.roots.length (((aE W.roots).set (k*2) (.int .i64 v.1)).set (k*2+1) (.int .i64 v.2))) (K:aa (·=g) w w'):aS w h w' (W.cG k v):=by
 have ho:ak h.rv g:=by rw [hrv];exact rfl
 obtain ⟨_,c,hc⟩:=H.hr.own ho;have ne:∀ {b:Nat} {c':List Value} {T:TypeId},aj w b c' T→T≠96→¬ b=g:=fun hb hT e=>(hb.ne hc hT) e;have hl:(W.cG k v).roots.length=W.roots.length:=by simp [Wd.cG]
 have hset:(W.cG k v).roots=W.roots.set k v:=by simp [Wd.cG]
 refine ⟨h,⟨K.aq H.hp (ne H.hp (by decide)),H.ht.ab K (fun b hb=>?_) (fun i b hb e=>(H.af i b hb).2.2 (e ▸ ho)),?_,H.hg.ab K (fun b hb=>?_),H.hw.ab K (fun b hb=>?_),H.ap,fun i b hb=>?_,H.fi,H.fl,H.ok.cG hv k⟩,rfl,K.mono (fun b _ e=>e ▸ .inr (.inr (.inl ho))),fun b hb=>.inl hb⟩
 ·obtain ⟨cs,hs',_⟩:=H.ht;obtain ⟨_,c',hc'⟩:=hs'.own hb;exact ne hc' (by decide)
 ·rw [hl,hset,g7,hrv];exact hs
 ·obtain ⟨_,c',hc'⟩:=H.hg.own hb;exact ne hc' (by decide)
 ·obtain ⟨_,c',hc'⟩:=H.hw.own hb;exact ne hc' (by decide)
 ·obtain ⟨h1,⟨c',h2⟩,h3⟩:=H.af i b hb;exact ⟨Nat.lt_of_lt_of_le h1 K.size,⟨c',K.aq h2 (fun e=>h3 (e ▸ ho))⟩,h3⟩
theorem aQ.Ct (H:aQ w h W) {i g:Nat} {fs:List Vl} (hl:W.live (i:Int)) (hlen:fs.length=(W.th (i:Int)).fs.length) (hv:∀ v ∈ fs,W.cC v) (hg:ak (h.fv i) g)
  (hs:Sl w' 96 2 (h.fv i) fs.length (aE fs)) (K:aa (·=g) w w'):aS w h w' (W.dg (i:Int) fs):=by
 obtain ⟨hlt,⟨c,hc⟩,hnr⟩:=H.af i g hg;have ne:∀ {b:Nat} {c':List Value} {T:TypeId},aj w b c' T→T≠96→¬ b=g:=fun hb hT e=>(hb.ne hc hT) e;have hsum:=Wd.s9 (W:=W) hl hlen;have hT:(W.dg (i:Int) fs).T.length=W.T.length:=by simp [Wd.dg]
 obtain ⟨cs,hcs,hrow⟩:=H.ht;refine ⟨h,⟨?_,⟨cs,?_,fun j hj=>?_⟩,H.hr.ab K (fun b hb e=>hnr (e ▸ hb)),H.hg.ab K (fun b hb=>?_),H.hw.ab K (fun b hb=>?_),H.ap,fun j b hb=>?_,H.fi,fun j b hb=>?_,H.ok.dg hl hlen hv⟩,rfl,K.mono (fun b _ e=>e ▸ .inr (.inr (.inr (.inr (.inr ⟨i,hg⟩))))),fun b hb=>.inl hb⟩
 ·rw [hsum.1,hsum.2];exact K.aq H.hp (ne H.hp (by decide))
 ·rw [hT];exact hcs.ab K (fun b hb=>by obtain ⟨_,c',hc'⟩:=hcs.own hb;exact ne hc' (by decide))
 ·rw [hT] at hj;have hr:=hrow j hj;have e0:(W.dg (i:Int) fs).T.getD j Th.none=(W.dg (i:Int) fs).th (j:Int):=(Wd.gH _ j).symm;have e1:W.T.getD j Th.none=W.th (j:Int):=(Wd.gH _ j).symm;rw [e0,Wd.jC (by omega) hl];rw [e1] at hr;by_cases e:(j:Int)=(i:Int)
  ·obtain rfl:j=i:=by omega
   rw [if_pos rfl];exact ⟨hr.d,hr.k,hr.f,hr.o,fun hd=>hs,hr.c⟩
  ·rw [if_neg e];refine ⟨hr.d,hr.k,hr.f,hr.o,fun hd=>(hr.s hd).ab K (fun b hb e2=>e ?_),hr.c⟩;subst e2;have:=H.fi j i _ hb hg;omega
 ·obtain ⟨_,c',hc'⟩:=H.hg.own hb;exact ne hc' (by decide)
 ·obtain ⟨_,c',hc'⟩:=H.hw.own hb;exact ne hc' (by decide)
 ·obtain ⟨h1,⟨c',h2⟩,h3⟩:=H.af j b hb;by_cases e:b=g
  ·subst e;have e3:=H.fi j i _ hb hg;subst e3;obtain ⟨h4,c4,h5⟩:=hs.own hb;exact ⟨h4,⟨c4,h5⟩,h3⟩
  ·exact ⟨Nat.lt_of_lt_of_le h1 K.size,⟨c',K.aq h2 e⟩,h3⟩
 ·rw [Wd.gZ hl];exact H.fl j b hb
end
end
end Go.Proofs.YtjifdalflepcoacGreat
