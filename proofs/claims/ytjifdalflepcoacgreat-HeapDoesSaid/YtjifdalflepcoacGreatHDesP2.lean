/-
  Parts of the proof, merged: what the functions do, and plain laws.
-/
import Derived.Test.YtjifdalflepcoacGreatHDesP1
import Derived.Test.YtjifdalflepcoacGreatHDesP0
import Derived.Deep.LoopGhost
import Derived.Laws.EntriesVeiled
set_option maxHeartbeats 16000000
set_option maxRecDepth 100000
set_option linter.unusedVariables false
set_option linter.unusedSimpArgs false
namespace Go.Proofs.YtjifdalflepcoacGreat
section
open Go.RowKit
theorem Rd.iq {w:World} {ao:Option Addr} {l:List Bool} (h:Rd w ao (l.map Value.bool)) (i:Nat) (hi:i<l.length) :
  ∃ g o,ao=some ⟨g,o,none⟩∧g<w.heap.size∧w.cell? ⟨g,o+i,none⟩=some (.bool (l.getD i false)):=by
 obtain ⟨g,o,rfl,hg,hc⟩:=h (by intro e;simp at e;subst e;simp at hi);refine ⟨g,o,rfl,hg,?_⟩;rw [hc i (by simpa using hi)];simp [List.getD,hi]
theorem nZ (v:Vl) (ao:Option Addr) (cap:Nat) (l:List Bool) (w:World) (h:Rd w ao (l.map Value.bool)) (hl:l.length≤1000000) (hv:mQ l.length v) :
  Calls Tryz.prog 142 #[.slice ao l.length cap, .agg #[.int .i64 v.1, .int .i64 v.2]] w fun e w'=>e=.returned (.bool (bJ l v))∧ab (fun _=>False) w w':=by
 have hr:=h.ae ((Kz w).alloc (.cells #[.int .i64 v.1, .int .i64 v.2] 96)) (fun _ _ _ h=>h);have HR:=Hz hr;clear h hr;obtain ⟨k,n⟩:=v;dsimp only at *;by_cases hk:k=3
 ·subst hk;obtain ⟨h0,h1⟩:=hv rfl;dsimp only at h0 h1;obtain ⟨m,rfl⟩:∃ m:Nat,n=m:=⟨n.toNat,by omega⟩;obtain ⟨g,o,rfl,hg,hc⟩:=HR.out.iq m (by omega);have HE:=Hz (show bJ l (3,(m:Int))=l.getD m false by simp [bJ,ax]);have hg':g<w.heap.size+1:=by simpa using hg
  clear hv hg;generalize l.getD m false=q at *;go_enter Tryz.func142,Tryz.ntmps142;go_wp2_with fail;go_ret;exact ⟨dg HE.out.symm,(ab.refl _ _).alloc _⟩
 ·have hkb:(k != 3)=true:=by simpa using hk
  have HE:=Hz (show bJ l (k,n)=true by simp [bJ,hkb]);clear hv hk;go_enter Tryz.func142,Tryz.ntmps142;go_wp2_with fail;go_ret;exact ⟨dg HE.out.symm,(ab.refl _ _).alloc _⟩
structure mh (w:World) (b:Nat) (vo:Value) (l:List Bool):Prop where
 hb:ah w b [vo] 122
 hs:Sl w 4 1 vo l.length (l.map Value.bool)
theorem mh.ae {w w':World} {b:Nat} {vo:Value} {l:List Bool} {S:Nat→Prop} (h:mh w b vo l) (k:ab S w w') (h1:¬ S b) (h2:∀ j,ai vo j→¬ S j):mh w' b vo l:=⟨k.ak h.hb h1,h.hs.ae k h2⟩
def AZ (w:World) (b:Nat) (vo:Value) (l:List Bool) (v:Vl) (e:Ending) (w':World):Prop:=
 e=.returned (.bool (!bJ l v))∧mh w' b vo (fF l v)∧ab (ai vo) w w'
theorem nk (v:Vl) (b:Nat) (vo:Value) (l:List Bool) (w:World) (h:mh w b vo l) (hl:l.length≤1000000) (hv:mQ l.length v) :
  Calls Tryz.prog 158 #[.agg #[.int .i64 v.1, .int .i64 v.2], .pointer (some ⟨b,0,none⟩)] w (AZ w b vo l v):=by
 have ka:=(Kz w).alloc (.cells #[.int .i64 v.1, .int .i64 v.2] 96);have HO:=Hz (h.ae ka (fun h=>h) (fun _ _ h=>h));have HB:=Hz (ah.newAt (w:=w) (b:=w.heap.size) (T:=96) #[.int .i64 v.1, .int .i64 v.2] rfl rfl);have HK:=Hz ka;have hlt:=HO.out.hb.lt;obtain ⟨ao,cap,rfl,-,-,-⟩:=h.hs.rd;have b0:=HO.out.hb.cell 0;have x0:=HB.out.cell 0;have x1:=HB.out.cell 1;have xl:=HB.out.lt;simp only [Lz,Ls] at b0 x0 x1;have HH:=Hz h;have hbl:=h.hb.lt;have hb0:=h.hb.cell 0;simp only [Lz] at hb0;clear h ka;obtain ⟨k,n⟩:=v;dsimp only at *;go_enter Tryz.func158,Tryz.ntmps158;go_wp2_with fail;obtain ⟨_,_,e',rd,-,-⟩:=HO.out.hs.rd;cases e';refine (nZ (k,n) ao cap l _ rd hl hv).mono ?_;rintro e w1 ⟨rfl,hk⟩;have HO1:=Hz (HO.out.ae hk (fun h=>h) (fun _ _ h=>h));have HB1:=Hz (hk.ak HB.out (fun h=>h));have HK1:=Hz (HK.out.trans hk);clear hk rd b0 x0 x1 xl hlt hb0 hbl;cases hi:bJ l (k,n)
 ·obtain ⟨h3,-⟩:=ng hi;obtain ⟨h0,h1⟩:=hv h3;dsimp only at h3 h0 h1;subst h3;obtain ⟨m,rfl⟩:∃ m:Nat,n=m:=⟨n.toNat,by omega⟩;have HE:=Hz (show fF l (3,(m:Int))=l.set m true by unfold fF;rw [hi];simp);have HI:=Hz hi;clear hi hv;obtain ⟨_,_,e',rd,-,-⟩:=HO1.out.hs.rd;cases e';obtain ⟨g,o,rfl,hg,hc⟩:=rd.iq m (by omega);obtain ⟨_,cur,hgb⟩:=HO1.out.hs.own (k:=g) rfl;have fz:=hgb.free (o+m);have HG:=Hz hgb;have b0:=HO1.out.hb.cell 0;have x0:=HB1.out.cell 0;have x1:=HB1.out.cell 1;have xl:=HB1.out.lt;have bl:=HO1.out.hb.lt;simp only [Lz,Ls] at b0 x0 x1;clear rd hgb;go_wp2_with fail;go_ret;refine ⟨by rw [HI.out];rfl,⟨?_,?_⟩,?_⟩
  ·exact HO1.out.hb.ew (a:=⟨g,o+m,none⟩) (HO1.out.hb.ne HG.out (by decide)) _
  ·rw [HE.out,List.length_set,List.map_set];exact HO1.out.hs.set (by omega)
  ·exact ab.setCell (S:=ai (.slice (some ⟨g,o,none⟩) l.length cap)) (HK1.out.mono (fun _ _ h=>h.elim)) (p:=⟨g,o+m,none⟩) (.inl rfl) _
 ·have HE:=Hz (show fF l (k,n)=l by unfold fF;rw [hi];rfl);have HI:=Hz hi;clear hi hv;go_wp2_with fail;go_ret;exact ⟨by rw [HI.out];rfl,by rw [HE.out];exact HO1.out,HK1.out.mono (fun _ _ h=>h.elim)⟩
end
section
open Go.RowKit
structure qQ (w:World) (p:Nat) (tv wv:Value) (F:Nat→Prop) (W:Wd) (q:List (Int × Int)):Prop where
 hp:∃ a b c d,ah w p [tv,a,b,wv,c,d] 147
 ht:iB w tv F W.T
 hw:Sl w 152 2 wv q.length (aA q)
theorem qQ.same {w w':World} {p:Nat} {tv wv:Value} {F:Nat→Prop} {W:Wd} {q:List (Int × Int)} (h:qQ w p tv wv F W q) (k:ab (fun _=>False) w w'):qQ w' p tv wv F W q:=by
 obtain ⟨⟨a,b,c,d,h1⟩,h2,h3⟩:=h;exact ⟨⟨a,b,c,d,k.ak h1 (fun h=>h)⟩,h2.ae k (fun _ _ _ h=>h) (fun _ _ h=>h),h3.ae k (fun _ _ h=>h)⟩
structure GM (w0 wr:World) (b:Nat) (vo:Value) (l:List Bool):Prop where
 K:ab (fun _=>False) w0 wr
 O:mh wr b vo l
 o:∀ k,ai vo k→w0.heap.size≤k
 ob:w0.heap.size≤b
theorem GM.same {w0 wr w2:World} {b:Nat} {vo:Value} {l:List Bool} (M:GM w0 wr b vo l) (k:ab (fun _=>False) wr w2):GM w0 w2 b vo l:=⟨M.K.trans k,M.O.ae k (fun h=>h) (fun _ _ h=>h),M.o,M.ob⟩
theorem GM.add {w0 wr w2:World} {b:Nat} {vo:Value} {l l2:List Bool} (M:GM w0 wr b vo l) (O:mh w2 b vo l2) (k:ab (ai vo) wr w2):GM w0 w2 b vo l2:=⟨M.K.then k (fun j hj=>.inr (M.o j hj)),O,M.o,M.ob⟩
theorem ab.n8 {w w':World} (k:ab (fun _=>False) w w') {b i:Nat} {v:Value} (hb:b<w.heap.size) (h:w.cell? ⟨b,i,none⟩=some v):w'.cell? ⟨b,i,none⟩=some v:=by
 rw [←h];exact World.cell?_of_block (w:=w) (a:=⟨b,i,none⟩) (k.block b hb (fun h=>h))
def ph (w:World) (l:List Bool) (e:Ending) (w':World):Prop:=
 ∃ ao cap,e=.returned (.slice ao l.length cap)∧Sl w' 4 1 (.slice ao l.length cap) l.length (l.map Value.bool)∧ab (fun _=>False) w w'∧∀ k,ai (.slice ao l.length cap) k→w.heap.size≤k
section
variable {w:World} {p:Nat} {tv wv:Value} {F:Nat→Prop} {W:Wd} {q:List (Int × Int)} {is:List Bool}
def BZ (w wr:World) (b:Nat) (vo:Value) (W:Wd) (q:List (Int × Int)) (is:List Bool) (m:Bool) (l:List Bool):Prop:=
 GM w wr b vo l∧gA W q is l∧(m=false→∀ j:Nat,j<l.length→cQ W q l j)
def iu (w wr:World) (b:Nat) (vo:Value) (W:Wd) (q:List (Int × Int)) (is lp:List Bool) (m:Bool) (l:List Bool) (i:Nat):Prop:=
 GM w wr b vo l∧gA W q is l∧Fl m lp l∧lM m (∀ j:Nat,j<i→cQ W q lp j)
theorem iu.next {wr:World} {b:Nat} {vo:Value} {lp l:List Bool} {m:Bool} {i:Nat} (h:GM w wr b vo l∧gA W q is l∧Fl m lp l∧lM m ((∀ j:Nat,j<i→cQ W q lp j)∧cQ W q lp i)):iu w wr b vo W q is lp m l (i+1):=
 ⟨h.1,h.2.1,h.2.2.1,fun hm j hj=>by
  have:=h.2.2.2 hm;rcases Nat.lt_succ_iff_lt_or_eq.1 hj with h1 | rfl
  ·exact this.1 j h1
  ·exact this.2⟩
theorem uH (io:Option Addr) (icap:Nat) (H:qQ w p tv wv F W q) (hok:W.ok) (hq:∀ e ∈ q,W.dj e) (hi:Rd w io (is.map Value.bool)) (hlen:is.length=W.T.length) (hT:W.T.length≤100000) (hl:∀ i,ax is i=true→W.live i) (hql:q.length≤1000000) :
  Calls Tryz.prog 140 #[.pointer (some ⟨p,0,none⟩), .slice io is.length icap] w (ph w (W.cX q is)):=by
 obtain ⟨ib,hib,hz0,hz1,hz2⟩:=info_parts iQ;have Hi:=Hz hib;have Hz0:=Hz hz0;have Hz1:=Hz hz1;have Hz2:=Hz hz2;clear hib hz0 hz1 hz2;have HG:=Hz H;have HOK:=Hz hok;have HQ:=Hz hq;have HI:=Hz hi;have HLEN:=Hz hlen;have HLV:=Hz hl;have hil:is.length≤100000:=by omega
 obtain ⟨no,nc,rfl,-⟩:=HG.out.ht.nth;obtain ⟨qo,qc,rfl,-,-,-⟩:=HG.out.hw.rd;clear H hok hq hi hl hlen;go_enter Tryz.func140,Tryz.ntmps140;go_wp2_with (at_builtin;refine ik rfl (.tmp 12) (.tmp 13) 122 rfl 4 ib (.bool false) 1 1 Tryz.underlying122 Hi.out Hz0.out Hz1.out Hz2.out rfl (by decide) _ 0 [] rfl ?ha io is.length icap (is.map Value.bool) rfl ?hb ?hc ?hd ?he ?hf ?hg)
 case ha=>exact ⟨by simp, .inr ⟨w.heap.size,0,0,[],rfl,ah.newAt _ rfl rfl,Nat.le_refl _,Nat.zero_le _,by simp,by simp⟩⟩
 case hb=>simp
 case hc=>exact HI.out.ae ((Kz w).alloc _) (fun _ _ _ h=>h)
 case hd=>intro u hu;simp at hu;rcases hu with ⟨_,rfl⟩ | ⟨_,rfl⟩ <;> rfl
 case he=>unfold maxLen;omega
 case hf=>omega
 case hg=>
  intro v2 w2 hs2 hk2 ho2;obtain ⟨ao,cap,hv2,-,-,-⟩:=hs2.rd;have hK2:ab (fun _=>False) w w2:=((Kz w).alloc (.cells #[] 4)).then hk2 (fun k hk=>.inr (by simp [ai,Value.ownBlock] at hk;omega));have ho3:∀ k,ai v2 k→w.heap.size≤k:=fun k hk=>by
   rcases ho2 k hk with h | h
   ·simp [ai,Value.ownBlock] at h;omega
   ·omega
  try rw [Nat.zero_add] at hs2 hv2
  try rw [List.nil_append] at hs2
  subst hv2;go_wp2_with fail;generalize hwx:w2.alloc (.cells #[.slice ao is.length cap] 122)=wx;have MX:=Hz (show GM w wx w2.heap.size (.slice ao is.length cap) is by
   rw [←hwx];have ka:=(Kz w2).alloc (.cells #[.slice ao is.length cap] 122)
   exact ⟨hK2.trans ka,⟨ah.newAt _ rfl rfl,hs2.ae ka (fun _ _ h=>h)⟩,ho3,hK2.size⟩)
  clear hs2 hk2 ho2 hK2 ho3 hwx HI;generalize w2.heap.size=b at *;have hn:=HLEN.out
  go_loopg [7] (nh is+1) (fun n m wr=>∃ (x:Bool) (l:List Bool),m=.bool x∧BZ w wr b (.slice ao is.length cap) W q is x l∧nh l+(if x then 1 else 0)≤n)
  case atStart=>exact ⟨true,is,rfl,⟨MX.out,gA.start W q is,fun h=>by cases h⟩,Nat.le_refl _⟩
  case round=>
   clear MX;obtain ⟨x,lp,rfl,⟨hM,hG,hC⟩,hun⟩:=hrel;have M:=Hz hM;have GK:=Hz hG;have HC:=Hz hC;have HU:=Hz hun;clear hM hG hC hun hn;cases x
   ·have HE:=Hz (GK.out.done (HC.out rfl));have b0:=M.out.O.hb.cell 0;have bl:=M.out.O.hb.lt;simp only [Lz] at b0;go_wp2_with fail;go_ret;have hl:=du W.nd q is;have hs:=M.out.O.hs;rw [HE.out] at hs;have hl2:(W.cX q is).length=is.length:=hl;refine ⟨ao,cap,by rw [hl2];rfl,?_,M.out.K,fun k hk=>M.out.o k (by rw [hl2] at hk;exact hk)⟩;rw [hl2];rw [hl2] at hs;exact hs
   ·obtain ⟨w1,rfl⟩:∃ x:World,x=wr:=⟨wr,rfl⟩;go_wp2_with fail;go_loopw [7,8] (fun m u wr=>∃ (i:Nat) (x:Bool) (l:List Bool),i≤W.T.length∧u=.int .i64 i∧m=.bool x∧iu w wr b (.slice ao is.length cap) W q is lp x l i) (fun _ u _=>W.T.length-(intOf u).toNat)
    case atStart=>exact ⟨0,false,lp,Nat.zero_le _,rfl,rfl,M.out,GK.out,Fl.start _,fun _ j hj=>by omega⟩
    case round=>
     obtain ⟨i,x,l,hi,rfl,rfl,hM,hG,hF,hY⟩:=hrel;have M2:=Hz hM;have G2:=Hz hG;have F2:=Hz hF;have Y2:=Hz hY;obtain ⟨⟨c1,c2,c3,c4,hp⟩,ht,hw⟩:=HG.out.same hM.K;have HP:=Hz hp;have HW:=Hz hw;have p0:=hp.cell 0;have pl:=hp.lt;simp only [Lz] at p0;have hll:l.length=W.T.length:=hG.len.trans HLEN.out;have HLL:=Hz hll;clear hM hG hF hY hp hw;by_cases hlt:i<W.T.length
     ·obtain ⟨_,_,e',N⟩:=HG.out.ht.nth;cases e';obtain ⟨g,o,fo,fc,rfl,-,hgl,t0,t1,t2,t3,hrd,-,hml⟩:=N i hlt;replace t0:=M2.out.K.n8 hgl t0;replace t1:=M2.out.K.n8 hgl t1;replace t2:=M2.out.K.n8 hgl t2;replace t3:=M2.out.K.n8 hgl t3;replace hgl:g<wr.heap.size:=Nat.lt_of_lt_of_le hgl M2.out.K.size;have HTH:=Hz (show W.th (i:Int)=W.T.getD i Th.none by unfold Wd.th;rw [Int.toNat_natCast]);generalize W.T.getD i Th.none=t at *;obtain ⟨tk,tf,tol,tde⟩:=t;dsimp only at t0 t1 t2 t3 hrd hml HTH;have HRD:=Hz (show Rd w fo (aA tf) from hrd);obtain ⟨_,_,e',rdo,-,-⟩:=M2.out.O.hs.rd;obtain ⟨rfl,-,rfl⟩:=Value.slice.inj e';clear e';obtain ⟨go,oo,rfl,hgo,d0⟩:=rdo.iq i (by omega);have b0:=M2.out.O.hb.cell 0;have bl:=M2.out.O.hb.lt;simp only [Lz] at b0;have b1:=hgo;have HAT:=Hz (show ax l (i:Int)=l.getD i false from eV l i);generalize l.getD i false=z at *;clear rdo N ht hrd hll;have hi2:i<is.length:=by rw [HLEN.out];exact hlt
      have hb0:wr.heap.size<(wr.alloc (.cells #[.int .i64 tk, .slice fo tf.length fc, .bool tol, .bool tde] 154)).heap.size:=by simp
      generalize hwt:wr.alloc (.cells #[.int .i64 tk, .slice fo tf.length fc, .bool tol, .bool tde] 154)=wt at hb0;have KT:=Hz (show ab (fun _=>False) wr wt by rw [←hwt];exact (ab.refl _ _).alloc _);have BT:=Hz (show ah wt wr.heap.size [.int .i64 tk, .slice fo tf.length fc, .bool tol, .bool tde] 154 by rw [←hwt];exact ah.newAt _ rfl rfl);have HWT:=Hz hwt;clear hwt hb0;have MT:=Hz (M2.out.same KT.out);cases z
      ·go_wp2_with (refine aV rfl 154 (.tmp 31) rfl [.int .i64 tk, .slice fo tf.length fc, .bool tol, .bool tde] (by kernel_rfl) g (o+i*4) rfl (aa t0 (aa t1 (aa t2 (aa t3 aQ)))) ?_);go_roundw
       case rel=>
        first
        | exact ⟨i+1,x,l,hlt,by go_num,rfl,iu.next ⟨by rw [HWT.out];exact MT.out,G2.out,F2.out,fun hm=>⟨Y2.out hm,by
          rcases F2.out with ⟨_,e⟩ | ⟨e,_⟩
          ·rw [←e];exact oG HAT.out
          ·rw [e] at hm;cases hm⟩⟩⟩
        | ((repeat apply Exists.intro);exact ⟨⟨i+1,x,l,hlt,by go_num,rfl,iu.next ⟨by rw [HWT.out];exact MT.out,G2.out,F2.out,fun hm=>⟨Y2.out hm,by
          rcases F2.out with ⟨_,e⟩ | ⟨e,_⟩
          ·rw [←e];exact oG HAT.out
          ·rw [e] at hm;cases hm⟩⟩⟩,rfl⟩)
       case measure=>simp [intOf];omega
      ·have hlv:=G2.out.live HOK.out HQ.out HLV.out (i:=(i:Int)) HAT.out;have HLI:=Hz hlv;have hfit:=bP (HOK.out.tk _ hlv);rw [HTH.out] at hfit;dsimp only at hfit;have HFT:=Hz hfit;have hfl:tf.length≤12:=by have:=hfit.2.2.2;omega
       have hk15:=hfit.1;have hk16:=hfit.2.1;clear hlv hfit;rcases (show tk=1∨tk=2∨tk=3∨tk=4∨tk=5 by omega) with rfl | rfl | rfl | rfl | rfl
       ·as_aux_lemma=>
        go_wp2_with (refine aV rfl 154 (.tmp 31) rfl [.int .i64 1, .slice fo tf.length fc, .bool tol, .bool tde] (by kernel_rfl) g (o+i*4) rfl (aa t0 (aa t1 (aa t2 (aa t3 aQ)))) ?_);rw [HWT.out];clear t0 t1 t2 t3 b0 bl p0 pl hgl hgo b1 d0;have hkk:=Hz (show (W.th (i:Int)).k=1∨(W.th (i:Int)).k=2 by rw [HTH.out];first | exact .inl rfl | exact .inr rfl);go_loopw [7,10] (fun m u wr2=>∃ (f:Nat) (x:Bool) (l:List Bool),f≤tf.length∧u=.int .i64 f∧m=.bool x∧GM w wr2 b (.slice (some ⟨go,oo,none⟩) is.length cap) l∧gA W q is l∧Fl x lp l∧lM x ((∀ j:Nat,j<i→cQ W q lp j)∧∀ v ∈ tf.take f,bJ lp v=true)∧ax l (i:Int)=true∧ah wr2 wr.heap.size [.int .i64 1, .slice fo tf.length fc, .bool tol, .bool tde] 154) (fun _ u _=>tf.length-(intOf u).toNat)
        case atStart=>exact ⟨0,x,l,Nat.zero_le _,rfl,rfl,MT.out,G2.out,F2.out,fun hm=>⟨Y2.out hm,(fun v hv=>by simp at hv)⟩,HAT.out,BT.out⟩
        case round=>
         obtain ⟨f,x,l,hf,rfl,rfl,hM,hG,hF,hY,hA,hB⟩:=hrel;have M3:=Hz hM;have G3:=Hz hG;have F3:=Hz hF;have Y3:=Hz hY;have A3:=Hz hA;have B3:=Hz hB;have x1:=hB.cell 1;have xl:=hB.lt;simp only [Lz,Ls] at x1;have hll3:l.length=W.T.length:=hG.len.trans HLEN.out;clear hM hG hF hY hA hB;by_cases hlt3:f<tf.length
         ·have k3:ab (fun _=>False) w wr:=M3.out.K;have rd3:=HRD.out.ae k3 (fun _ _ _ h=>h);clear k3;obtain ⟨gf,of,rfl,hgf,v0,v1⟩:=rd3.val f hlt3;have hmem:tf.getD f (0,0) ∈ tf:=by rw [Ld,Le hlt3];exact List.getElem_mem hlt3
          have htk:=Hz (show tf.take (f+1)=tf.take f ++ [tf.getD f (0,0)] by rw [←List.take_append_getElem hlt3,Ld,Le hlt3];rfl);have HMM:=Hz hmem;generalize tf.getD f (0,0)=v at *;have hin:mQ l.length v:=fun h3=>by
           have:=HOK.out.tv _ HLI.out v (by rw [HTH.out];exact hmem);have:=Wd.bh this h3;exact ⟨this.1,by rw [hll3];exact this.2.1⟩
          have HIN:=Hz hin;have LD:=Hz (G3.out.lead A3.out (v:=v) (oH hkk.out (by rw [HTH.out];exact hmem)));clear hmem hin rd3 hll3;go_wp2_with (refine cF rfl 96 (.tmp 54) rfl (by kernel_rfl) gf (of+f*2) rfl _ _ v0 v1 ?_);refine (nk v b _ l _ M3.out.O (by have:=HIN.out;have:=G3.out.len;omega) HIN.out).mono ?_;rintro e w3 ⟨rfl,hO,hK⟩;have B4:=Hz (hK.ak B3.out (fun hb=>by
           obtain ⟨_,cur,hc⟩:=M3.out.O.hs.own hb
           exact B3.out.ne hc (by decide) rfl))
          have A4:=Hz ((G3.out.add HIN.out LD.out));have A5:=Hz (show ax (fF l v) (i:Int)=true by
           have:=A3.out;unfold fF;split
           ·exact this
           ·rename_i hn;obtain ⟨h3,-⟩:=ng (by simpa using hn)
            exact (fM (HIN.out h3).1 (HIN.out h3).2).2 (.inr this))
          have NX:=Hz (And.intro (M3.out.add hO hK) (And.intro (F3.out.add (v:=v) HIN.out) (lM.add (v:=v) (r:=(∀ j:Nat,j<i→cQ W q lp j)∧∀ v ∈ tf.take (f+1),bJ lp v=true) F3.out Y3.out (fun h1 h2=>⟨h1.1,fun u hu=>by
           rw [htk.out] at hu;rcases List.mem_append.1 hu with hu | hu
           ·exact h1.2 u hu
           ·rw [List.mem_singleton] at hu;subst hu;exact h2⟩))))
          clear hO hK x1 xl v0 v1 hgf;generalize (!bJ l v)=a at *;cases a
          ·have nx:=NX.out;simp only [Bool.false_or] at nx;have NY:=Hz nx;clear nx NX;go_wp2_with fail;go_roundw
           case rel=>
            first
            | exact ⟨f+1,x,_,hlt3,by go_num,rfl,NY.out.1,A4.out,NY.out.2.1,NY.out.2.2,A5.out,B4.out⟩
            | ((repeat apply Exists.intro);exact ⟨⟨f+1,x,_,hlt3,by go_num,rfl,NY.out.1,A4.out,NY.out.2.1,NY.out.2.2,A5.out,B4.out⟩,rfl⟩)
           case measure=>simp [intOf];omega
          ·have nx:=NX.out;simp only [Bool.true_or] at nx;have NY:=Hz nx;clear nx NX;go_wp2_with fail;go_roundw
           case rel=>
            first
            | exact ⟨f+1,true,_,hlt3,by go_num,rfl,NY.out.1,A4.out,NY.out.2.1,NY.out.2.2,A5.out,B4.out⟩
            | ((repeat apply Exists.intro);exact ⟨⟨f+1,true,_,hlt3,by go_num,rfl,NY.out.1,A4.out,NY.out.2.1,NY.out.2.2,A5.out,B4.out⟩,rfl⟩)
           case measure=>simp [intOf];omega
         ·obtain rfl:f=tf.length:=by omega
          clear hll3;go_wp2_with fail;go_roundw
          case rel=>
           first
           | exact ⟨i+1,x,l,hlt,by go_num,rfl,iu.next ⟨M3.out,G3.out,F3.out,fun hm=>⟨(Y3.out hm).1,gI hkk.out (by rw [HTH.out];intro v hv;exact (Y3.out hm).2 v (by rw [List.take_length];exact hv))⟩⟩⟩
           | ((repeat apply Exists.intro);exact ⟨⟨i+1,x,l,hlt,by go_num,rfl,iu.next ⟨M3.out,G3.out,F3.out,fun hm=>⟨(Y3.out hm).1,gI hkk.out (by rw [HTH.out];intro v hv;exact (Y3.out hm).2 v (by rw [List.take_length];exact hv))⟩⟩⟩,rfl⟩)
          case measure=>simp [intOf];omega
       ·as_aux_lemma=>
        go_wp2_with (refine aV rfl 154 (.tmp 31) rfl [.int .i64 2, .slice fo tf.length fc, .bool tol, .bool tde] (by kernel_rfl) g (o+i*4) rfl (aa t0 (aa t1 (aa t2 (aa t3 aQ)))) ?_);rw [HWT.out];clear t0 t1 t2 t3 b0 bl p0 pl hgl hgo b1 d0;have hkk:=Hz (show (W.th (i:Int)).k=1∨(W.th (i:Int)).k=2 by rw [HTH.out];first | exact .inl rfl | exact .inr rfl);go_loopw [7,10] (fun m u wr2=>∃ (f:Nat) (x:Bool) (l:List Bool),f≤tf.length∧u=.int .i64 f∧m=.bool x∧GM w wr2 b (.slice (some ⟨go,oo,none⟩) is.length cap) l∧gA W q is l∧Fl x lp l∧lM x ((∀ j:Nat,j<i→cQ W q lp j)∧∀ v ∈ tf.take f,bJ lp v=true)∧ax l (i:Int)=true∧ah wr2 wr.heap.size [.int .i64 2, .slice fo tf.length fc, .bool tol, .bool tde] 154) (fun _ u _=>tf.length-(intOf u).toNat)
        case atStart=>exact ⟨0,x,l,Nat.zero_le _,rfl,rfl,MT.out,G2.out,F2.out,fun hm=>⟨Y2.out hm,(fun v hv=>by simp at hv)⟩,HAT.out,BT.out⟩
        case round=>
         obtain ⟨f,x,l,hf,rfl,rfl,hM,hG,hF,hY,hA,hB⟩:=hrel;have M3:=Hz hM;have G3:=Hz hG;have F3:=Hz hF;have Y3:=Hz hY;have A3:=Hz hA;have B3:=Hz hB;have x1:=hB.cell 1;have xl:=hB.lt;simp only [Lz,Ls] at x1;have hll3:l.length=W.T.length:=hG.len.trans HLEN.out;clear hM hG hF hY hA hB;by_cases hlt3:f<tf.length
         ·have k3:ab (fun _=>False) w wr:=M3.out.K;have rd3:=HRD.out.ae k3 (fun _ _ _ h=>h);clear k3;obtain ⟨gf,of,rfl,hgf,v0,v1⟩:=rd3.val f hlt3;have hmem:tf.getD f (0,0) ∈ tf:=by rw [Ld,Le hlt3];exact List.getElem_mem hlt3
          have htk:=Hz (show tf.take (f+1)=tf.take f ++ [tf.getD f (0,0)] by rw [←List.take_append_getElem hlt3,Ld,Le hlt3];rfl);have HMM:=Hz hmem;generalize tf.getD f (0,0)=v at *;have hin:mQ l.length v:=fun h3=>by
           have:=HOK.out.tv _ HLI.out v (by rw [HTH.out];exact hmem);have:=Wd.bh this h3;exact ⟨this.1,by rw [hll3];exact this.2.1⟩
          have HIN:=Hz hin;have LD:=Hz (G3.out.lead A3.out (v:=v) (oH hkk.out (by rw [HTH.out];exact hmem)));clear hmem hin rd3 hll3;go_wp2_with (refine cF rfl 96 (.tmp 54) rfl (by kernel_rfl) gf (of+f*2) rfl _ _ v0 v1 ?_);refine (nk v b _ l _ M3.out.O (by have:=HIN.out;have:=G3.out.len;omega) HIN.out).mono ?_;rintro e w3 ⟨rfl,hO,hK⟩;have B4:=Hz (hK.ak B3.out (fun hb=>by
           obtain ⟨_,cur,hc⟩:=M3.out.O.hs.own hb
           exact B3.out.ne hc (by decide) rfl))
          have A4:=Hz ((G3.out.add HIN.out LD.out));have A5:=Hz (show ax (fF l v) (i:Int)=true by
           have:=A3.out;unfold fF;split
           ·exact this
           ·rename_i hn;obtain ⟨h3,-⟩:=ng (by simpa using hn)
            exact (fM (HIN.out h3).1 (HIN.out h3).2).2 (.inr this))
          have NX:=Hz (And.intro (M3.out.add hO hK) (And.intro (F3.out.add (v:=v) HIN.out) (lM.add (v:=v) (r:=(∀ j:Nat,j<i→cQ W q lp j)∧∀ v ∈ tf.take (f+1),bJ lp v=true) F3.out Y3.out (fun h1 h2=>⟨h1.1,fun u hu=>by
           rw [htk.out] at hu;rcases List.mem_append.1 hu with hu | hu
           ·exact h1.2 u hu
           ·rw [List.mem_singleton] at hu;subst hu;exact h2⟩))))
          clear hO hK x1 xl v0 v1 hgf;generalize (!bJ l v)=a at *;cases a
          ·have nx:=NX.out;simp only [Bool.false_or] at nx;have NY:=Hz nx;clear nx NX;go_wp2_with fail;go_roundw
           case rel=>
            first
            | exact ⟨f+1,x,_,hlt3,by go_num,rfl,NY.out.1,A4.out,NY.out.2.1,NY.out.2.2,A5.out,B4.out⟩
            | ((repeat apply Exists.intro);exact ⟨⟨f+1,x,_,hlt3,by go_num,rfl,NY.out.1,A4.out,NY.out.2.1,NY.out.2.2,A5.out,B4.out⟩,rfl⟩)
           case measure=>simp [intOf];omega
          ·have nx:=NX.out;simp only [Bool.true_or] at nx;have NY:=Hz nx;clear nx NX;go_wp2_with fail;go_roundw
           case rel=>
            first
            | exact ⟨f+1,true,_,hlt3,by go_num,rfl,NY.out.1,A4.out,NY.out.2.1,NY.out.2.2,A5.out,B4.out⟩
            | ((repeat apply Exists.intro);exact ⟨⟨f+1,true,_,hlt3,by go_num,rfl,NY.out.1,A4.out,NY.out.2.1,NY.out.2.2,A5.out,B4.out⟩,rfl⟩)
           case measure=>simp [intOf];omega
         ·obtain rfl:f=tf.length:=by omega
          clear hll3;go_wp2_with fail;go_roundw
          case rel=>
           first
           | exact ⟨i+1,x,l,hlt,by go_num,rfl,iu.next ⟨M3.out,G3.out,F3.out,fun hm=>⟨(Y3.out hm).1,gI hkk.out (by rw [HTH.out];intro v hv;exact (Y3.out hm).2 v (by rw [List.take_length];exact hv))⟩⟩⟩
           | ((repeat apply Exists.intro);exact ⟨⟨i+1,x,l,hlt,by go_num,rfl,iu.next ⟨M3.out,G3.out,F3.out,fun hm=>⟨(Y3.out hm).1,gI hkk.out (by rw [HTH.out];intro v hv;exact (Y3.out hm).2 v (by rw [List.take_length];exact hv))⟩⟩⟩,rfl⟩)
          case measure=>simp [intOf];omega
       ·as_aux_lemma=>
        obtain ⟨u,v,rfl⟩:∃ u v,tf=[u,v]:=by
         have h2:tf.length=2:=by
          have:=HOK.out.tk _ HLI.out;rw [HTH.out] at this;simp [bs] at this;omega
         match tf,h2 with
         | [u,v],_=>exact ⟨u,v,rfl⟩
        have kT:ab (fun _=>False) w wt:=MT.out.K;have rdT:=HRD.out.ae kT (fun _ _ _ h=>h);obtain ⟨gf,of,rfl,hgf,u0,u1⟩:=rdT.val 0 (by simp);obtain ⟨_,_,e',-,v0,v1⟩:=rdT.val 1 (by simp);cases e';have lenE:([u,v]:List Vl).length=2:=rfl;simp only [List.getD_cons_zero,List.getD_cons_succ,Nat.zero_mul,Nat.add_zero,Nat.one_mul] at u0 u1 v0 v1;have hin:∀ y:Vl,y ∈ [u,v]→mQ l.length y:=fun y hy h3=>by
         have:=HOK.out.tv _ HLI.out y (by rw [HTH.out];exact hy);have:=Wd.bh this h3;rw [HLL.out];exact ⟨this.1,this.2.1⟩
        have HIN:=Hz hin;have hll4:l.length≤1000000:=by have:=HLL.out;omega
        clear rdT kT hin;have hk3:=Hz (show (W.th (i:Int)).k=3 by rw [HTH.out]);have HW2:=Hz (show wr.alloc (.cells #[.int .i64 3, .slice (some ⟨gf,of,none⟩) 2 fc, .bool tol, .bool tde] 154)=wt from HWT.out);have hf3:=Hz (show (W.th (i:Int)).fs=[u,v] by rw [HTH.out]);have LD:=Hz (G2.out.lead HAT.out (v:=v) (wO hk3.out hf3.out));rw [←HW2.out] at v0 v1;go_wp2_with (first | (refine aV rfl 154 (.tmp 31) rfl [.int .i64 3, .slice fo ([u,v]:List Vl).length fc, .bool tol, .bool tde] (by kernel_rfl) g (o+i*4) rfl (aa t0 (aa t1 (aa t2 (aa t3 aQ)))) ?_) | (refine cF rfl 96 (.tmp 65) rfl (by kernel_rfl) gf _ rfl _ _ v0 v1 ?_));rw [HW2.out];clear t0 t1 t2 t3 b0 bl p0 pl hgl hgo b1 d0 u0 u1 v0 v1;refine (nk v b _ l _ MT.out.O hll4 (HIN.out v (by simp))).mono ?_;rintro e w3 ⟨rfl,hO,hK⟩;have A4:=Hz (G2.out.add (HIN.out v (by simp)) LD.out);have NX:=Hz (And.intro (MT.out.add hO hK) (And.intro (F2.out.add (v:=v) (HIN.out v (by simp))) (lM.add (v:=v) (r:=(∀ j:Nat,j<i→cQ W q lp j)∧cQ W q lp i) F2.out Y2.out (fun h1 h2=>⟨h1,rM hk3.out hf3.out h2⟩))));clear hO hK;generalize (!bJ l v)=a at *;cases a
        ·have nx:=NX.out;simp only [Bool.false_or] at nx;have NY:=Hz nx;clear nx NX;go_wp2_with fail;go_roundw
         case rel=>
          first
          | exact ⟨i+1,x,_,hlt,by go_num,rfl,iu.next ⟨NY.out.1,A4.out,NY.out.2.1,NY.out.2.2⟩⟩
          | ((repeat apply Exists.intro);exact ⟨⟨i+1,x,_,hlt,by go_num,rfl,iu.next ⟨NY.out.1,A4.out,NY.out.2.1,NY.out.2.2⟩⟩,rfl⟩)
         case measure=>simp [intOf];omega
        ·have nx:=NX.out;simp only [Bool.true_or] at nx;have NY:=Hz nx;clear nx NX;go_wp2_with fail;go_roundw
         case rel=>
          first
          | exact ⟨i+1,true,_,hlt,by go_num,rfl,iu.next ⟨NY.out.1,A4.out,NY.out.2.1,NY.out.2.2⟩⟩
          | ((repeat apply Exists.intro);exact ⟨⟨i+1,true,_,hlt,by go_num,rfl,iu.next ⟨NY.out.1,A4.out,NY.out.2.1,NY.out.2.2⟩⟩,rfl⟩)
         case measure=>simp [intOf];omega
       ·as_aux_lemma=>
        obtain ⟨u,v,rfl⟩:∃ u v,tf=[u,v]:=by
         have h2:tf.length=2:=by
          have:=HOK.out.tk _ HLI.out;rw [HTH.out] at this;simp [bs] at this;omega
         match tf,h2 with
         | [u,v],_=>exact ⟨u,v,rfl⟩
        have kT:ab (fun _=>False) w wt:=MT.out.K;have rdT:=HRD.out.ae kT (fun _ _ _ h=>h);obtain ⟨gf,of,rfl,hgf,u0,u1⟩:=rdT.val 0 (by simp);obtain ⟨_,_,e',-,v0,v1⟩:=rdT.val 1 (by simp);cases e';have lenE:([u,v]:List Vl).length=2:=rfl;simp only [List.getD_cons_zero,List.getD_cons_succ,Nat.zero_mul,Nat.add_zero,Nat.one_mul] at u0 u1 v0 v1;have hin:∀ y:Vl,y ∈ [u,v]→mQ l.length y:=fun y hy h3=>by
         have:=HOK.out.tv _ HLI.out y (by rw [HTH.out];exact hy);have:=Wd.bh this h3;rw [HLL.out];exact ⟨this.1,this.2.1⟩
        have HIN:=Hz hin;have hll4:l.length≤1000000:=by have:=HLL.out;omega
        clear rdT kT hin;have hk3:=Hz (show (W.th (i:Int)).k=4 by rw [HTH.out]);have HW2:=Hz (show wr.alloc (.cells #[.int .i64 4, .slice (some ⟨gf,of,none⟩) 2 fc, .bool tol, .bool tde] 154)=wt from HWT.out);have hf3:=Hz (show (W.th (i:Int)).fs=[u,v] by rw [HTH.out]);go_wp2_with (refine aV rfl 154 (.tmp 31) rfl [.int .i64 4, .slice fo ([u,v]:List Vl).length fc, .bool tol, .bool tde] (by kernel_rfl) g (o+i*4) rfl (aa t0 (aa t1 (aa t2 (aa t3 aQ)))) ?_);rw [HW2.out];clear t0 t1 t2 t3 p0 pl hgl hgo b1 d0;have b0:=MT.out.O.hb.cell 0;have bl:=MT.out.O.hb.lt;have x1:=BT.out.cell 1;have xl:=BT.out.lt;simp only [Lz,Ls] at b0 x1;refine ay (.free 1 (.pure 0 (.pure 2 (.free 3 (.pure 4 (.run 5 (.swi [] (.fin)))))))) [5] (fun w'=>w'.cell? ⟨b,0,none⟩=some (.slice (some ⟨go,oo,none⟩) is.length cap)∧w'.cell? ⟨wr.heap.size,1,none⟩=some (.slice (some ⟨gf,of,none⟩) 2 fc)∧w'.cell? ⟨gf,of,none⟩=some (.int .i64 u.1)∧w'.cell? ⟨gf,of+1,none⟩=some (.int .i64 u.2)) (by kernel_rfl) (by kernel_rfl) ⟨b0,x1,u0,u1⟩ ?_
        iterate 5 ((first | refine au rfl rfl fun K hK=>?_ | refine aq rfl rfl fun K hK=>?_ | refine aF rfl rfl fun K hK=>?_ | refine az rfl rfl fun K hK=>?_ | refine aE rfl rfl fun K hK=>?_);go_simp;refine hK _ ?_;clear hK K)
        refine aJ rfl rfl rfl (fun K hK=>?_);unfold aC;go_simp;have MD:=Hz (MT.out.same ((Kz wt).drew));obtain ⟨_,_,e',rdo,-,-⟩:=MD.out.O.hs.rd;obtain ⟨rfl,-,rfl⟩:=Value.slice.inj e';have HIS:=nZ u (some ⟨go,oo,none⟩) cap l _ rdo hll4 (HIN.out u (by simp));rw [G2.out.len] at HIS;refine HIS.mono ?_;rintro e w3 ⟨rfl,hk⟩;have k3:ab (fun _=>False) wt w3:=((Kz wt).drew).trans hk;have M3:=Hz (MT.out.same k3);have B3:=Hz (k3.ak BT.out (fun h=>h));have v0':=k3.n8 hgf v0;have v1':=k3.n8 hgf v1;have hgf3:gf<w3.heap.size:=Nat.lt_of_lt_of_le hgf k3.size;refine hK _ _ ?_;clear hK K hk k3 HIS rdo e' b0 bl x1 xl u0 u1 v0 v1;refine aH (fun _=>True) trivial (aB ?_);cases hu:bJ l u
        ·have HU:=Hz hu;clear hu v0' v1';go_wp2_with fail;go_roundw
         case rel=>
          first
          | exact ⟨i+1,x,l,hlt,by go_num,rfl,iu.next ⟨M3.out,G2.out,F2.out,fun hm=>⟨Y2.out hm,by
           rcases F2.out with ⟨_,e⟩ | ⟨e,_⟩
           ·rw [←e];exact kG hk3.out hf3.out (fun h=>by rw [HU.out] at h;cases h)
           ·rw [e] at hm;cases hm⟩⟩⟩
          | ((repeat apply Exists.intro);exact ⟨⟨i+1,x,l,hlt,by go_num,rfl,iu.next ⟨M3.out,G2.out,F2.out,fun hm=>⟨Y2.out hm,by
           rcases F2.out with ⟨_,e⟩ | ⟨e,_⟩
           ·rw [←e];exact kG hk3.out hf3.out (fun h=>by rw [HU.out] at h;cases h)
           ·rw [e] at hm;cases hm⟩⟩⟩,rfl⟩)
         case measure=>simp [intOf];omega
        ·have LD:=Hz (G2.out.lead HAT.out (v:=v) (yq hk3.out hf3.out hu));clear hu;have x1:=B3.out.cell 1;have xl:=B3.out.lt;simp only [Lz,Ls] at x1;go_wp2_with (refine cF rfl 96 (.tmp 82) rfl (by kernel_rfl) gf _ rfl _ _ v0' v1' ?_);refine (nk v b _ l _ M3.out.O hll4 (HIN.out v (by simp))).mono ?_;rintro e w4 ⟨rfl,hO,hK⟩;have A4:=Hz (G2.out.add (HIN.out v (by simp)) LD.out);have NX:=Hz (And.intro (M3.out.add hO hK) (And.intro (F2.out.add (v:=v) (HIN.out v (by simp))) (lM.add (v:=v) (r:=(∀ j:Nat,j<i→cQ W q lp j)∧cQ W q lp i) F2.out Y2.out (fun h1 h2=>⟨h1,kG hk3.out hf3.out (fun _=>h2)⟩))));clear hO hK x1 xl v0' v1';generalize (!bJ l v)=a at *;cases a
         ·have nx:=NX.out;simp only [Bool.false_or] at nx;have NY:=Hz nx;clear nx NX;go_wp2_with fail;go_roundw
          case rel=>
           first
           | exact ⟨i+1,x,_,hlt,by go_num,rfl,iu.next ⟨NY.out.1,A4.out,NY.out.2.1,NY.out.2.2⟩⟩
           | ((repeat apply Exists.intro);exact ⟨⟨i+1,x,_,hlt,by go_num,rfl,iu.next ⟨NY.out.1,A4.out,NY.out.2.1,NY.out.2.2⟩⟩,rfl⟩)
          case measure=>simp [intOf];omega
         ·have nx:=NX.out;simp only [Bool.true_or] at nx;have NY:=Hz nx;clear nx NX;go_wp2_with fail;go_roundw
          case rel=>
           first
           | exact ⟨i+1,true,_,hlt,by go_num,rfl,iu.next ⟨NY.out.1,A4.out,NY.out.2.1,NY.out.2.2⟩⟩
           | ((repeat apply Exists.intro);exact ⟨⟨i+1,true,_,hlt,by go_num,rfl,iu.next ⟨NY.out.1,A4.out,NY.out.2.1,NY.out.2.2⟩⟩,rfl⟩)
          case measure=>simp [intOf];omega
       ·as_aux_lemma=>
        go_wp2_with (refine aV rfl 154 (.tmp 31) rfl [.int .i64 5, .slice fo tf.length fc, .bool tol, .bool tde] (by kernel_rfl) g (o+i*4) rfl (aa t0 (aa t1 (aa t2 (aa t3 aQ)))) ?_);rw [HWT.out];clear t0 t1 t2 t3 b0 bl p0 pl hgl hgo b1 d0;have hkk:=Hz (show (W.th (i:Int)).k=5 by rw [HTH.out]);go_loopw [7,11] (fun m u wr2=>∃ (f:Nat) (x:Bool) (l:List Bool),f≤q.length∧u=.int .i64 f∧m=.bool x∧GM w wr2 b (.slice (some ⟨go,oo,none⟩) is.length cap) l∧gA W q is l∧Fl x lp l∧lM x ((∀ j:Nat,j<i→cQ W q lp j)∧∀ e ∈ q.take f,e.1=(i:Int)→bJ lp (3,e.2)=true)∧ax l (i:Int)=true) (fun _ u _=>q.length-(intOf u).toNat)
        case atStart=>exact ⟨0,x,l,Nat.zero_le _,rfl,rfl,MT.out,G2.out,F2.out,fun hm=>⟨Y2.out hm,(fun e he=>by simp at he)⟩,HAT.out⟩
        case round=>
         obtain ⟨f,x,l,hf,rfl,rfl,hM,hG,hF,hY,hA⟩:=hrel;have M3:=Hz hM;have G3:=Hz hG;have F3:=Hz hF;have Y3:=Hz hY;have A3:=Hz hA;obtain ⟨⟨c1,c2,c3,c4,hp⟩,-,hw⟩:=HG.out.same hM.K;have p3:=hp.cell 3;have pl:=hp.lt;simp only [Lz,Ls] at p3;have hll3:l.length=W.T.length:=hG.len.trans HLEN.out;clear hM hG hF hY hA hp;by_cases hlt3:f<q.length
         ·obtain ⟨_,_,e',rd3,-,-⟩:=hw.rd;cases e';obtain ⟨gf,of,rfl,hgf,v0,v1⟩:=rd3.il f hlt3;have hmem:q.getD f (0,0) ∈ q:=by rw [Ld,Le hlt3];exact List.getElem_mem hlt3
          have htk:=Hz (show q.take (f+1)=q.take f ++ [q.getD f (0,0)] by rw [←List.take_append_getElem hlt3,Ld,Le hlt3];rfl);have HMM:=Hz hmem;generalize q.getD f (0,0)=v at *;obtain ⟨v1g,v2g⟩:=v;dsimp only at v0 v1;have hin:mQ l.length (3,v2g):=fun h3=>by
           have:=(HQ.out _ HMM.out).2.2;exact ⟨this.1,by rw [hll3];exact this.2.1⟩
          have HIN:=Hz hin;clear hmem hin rd3 hll3 hw;by_cases he:v1g=(i:Int)
          ·have hd:(v1g == (i:Int))=true:=by simpa using he
           have LD:=Hz (G3.out.lead A3.out (v:=(3,v2g)) (vp hkk.out HMM.out he));have HE:=Hz he;clear he;go_wp2_with fail;refine (nk (3,v2g) b _ l _ M3.out.O (by have:=G3.out.len;omega) HIN.out).mono ?_;rintro e w3 ⟨rfl,hO,hK⟩;have A4:=Hz ((G3.out.add HIN.out (fun _=>LD.out trivial)));have A5:=Hz (show ax (fF l (3,v2g)) (i:Int)=true by
            have:=A3.out;unfold fF;split
            ·exact this
            ·exact (fM (HIN.out rfl).1 (HIN.out rfl).2).2 (.inr this))
           have NX:=Hz (And.intro (M3.out.add hO hK) (And.intro (F3.out.add (v:=(3,v2g)) HIN.out) (lM.add (v:=(3,v2g)) (r:=(∀ j:Nat,j<i→cQ W q lp j)∧∀ e ∈ q.take (f+1),e.1=(i:Int)→bJ lp (3,e.2)=true) F3.out Y3.out (fun h1 h2=>⟨h1.1,fun u hu h5=>by
            rw [htk.out] at hu;rcases List.mem_append.1 hu with hu | hu
            ·exact h1.2 u hu h5
            ·rw [List.mem_singleton] at hu;subst hu;exact h2⟩))))
           clear hO hK p3 pl v0 v1 hgf;generalize (!bJ l (3,v2g))=a at *;cases a
           ·have nx:=NX.out;simp only [Bool.false_or] at nx;have NY:=Hz nx;clear nx NX;go_wp2_with fail;go_roundw
            case rel=>
             first
             | exact ⟨f+1,x,_,hlt3,by go_num,rfl,NY.out.1,A4.out,NY.out.2.1,NY.out.2.2,A5.out⟩
             | ((repeat apply Exists.intro);exact ⟨⟨f+1,x,_,hlt3,by go_num,rfl,NY.out.1,A4.out,NY.out.2.1,NY.out.2.2,A5.out⟩,rfl⟩)
            case measure=>simp [intOf];omega
           ·have nx:=NX.out;simp only [Bool.true_or] at nx;have NY:=Hz nx;clear nx NX;go_wp2_with fail;go_roundw
            case rel=>
             first
             | exact ⟨f+1,true,_,hlt3,by go_num,rfl,NY.out.1,A4.out,NY.out.2.1,NY.out.2.2,A5.out⟩
             | ((repeat apply Exists.intro);exact ⟨⟨f+1,true,_,hlt3,by go_num,rfl,NY.out.1,A4.out,NY.out.2.1,NY.out.2.2,A5.out⟩,rfl⟩)
            case measure=>simp [intOf];omega
          ·have hd:(v1g == (i:Int))=false:=by simpa using he
           have HE:=Hz he;clear he;go_wp2_with fail;go_roundw
           case rel=>
            first
            | exact ⟨f+1,x,l,hlt3,by go_num,rfl,M3.out,G3.out,F3.out,fun hm=>⟨(Y3.out hm).1,fun u hu h5=>by
             rw [htk.out] at hu;rcases List.mem_append.1 hu with hu | hu
             ·exact (Y3.out hm).2 u hu h5
             ·rw [List.mem_singleton] at hu;subst hu;exact (HE.out h5).elim⟩,A3.out⟩
            | ((repeat apply Exists.intro);exact ⟨⟨f+1,x,l,hlt3,by go_num,rfl,M3.out,G3.out,F3.out,fun hm=>⟨(Y3.out hm).1,fun u hu h5=>by
             rw [htk.out] at hu;rcases List.mem_append.1 hu with hu | hu
             ·exact (Y3.out hm).2 u hu h5
             ·rw [List.mem_singleton] at hu;subst hu;exact (HE.out h5).elim⟩,A3.out⟩,rfl⟩)
           case measure=>simp [intOf];omega
         ·obtain rfl:f=q.length:=by omega
          clear hll3 hw;go_wp2_with fail;go_roundw
          case rel=>
           first
           | exact ⟨i+1,x,l,hlt,by go_num,rfl,iu.next ⟨M3.out,G3.out,F3.out,fun hm=>⟨(Y3.out hm).1,lN hkk.out (fun e he h5=>(Y3.out hm).2 e (by rw [List.take_length];exact he) h5)⟩⟩⟩
           | ((repeat apply Exists.intro);exact ⟨⟨i+1,x,l,hlt,by go_num,rfl,iu.next ⟨M3.out,G3.out,F3.out,fun hm=>⟨(Y3.out hm).1,lN hkk.out (fun e he h5=>(Y3.out hm).2 e (by rw [List.take_length];exact he) h5)⟩⟩⟩,rfl⟩)
          case measure=>simp [intOf];omega
     ·obtain rfl:i=W.T.length:=by omega
      clear ht;go_wp2_with fail
      go_roundg (nh l+if x then 1 else 0)
      case measure=>
       have h1:=HU.out;have h2:=F2.out;simp only [if_true] at h1;rcases h2 with ⟨rfl,rfl⟩ | ⟨rfl,h2⟩
       ·simp;omega
       ·simp;omega
      case rel=>
       refine ⟨x,l,rfl,⟨M2.out,G2.out,fun hm=>?_⟩,Nat.le_refl _⟩;rcases F2.out with ⟨_,e⟩ | ⟨e,_⟩
       ·rw [e] at HLL ⊢;rw [HLL.out];exact Y2.out hm
       ·rw [e] at hm;cases hm
end
end
section
open Go.RowKit
def gq (W:Wd) (major:Bool) (k:Nat):List Bool:=(List.range W.T.length).map fun (i:Nat)=>decide (i<k) && ((W.th (i:Int)).aP && !(W.th (i:Int)).dead && !major)
def dB (W:Wd) (major:Bool) (k:Nat):List Bool:=(List.range W.T.length).map fun (i:Nat)=>((W.th (i:Int)).aP && !(W.th (i:Int)).dead && !major) || (W.roots.take k).any fun v=>v.1 == 3 && v.2 == (i:Int)
theorem pV (W:Wd) (major:Bool) (k:Nat):(gq W major k).length=W.T.length:=by simp [gq]
theorem pW (W:Wd) (major:Bool) (k:Nat):(dB W major k).length=W.T.length:=by simp [dB]
theorem tO (W:Wd) (major:Bool):gq W major 0=List.replicate W.T.length false:=by
 unfold gq;rw [List.eq_replicate_iff];refine ⟨by simp,fun b hb=>?_⟩;simp at hb;exact hb.2
theorem tP (W:Wd) (major:Bool) {k:Nat} (h:k<W.T.length):(gq W major k).set k ((W.th (k:Int)).aP && !(W.th (k:Int)).dead && !major)=gq W major (k+1):=by
 unfold gq;apply List.ext_getElem (by simp);intro j h1 h2;simp only [List.getElem_set,List.getElem_map,List.getElem_range];split
 ·rename_i e;subst e;simp
 ·rename_i e;congr 1;simp only [decide_eq_decide];omega
theorem vq (W:Wd) (major:Bool):gq W major W.T.length=dB W major 0:=by
 unfold gq dB;apply List.map_congr_left;intro i hi;have:i<W.T.length:=by simpa using hi
 simp [this]
theorem vr (W:Wd) (major:Bool):dB W major W.roots.length=W.first major:=by
 unfold dB Wd.first
 rw [List.take_length]
theorem tQ (W:Wd) (major:Bool) {k:Nat} (h:k<W.roots.length) {v:Vl} (hv:W.roots.getD k (0,0)=v):dB W major (k+1)=if v.1=3 then (if 0≤v.2 then (dB W major k).set v.2.toNat true else dB W major k) else dB W major k:=by
 have e:W.roots.take (k+1)=W.roots.take k ++ [v]:=by
  rw [←List.take_append_getElem h,←hv,Ld,Le h];rfl
 have h1:dB W major (k+1)=(List.range W.T.length).map fun (i:Nat)=>(((W.th (i:Int)).aP && !(W.th (i:Int)).dead && !major) || (W.roots.take k).any fun v=>v.1 == 3 && v.2 == (i:Int)) || (v.1 == 3 && v.2 == (i:Int)):=by
  unfold dB;rw [e];apply List.map_congr_left;intro i _;simp [Bool.or_assoc]
 rw [h1];by_cases h3:v.1=3
 ·rw [if_pos h3];by_cases h0:0≤v.2
  ·rw [if_pos h0];unfold dB;apply List.ext_getElem (by simp);intro j h1 h2;simp only [List.getElem_set,List.getElem_map,List.getElem_range];split
   ·rename_i e;have:v.2=(j:Int):=by omega
    simp [h3,this]
   ·rename_i e;have:¬ v.2=(j:Int):=by omega
    simp [this]
  ·rw [if_neg h0];unfold dB;apply List.map_congr_left;intro i _;have:¬ v.2=(i:Int):=by omega
   simp [this]
 ·rw [if_neg h3];unfold dB;apply List.map_congr_left;intro i _;simp [h3]
section
variable {w:World} {h:RW} {W:Wd}
theorem aZ.gr (H:aZ w h W):qQ w h.p h.tv h.wv h.F W W.wait:=⟨⟨_,_,_,_,H.hp⟩,H.ht,H.hw⟩
theorem zY (major:Bool) (H:aZ w h W) (hT:W.T.length≤100000) :
  Calls Tryz.prog 141 #[.pointer (some ⟨h.p,0,none⟩), .bool major] w (ph w (W.first major)):=by
 obtain ⟨ib,hi,hz0,hz1,hz2⟩:=info_parts iQ;have hmk:=eH (P:=Tryz.prog) w 122 4 ib (.bool false) Tryz.underlying122 hi hz0 rfl hz1 W.T.length (by rw [hz2];omega) (by omega);have HM:=Hz hmk;clear hi hz0 hz1 hz2;have HH:=Hz H;obtain ⟨no,nc,hno,-⟩:=H.ht.nth;obtain ⟨ro,rc,hro,-,-,-⟩:=H.hr.rd;obtain ⟨c0,c1,-,-,-,-⟩:=H.cells;rw [hno] at c0;rw [hro] at c1;have pl:=H.hp.lt;have hok:=H.ok;have HOK:=Hz hok;have HNO:=Hz hno;have HRO:=Hz hro;have h12:=hok.hr;clear H hok hno hro;go_enter Tryz.func141,Tryz.ntmps141;go_wp2_with fail;generalize hwx:w.alloc (.cells (Array.replicate W.T.length (.bool false)) 4)=wx;have KX:=Hz (show ab (fun _=>False) w wx by rw [←hwx];exact (ab.refl _ _).alloc _);have BX:=Hz (show ah wx w.heap.size ((gq W major 0).map Value.bool) 4 by rw [←hwx,tO];exact ah.newAt _ rfl (by simp));have HX:=Hz hwx;clear hwx
 try rw [HX.out]
 go_loopw [6] (fun u wr=>∃ k:Nat,k≤W.T.length∧u=.int .i64 k∧ab (fun _=>False) w wr∧ah wr w.heap.size ((gq W major k).map Value.bool) 4) (fun u _=>W.T.length-(intOf u).toNat)
 case atStart=>exact ⟨0,Nat.zero_le _,rfl,KX.out,BX.out⟩
 case round=>
  clear c0 c1 pl;obtain ⟨k,hk,rfl,hK,hB⟩:=hrel;have K:=Hz hK;have B:=Hz hB;have HW:=Hz (HH.out.same hK);obtain ⟨c0,c1,-,-,-,-⟩:=HW.out.cells;rw [HNO.out] at c0;rw [HRO.out] at c1;have pl:=HW.out.hp.lt;clear hK hB;by_cases hlt:k<W.T.length
  ·obtain ⟨_,_,e',N⟩:=HW.out.ht.nth;rw [HNO.out] at e';cases e';obtain ⟨g,o,fo,fc,rfl,-,hgl,t0,t1,t2,t3,-,-,-⟩:=N k hlt;have HST:=Hz (tP W major hlt);have HTH:=Hz (show W.th (k:Int)=W.T.getD k Th.none by unfold Wd.th;rw [Int.toNat_natCast]);have x0:=B.out.cell k;have xl:=B.out.lt;have xf:=B.out.free k;rw [List.getElem?_map,Le (by rw [pV];exact hlt)] at x0;simp only [Option.map_some] at x0;generalize (gq W major k)[k]'(by rw [pV];exact hlt)=b0 at x0;have hne:g≠w.heap.size:=fun e=>by
    subst e;obtain ⟨cs,hs,-⟩:=HW.out.ht;obtain ⟨_,c',hc⟩:=hs.own (k:=w.heap.size) (by rw [HNO.out];rfl);exact B.out.ne hc (by decide) rfl
   generalize W.T.getD k Th.none=t at *;obtain ⟨tk,tf,tol,tde⟩:=t;dsimp only at t0 t1 t2 t3 HTH;clear N;cases tol <;> cases tde <;> cases major
   all_goals
    go_wp2_with fail;go_roundw
    case rel=>
     refine ⟨k+1,hlt,by go_num,K.out.setCell (p:=⟨w.heap.size,k,none⟩) (.inr (Nat.le_refl _)) _,?_⟩;rw [←HST.out,List.map_set,HTH.out];exact B.out.aO k _
    case measure=>simp [intOf];omega
  ·obtain rfl:k=W.T.length:=by omega
   rw [vq] at B;go_wp2_with fail;go_loopw [7] (fun u wr=>∃ k:Nat,k≤12∧u=.int .i64 k∧ab (fun _=>False) w wr∧ah wr w.heap.size ((dB W major k).map Value.bool) 4) (fun u _=>12-(intOf u).toNat)
   case atStart=>exact ⟨0,Nat.zero_le _,rfl,K.out,B.out⟩
   case round=>
    clear c0 c1 pl HW;obtain ⟨k,hk,rfl,hK,hB⟩:=hrel;have K:=Hz hK;have B:=Hz hB;have HW:=Hz (HH.out.same hK);obtain ⟨c0,c1,-,-,-,-⟩:=HW.out.cells;rw [HNO.out] at c0;rw [HRO.out] at c1;have pl:=HW.out.hp.lt;clear hK hB;by_cases hlt2:k<12
    ·obtain ⟨_,_,e',rd,-,-⟩:=HW.out.hr.rd;rw [HRO.out] at e';cases e';obtain ⟨g,o,rfl,hgl,v0,v1⟩:=rd.val k (by omega);have HST:=Hz (tQ W major (k:=k) (by omega) rfl);have hokv:=HOK.out.rv (W.roots.getD k (0,0)) (by rw [Ld,Le (by omega)];exact List.getElem_mem _);have HV:=Hz hokv;generalize W.roots.getD k (0,0)=v at *;obtain ⟨vk,vn⟩:=v;dsimp only at v0 v1;clear rd hokv;by_cases h3:vk=3
     ·subst h3;have hlv:=Wd.bh HV.out rfl;have h0:=hlv.1;have h1:=hlv.2.1;dsimp only at h0 h1;obtain ⟨m,rfl⟩:∃ m:Nat,vn=m:=⟨vn.toNat,by omega⟩;have hm:m<W.T.length:=by omega
      have HS2:=Hz (HST.out.trans (by rw [if_pos rfl,if_pos (by omega)]));have x0:=B.out.cell m;have xl:=B.out.lt;have xf:=B.out.free m;rw [List.getElem?_map,Le (by rw [pW];exact hm)] at x0;simp only [Option.map_some] at x0;generalize (dB W major k)[m]'(by rw [pW];exact hm)=b0 at x0;clear hlv HST;go_wp2_with fail;go_roundw
      case rel=>
       have hset:=B.out.aO m (.bool true);rw [←List.map_set] at hset;have e:(dB W major k).set m true=dB W major (k+1):=by rw [HS2.out];simp
       rw [e] at hset;refine ⟨k+1,hlt2,by go_num,?_,hset⟩;exact K.out.setCell (p:=⟨w.heap.size,m,none⟩) (.inr (Nat.le_refl _)) _
      case measure=>simp [intOf];omega
     ·have hkb:(vk == 3)=false:=by simpa using h3
      have HS2:=Hz (HST.out.trans (if_neg h3));clear h3 HST;go_wp2_with fail;go_roundw
      case rel=>exact ⟨k+1,hlt2,by go_num,K.out,by rw [HS2.out];exact B.out⟩
      case measure=>simp [intOf];omega
    ·obtain rfl:k=12:=by omega
     have hall:dB W major 12=W.first major:=by rw [←h12];exact vr W major
     have hlen:=W.eK major;rw [hall] at B;clear hall;have HLE:=Hz hlen;clear hlen;go_wp2_with fail;go_ret;refine ⟨some ⟨w.heap.size,0,none⟩,W.T.length,by rw [HLE.out];rfl,⟨by simp, .inr ⟨w.heap.size,0,W.T.length,_,rfl,B.out,by rw [HLE.out];exact Nat.le_refl _,by unfold maxLen;omega,by simp [HLE.out],?_⟩⟩,K.out,fun k hk=>?_⟩
     ·rw [List.drop_zero];exact List.take_of_length_le (by simp)
     ·simp [ai,Value.ownBlock] at hk;omega
end
end
section
def aD (φ:Int→Int) (v:Vl):Int:=if v.1=3 then 4*φ v.2+1 else if v.1=1 then 4*v.2 else if v.1=2 then 3 else 2
def bq (φ:Int→Int) (e:Int × Int):Int × Int:=(4*φ e.1+1,4*φ e.2+1)
theorem bI (φ:Int→Int) {v:Vl} (h:v.1=3):aD φ v=4*φ v.2+1:=if_pos h
theorem fG {W:Wd} {φ:Int→Int} {v:Vl} (h:W.cI v):aD φ v%4=1↔v.1=3:=by
 rcases h with h | h | h | h
 ·simp [aD,h.1]
 ·simp [aD,h.1]
 ·simp [aD,h.1]
 ·simp only [aD,h.1,if_true,iff_true];omega
theorem j8 {φ ψ:Int→Int} {v:Vl} (h:v.1≠3):aD φ v=aD ψ v:=by simp [aD,h]
theorem rp {W:Wd} {φ:Int→Int} {v:Vl} (h:W.cI v):dh (aD φ v)=eP φ v:=by
 rcases h with h | h | h | h
 ·have:v=(0,0):=by cases v;simp_all
  subst this;rfl
 ·have e:aD φ v=4*v.2:=by simp [aD,h.1]
  rw [e];have h1:(4*v.2)%4=0:=by omega
  have h2:(4*v.2)/4=v.2:=by omega
  have:=r4 (x:=4*v.2) h1 (by rw [h2];exact h.2);unfold dh eP;rw [if_neg (by omega),this,if_neg (by rw [h.1];decide),h2];cases v;simp_all
 ·have:v=(2,0):=by cases v;simp_all
  subst this;rfl
 ·have e:aD φ v=4*φ v.2+1:=bI φ h.1;rw [e];unfold dh eP;rw [if_pos (by omega),if_pos h.1];congr 1;omega
def Tile (A:Ar):List Int→Int→Int→Prop
 | [],a,b=>a=b
 | p :: l,a,b=>p=a∧(A.aj p).2.2=0∧Tile A l (p+1+(A.aj p).2.1) b
theorem Tile.le {A:Ar}:∀ {l:List Int} {a b:Int},Tile A l a b→a≤b
 | [],a,b,h=>by have:a=b:=h;omega
 | p :: l,a,b,h=>by
  have:=Tile.le h.2.2;have:=A.aU p;have:=h.1;omega
theorem Tile.mem {A:Ar}:∀ {l:List Int} {a b:Int},Tile A l a b→∀ p ∈ l,a≤p∧p+1+(A.aj p).2.1≤b∧(A.aj p).2.2=0
 | q :: l,a,b,h,p,hp=>by
  rcases List.mem_cons.1 hp with rfl | hp
  ·have:=Tile.le h.2.2;have:=h.1;exact ⟨by omega,by omega,h.2.1⟩
  ·have h1:=Tile.mem h.2.2 p hp;have:=A.aU q;have:=h.1;exact ⟨by omega,h1.2.1,h1.2.2⟩
theorem Tile.apart {A:Ar}:∀ {l:List Int} {a b:Int},Tile A l a b→l.Pairwise fun p q=>p+1+(A.aj p).2.1≤q
 | [],_,_,_=>List.Pairwise.nil
 | p :: l,a,b,h=>List.Pairwise.cons (fun q hq=>(Tile.mem h.2.2 q hq).1) (Tile.apart h.2.2)
theorem Tile.congr {A B:Ar}:∀ {l:List Int} {a b:Int},(∀ p ∈ l,B.aj p=A.aj p)→Tile A l a b→Tile B l a b
 | [],_,_,_,h=>h
 | p :: l,a,b,hs,h=>by
  refine ⟨h.1,?_,?_⟩
  ·rw [hs p (by simp)];exact h.2.1
  ·rw [hs p (by simp)];exact Tile.congr (fun q hq=>hs q (by simp [hq])) h.2.2
theorem Tile.app {A:Ar} {m:List Int} {c:Int}:∀ {l:List Int} {a b:Int},Tile A l a b→Tile A m b c→Tile A (l ++ m) a c
 | [],a,b,h,k=>by have:a=b:=h;subst this;exact k
 | p :: l,a,b,h,k=>⟨h.1,h.2.1,Tile.app h.2.2 k⟩
theorem Tile.list {A:Ar}:∀ {l:List Int} {a b:Int} {n:Nat},Tile A l a b→(b-a).toNat≤n→A.list n a b=l
 | [],a,b,n,h,hn=>by
  have:a=b:=h;subst this;exact Ar.oT (fun h=>by omega)
 | p :: l,a,b,n,h,hn=>by
  have hle:=Tile.le h.2.2;have hf:=A.aU p;have he:=h.1;subst he;obtain ⟨n,rfl⟩:∃ m,n=m+1:=⟨n-1,by omega⟩;rw [Ar.q5 (by omega) h.2.1,Tile.list h.2.2 (by omega)]
theorem Tile.sum {A:Ar}:∀ {l:List Int} {a b:Int},Tile A l a b→b=a+(l.map fun p=>1+(A.aj p).2.1).sum
 | [],a,b,h=>by have:a=b:=h;subst this;simp
 | p :: l,a,b,h=>by
  have:=Tile.sum h.2.2;have:=h.1;simp only [List.map_cons,List.sum_cons];omega
theorem Ar.eF {A:Ar} (h:A.ok) (p q x:Int):(A.store p x).load q=if q=p∧A.aS p=true then x else A.load q:=by
 have hu:∀ r,(A.store p x).aS r=A.aS r:=fun r=>by
  unfold Ar.aS Ar.aG Ar.aP;rw [A.fg,A.cU,A.dA]
 unfold Ar.load;rw [hu];by_cases hp:A.aS p=true
 ·have hl:=h.i6 hp;have e:A.store p x={ A with ws:=A.ws.set p.toNat x }:=by unfold Ar.store;rw [if_pos hp]
  by_cases hq:A.aS q=true
  ·have hlq:=h.i6 hq;rw [if_pos hq,if_pos hq,e]
   show (A.ws.set p.toNat x).getD q.toNat 0=_
   simp only [Ld,List.getElem?_set];by_cases e2:q=p
   ·subst e2;rw [if_pos rfl,if_pos (by omega),if_pos ⟨rfl,hp⟩];rfl
   ·rw [if_neg (by omega),if_neg (fun h=>e2 h.1)]
  ·rw [if_neg hq,if_neg hq,if_neg (fun hh=>by rw [hh.1] at hq;exact hq hh.2)]
 ·have e:A.store p x=A:=by unfold Ar.store;rw [if_neg hp]
  rw [e,if_neg (fun hh:q=p∧A.aS p=true=>hp hh.2)]
end
section
def gB (M:List Int) (v:Vl):Vl:=eP (fun x=>((M.idxOf x:Nat):Int)) v
def qR (M:List Int) (n:Nd):Nd:=(n.1,n.2.map (gB M))
theorem sB {M m:List Int} {v:Vl} (h:v.1=3→v.2 ∈ M):gB (M ++ m) v=gB M v:=by
 unfold gB eP;by_cases h3:v.1=3
 ·rw [if_pos h3,if_pos h3];dsimp only;rw [List.idxOf_append,if_pos (h h3)]
 ·rw [if_neg h3,if_neg h3]
theorem sC {M m:List Int} {l:List Vl} (h:∀ v ∈ l,v.1=3→v.2 ∈ M):l.map (gB (M ++ m))=l.map (gB M):=
 List.map_congr_left fun v hv=>sB (h v hv)
structure Told (G:Gr) (L:List Vl) (s s':VS):Prop where
 pre:∃ m,s'.1=s.1 ++ m
 len:s'.2.length=s'.1.length
 nodup:s.1.Nodup→s'.1.Nodup
 met:∀ v ∈ L,v.1=3→v.2 ∈ s'.1
 shut:∀ (k:Nat) (x:Int),s.1.length≤k→s'.1[k]? = some x→∀ v ∈ (G x).2,v.1=3→v.2 ∈ s'.1
 node:∀ (k:Nat) (x:Int),s.1.length≤k→s'.1[k]? = some x→s'.2[k]? = some (qR s'.1 (G x))
 ae:∀ k,k<s.1.length→s'.2[k]? = s.2[k]?
 led:∀ (k:Nat) (x:Int),s.1.length≤k→s'.1[k]? = some x→((3,x):Vl) ∈ L∨∃ (j:Nat) (y:Int),s.1.length≤j∧j<k∧s'.1[j]? = some y∧((3,x):Vl) ∈ (G y).2
theorem Told.refl (G:Gr) {L:List Vl} {s:VS} (hl:s.2.length=s.1.length) (hm:∀ v ∈ L,v.1=3→v.2 ∈ s.1):Told G L s s:=
 have no:∀ (k:Nat) (x:Int),s.1.length≤k→s.1[k]? = some x→False:=fun k x h1 h2=>by
  rw [List.getElem?_eq_none h1] at h2;cases h2
 ⟨⟨[],by simp⟩,hl,fun h=>h,hm,fun k x h1 h2=>(no k x h1 h2).elim,fun k x h1 h2=>(no k x h1 h2).elim,fun _ _=>rfl,fun k x h1 h2=>(no k x h1 h2).elim⟩
theorem jg {α:Type} {a m:List α} {k:Nat} (h:k<a.length):(a ++ m)[k]? = a[k]? := List.getElem?_append_left h
theorem Told.then {G:Gr} {L L':List Vl} {s t u:VS} (A:Told G L s t) (B:Told G L' t u):Told G (L ++ L') s u:=by
 obtain ⟨m,hm⟩:=A.pre;obtain ⟨m',hm'⟩:=B.pre;have hsub:∀ x ∈ t.1,x ∈ u.1:=fun x hx=>by rw [hm'];simp [hx]
 have ht:s.1.length≤t.1.length:=by rw [hm];simp
 refine ⟨⟨m ++ m',by rw [hm',hm];simp⟩,B.len,fun h=>B.nodup (A.nodup h),fun v hv h3=>?_,fun k x hk hx v hv h3=>?_,fun k x hk hx=>?_,fun k hk=>?_,fun k x hk hx=>?_⟩
 ·rcases List.mem_append.1 hv with h | h
  ·exact hsub _ (A.met v h h3)
  ·exact B.met v h h3
 ·by_cases hlt:k<t.1.length
  ·rw [hm',jg hlt] at hx;exact hsub _ (A.shut k x hk hx v hv h3)
  ·exact B.shut k x (by omega) hx v hv h3
 ·by_cases hlt:k<t.1.length
  ·have hx':t.1[k]? = some x:=by rw [hm',jg hlt] at hx;exact hx
   rw [B.ae k hlt,A.node k x hk hx'];unfold qR;rw [hm',sC (A.shut k x hk hx')]
  ·exact B.node k x (by omega) hx
 ·rw [B.ae k (by omega),A.ae k hk]
 ·by_cases hlt:k<t.1.length
  ·have hx':t.1[k]? = some x:=by rw [hm',jg hlt] at hx;exact hx
   rcases A.led k x hk hx' with h | ⟨j,y,h1,h0,h2,h3⟩
   ·exact .inl (by simp [h])
   ·exact .inr ⟨j,y,h1,h0,by rw [hm',jg (by omega)];exact h2,h3⟩
  ·rcases B.led k x (by omega) hx with h | ⟨j,y,h1,h0,h2,h3⟩
   ·exact .inl (by simp [h])
   ·exact .inr ⟨j,y,by omega,h0,h2,h3⟩
theorem ns {G:Gr} {U:List Int} {n:Nat} {f:Vl→VS→Vl × VS}
  (h:∀ v s,(v.1=3→v.2 ∈ U)→dz U s.1≤n→s.2.length=s.1.length→Told G [v] s (f v s).2∧(f v s).1=gB (f v s).2.1 v) :
  ∀ (l:List Vl) (s:VS),(∀ v ∈ l,v.1=3→v.2 ∈ U)→dz U s.1≤n→s.2.length=s.1.length→Told G l s (fldM f l s).2∧(fldM f l s).1=l.map (gB (fldM f l s).2.1)
 | [],s,_,_,hl=>⟨Told.refl G hl (fun v hv=>by cases hv),rfl⟩
 | v :: l,s,hL,hn,hl=>by
  obtain ⟨A,e⟩:=h v s (hL v (by simp)) hn hl;obtain ⟨m,hm⟩:=A.pre;have:=qI U s.1 m;obtain ⟨B,e2⟩:=ns h l (f v s).2 (fun u hu=>hL u (by simp [hu])) (by rw [hm];omega) A.len;refine ⟨A.then B,?_⟩;simp only [fldM,List.map_cons];obtain ⟨m',hm'⟩:=B.pre;have h1:gB (fldM f l (f v s).2).2.1 v=gB (f v s).2.1 v:=by rw [hm'];exact sB (A.met v (by simp))
  rw [h1,←e,←e2]
theorem wP {G:Gr} {U:List Int} (I:ux G U):∀ (n:Nat) (v:Vl) (s:VS),(v.1=3→v.2 ∈ U)→dz U s.1≤n→s.2.length=s.1.length →
  Told G [v] s (valM G n v s).2∧(valM G n v s).1=gB (valM G n v s).2.1 v:=by
 intro n
 induction n with
 | zero=>
  intro v s hv hn hl;by_cases h3:v.1=3
  ·have hm:=se (Nat.le_zero.1 hn) (hv h3);rw [fC G _ h3 hm];refine ⟨Told.refl G hl (fun u hu h=>by rw [List.mem_singleton.1 hu];exact hm),?_⟩;simp [gB,eP,h3,iF]
  ·rw [dx G _ _ h3];exact ⟨Told.refl G hl (fun u hu h=>absurd (by rw [←List.mem_singleton.1 hu];exact h) h3),by simp [gB,eP,h3]⟩
 | succ n ih=>
  intro v s hv hn hl;by_cases h3:v.1=3
  ·by_cases hm:v.2 ∈ s.1
   ·rw [fC G _ h3 hm];refine ⟨Told.refl G hl (fun u hu h=>by rw [List.mem_singleton.1 hu];exact hm),?_⟩;simp [gB,eP,h3,iF]
   ·have hu:=jw (hv h3) hm;obtain ⟨A,e⟩:=ns ih (G v.2).2 (s.1 ++ [v.2],s.2 ++ [((G v.2).1,[])]) (I.shut _ (hv h3)) (Nat.le_of_lt_succ (Nat.lt_of_lt_of_le hu hn)) (by simp [hl]);obtain ⟨m,hmm⟩:=A.pre;dsimp only at hmm;rw [fD G n h3 hm];have hat:(fldM (valM G n) (G v.2).2 (s.1 ++ [v.2],s.2 ++ [((G v.2).1,[])])).2.1[s.1.length]? = some v.2:=by rw [hmm];simp
    have hlt:s.1.length<(fldM (valM G n) (G v.2).2 (s.1 ++ [v.2],s.2 ++ [((G v.2).1,[])])).2.1.length:=by rw [hmm];simp
    refine ⟨⟨⟨v.2 :: m,by dsimp only;rw [hmm];simp⟩,by dsimp only;rw [List.length_set];exact A.len,fun h=>A.nodup (by
      rw [List.nodup_append]
      exact ⟨h,by simp,fun a ha b hb e=>hm (by rw [←List.mem_singleton.1 hb,←e];exact ha)⟩),fun u hu h=>?_,fun k x hk hx u hu h=>?_,fun k x hk hx=>?_,fun k hk=>?_,fun k x hk hx=>?_⟩,?_⟩
    ·rw [List.mem_singleton.1 hu];dsimp only;rw [hmm];simp
    ·by_cases he:k=s.1.length
     ·subst he;dsimp only at hx ⊢;rw [hat] at hx;cases hx;exact A.met u hu h
     ·exact A.shut k x (by simp;omega) hx u hu h
    ·dsimp only at hx ⊢;by_cases he:k=s.1.length
     ·subst he;rw [hat] at hx;cases hx;rw [List.getElem?_set_self (by rw [A.len];exact hlt)];unfold qR;rw [←e]
     ·rw [List.getElem?_set_ne (by omega)];exact A.node k x (by simp;omega) hx
    ·dsimp only;rw [List.getElem?_set_ne (by omega),A.ae k (by simp;omega)];dsimp only;rw [List.getElem?_append_left (by omega)]
    ·dsimp only at hx ⊢;by_cases he:k=s.1.length
     ·subst he;rw [hat] at hx;cases hx;left;rw [List.mem_singleton,←h3]
     ·right;rcases A.led k x (by simp;omega) hx with h | ⟨j,y,h1,h0,h2,h4⟩
      ·exact ⟨s.1.length,v.2,Nat.le_refl _,by omega,hat,h⟩
      ·exact ⟨j,y,by simp at h1;omega,h0,h2,h4⟩
    ·dsimp only;unfold gB eP;rw [if_pos h3,hmm];dsimp only;rw [List.idxOf_append,if_pos (by simp),List.idxOf_append,if_neg hm];simp [iF]
  ·rw [dx G _ _ h3];exact ⟨Told.refl G hl (fun u hu h=>absurd (by rw [←List.mem_singleton.1 hu];exact h) h3),by simp [gB,eP,h3]⟩
def kH (G:Gr) (roots:List Vl):List Int:=(fldM (valM G deep) roots ([],[])).2.1
theorem vs {G:Gr} {U:List Int} (I:ux G U) (hU:U.length≤deep) {roots:List Vl} (hr:∀ v ∈ roots,v.1=3→v.2 ∈ U) :
  j2 G roots=(roots.map (gB (kH G roots)),(kH G roots).map fun x=>qR (kH G roots) (G x))∧(kH G roots).Nodup∧(∀ v ∈ roots,v.1=3→v.2 ∈ kH G roots) ∧
  (∀ x ∈ kH G roots, ∀ v ∈ (G x).2,v.1=3→v.2 ∈ kH G roots)∧∀ (k:Nat) (x:Int),(kH G roots)[k]? = some x→((3,x):Vl) ∈ roots∨∃ (j:Nat) (y:Int),j<k∧(kH G roots)[j]? = some y∧((3,x):Vl) ∈ (G y).2:=by
 obtain ⟨A,e⟩:=ns (wP I deep) roots ([],[]) hr (Nat.le_trans (qJ U) hU) rfl;unfold j2;have hM:kH G roots=(fldM (valM G deep) roots ([],[])).2.1:=rfl;rw [←hM] at e;refine ⟨Prod.ext e ?_,A.nodup (by simp),A.met,fun x hx v hv h3=>?_,fun k x hx=>?_⟩
 ·refine List.ext_getElem? fun k=>?_;dsimp only;rw [List.getElem?_map,hM];cases hk:(fldM (valM G deep) roots ([],[])).2.1[k]? with
  | none=>
   rw [List.getElem?_eq_none_iff] at hk;rw [List.getElem?_eq_none (by rw [A.len];exact hk)];rfl
  | some x=>rw [A.node k x (by simp) hk];rfl
 ·obtain ⟨k,hk,rfl⟩:=List.mem_iff_getElem.1 hx;exact A.shut k _ (by simp) (Le hk) v hv h3
 ·rcases A.led k x (by simp) hx with h | ⟨j,y,h1,h0,h2,h3⟩
  ·exact .inl h
  ·exact .inr ⟨j,y,h0,h2,h3⟩
end
section
structure aL (O:Wo) (W:Wd) (φ:Int→Int):Prop where
 ho:O.ok
 hw:W.ok
 ty:Tile O.ar O.ar.aT.1 0 O.ar.yng
 tz:Tile O.ar O.ar.aT.2 O.ar.nur O.ar.grn
 inj:∀ i j,W.live i→W.live j→φ i=φ j→i=j
 onto:∀ p,p ∈ O.ar.aT.1∨p ∈ O.ar.aT.2→∃ i,W.live i∧φ i=p
 iny:∀ i,W.live i→(W.th i).aP=false→φ i ∈ O.ar.aT.1
 ino:∀ i,W.live i→(W.th i).aP=true→φ i ∈ O.ar.aT.2
 th:∀ i,W.live i→O.ar.aj (φ i)=((W.th i).k,((W.th i).fs.length:Int),0)
 fl:∀ i,W.live i→∀ (j:Nat) (v:Vl),(W.th i).fs[j]? = some v→O.ar.load (φ i+1+j)=aD φ v
 rt:O.rt=W.roots.map (aD φ)
 rg:O.rg=W.av.map (bq φ)
 wt:O.wt=W.wait.map (bq φ)
 nur:(O.ar.nur:Int)=W.most
 len:(O.ar.ws.length:Int)=W.most+W.grow
 cl:O.cd.length=gj W.grow
 card:∀ i,W.live i→(W.th i).aP=true→∀ v ∈ (W.th i).fs,v.1=3→(W.th v.2).aP=false→db O.ar.nur O.cd (φ i)=true
section
variable {O:Wo} {W:Wd} {φ:Int→Int}
theorem bV {A:Ar} {i:Int}:A.aG i=true↔0≤i∧i<A.yng:=by simp [Ar.aG]
theorem c7 {A:Ar} {i:Int}:A.aP i=true↔(A.nur:Int)≤i∧i<A.grn:=by simp [Ar.aP]
theorem Tile.pk {A:Ar} {l:List Int} (h:Tile A l 0 A.yng) {p:Int} (hp:p ∈ l) {j:Int} (h0:0≤j) (h1:j≤(A.aj p).2.1):A.aG (p+j)=true:=by
 have:=Tile.mem h p hp;rw [bV];omega
theorem Tile.sD {A:Ar} {l:List Int} (h:Tile A l A.nur A.grn) {p:Int} (hp:p ∈ l) {j:Int} (h0:0≤j) (h1:j≤(A.aj p).2.1):A.aP (p+j)=true:=by
 have:=Tile.mem h p hp;rw [c7];omega
theorem aL.aG (R:aL O W φ) {i:Int} (hi:W.live i) (ho:(W.th i).aP=false) {j:Int} (h0:0≤j) (h1:j≤(W.th i).fs.length):O.ar.aG (φ i+j)=true:=
 R.ty.pk (R.iny i hi ho) h0 (by rw [R.th i hi];exact h1)
theorem aL.aP (R:aL O W φ) {i:Int} (hi:W.live i) (ho:(W.th i).aP=true) {j:Int} (h0:0≤j) (h1:j≤(W.th i).fs.length):O.ar.aP (φ i+j)=true:=
 R.tz.sD (R.ino i hi ho) h0 (by rw [R.th i hi];exact h1)
theorem sE {A:Ar} (h:A.ok) {i:Int} (hy:A.aG i=true):A.aP i=false:=by
 have:=h.h1;rw [bV] at hy;cases ho:A.aP i
 ·rfl
 ·rw [c7] at ho;omega
theorem aL.bV (R:aL O W φ) {i:Int} (hi:W.live i):O.ar.aG (φ i)=true↔(W.th i).aP=false:=by
 constructor
 ·intro h;cases ho:(W.th i).aP
  ·rfl
  ·have:=R.aP hi ho (j:=0) (by omega) (by omega);rw [Int.add_zero,sE R.ho.ha h] at this;cases this
 ·intro h;have:=R.aG hi h (j:=0) (by omega) (by omega);rwa [Int.add_zero] at this
theorem aL.c7 (R:aL O W φ) {i:Int} (hi:W.live i):O.ar.aP (φ i)=true↔(W.th i).aP=true:=by
 constructor
 ·intro h;cases ho:(W.th i).aP
  ·have:=(R.bV hi).2 ho;rw [sE R.ho.ha this] at h;cases h
  ·rfl
 ·intro h;have:=R.aP hi h (j:=0) (by omega) (by omega);rwa [Int.add_zero] at this
theorem aL.use (R:aL O W φ) {i:Int} (hi:W.live i) {j:Int} (h0:0≤j) (h1:j≤(W.th i).fs.length):O.ar.aS (φ i+j)=true:=by
 unfold Ar.aS;rw [Bool.or_eq_true];cases ho:(W.th i).aP
 ·exact .inl (R.aG hi ho h0 h1)
 ·exact .inr (R.aP hi ho h0 h1)
theorem aL.place (R:aL O W φ) {i:Int} (hi:W.live i):0≤φ i∧φ i<1280∧φ i<O.ar.ws.length:=by
 have:=R.use hi (j:=0) (by omega) (by omega);rw [Int.add_zero] at this;have:=R.ho.ha.i6 this;have:=R.ho.ha.h4;omega
theorem kI {l:List Int} {f:Int→Int} (h:l.Pairwise fun p q=>p+1+f p≤q) {p q:Int} (hp:p ∈ l) (hq:q ∈ l):p=q∨p+1+f p≤q∨q+1+f q≤p:=by
 induction h with
 | nil=>cases hp
 | cons h1 _ ih=>
  rcases List.mem_cons.1 hp with rfl | hp'
  ·rcases List.mem_cons.1 hq with rfl | hq'
   ·exact .inl rfl
   ·exact .inr (.inl (h1 q hq'))
  ·rcases List.mem_cons.1 hq with rfl | hq'
   ·exact .inr (.inr (h1 p hp'))
   ·exact ih hp' hq'
theorem aL.apart (R:aL O W φ) {i j:Int} (hi:W.live i) (hj:W.live j) (h:i≠j):φ i+1+(W.th i).fs.length≤φ j∨φ j+1+(W.th j).fs.length≤φ i:=by
 have hne:φ i≠φ j:=fun e=>h (R.inj i j hi hj e);have h1:=R.ho.ha.h1;have ti:=R.th i hi;have tj:=R.th j hj;cases oi:(W.th i).aP <;> cases oj:(W.th j).aP
 ·have:=kI (f:=fun p=>(O.ar.aj p).2.1) R.ty.apart (R.iny i hi oi) (R.iny j hj oj);rw [ti,tj] at this;dsimp only at this;omega
 ·have a:=R.ty.mem _ (R.iny i hi oi);have b:=R.tz.mem _ (R.ino j hj oj);rw [ti] at a;dsimp only at a;omega
 ·have a:=R.tz.mem _ (R.ino i hi oi);have b:=R.ty.mem _ (R.iny j hj oj);rw [tj] at b;dsimp only at b;omega
 ·have:=kI (f:=fun p=>(O.ar.aj p).2.1) R.tz.apart (R.ino i hi oi) (R.ino j hj oj);rw [ti,tj] at this;dsimp only at this;omega
theorem Tile.nodup {A:Ar} {l:List Int} {a b:Int} (h:Tile A l a b):l.Nodup:=by
 refine List.Pairwise.imp ?_ h.apart;intro p q hpq e;have:=A.aU p;omega
theorem rq (h:∀ i j,W.live i→W.live j→φ i=φ j→i=j):∀ (l:List (Int × Int)),(∀ e ∈ l,W.dj e)→∀ i,W.live i→eZ (l.map (bq φ)) (4*φ i+1)=(ed l i).map fun x=>4*φ x+1
 | [],_,_,_=>rfl
 | e :: l,hl,i,hi=>by
  have ih:=rq h l (fun e he=>hl e (by simp [he])) i hi;have he:=hl e (by simp);unfold eZ ed at *;simp only [List.map_cons,List.filter_cons];by_cases c:e.1=i
  ·have c':(bq φ e).1=4*φ i+1:=by simp [bq,c]
   rw [if_pos (by simpa using c'),if_pos (by simpa using c)];simp only [List.map_cons,ih];simp [bq]
  ·have c':¬ (bq φ e).1=4*φ i+1:=by
    intro h';simp only [bq] at h';exact c (h _ _ he.1 hi (by omega))
   rw [if_neg (by simpa using c'),if_neg (by simpa using c)];exact ih
theorem aL.fields (R:aL O W φ) {i:Int} (hi:W.live i):O.ar.fields (φ i)=(W.th i).fs.map (aD φ):=by
 unfold Ar.fields;rw [R.th i hi];apply List.ext_getElem
 ·simp
 ·intro k h1 h2;simp only [List.length_map,List.length_range] at h1 h2;simp only [List.getElem_map,List.getElem_range];exact R.fl i hi k _ (Le (by simpa using h2))
theorem aL.CJ (R:aL O W φ):zq W.gr O.gr W.live φ:=by
 refine ⟨R.inj,fun i hi=>?_,fun i hi v hv h3=>?_⟩
 ·unfold Wo.gr Wd.gr;dsimp only;rw [R.th i hi,R.fields hi];dsimp only;refine Prod.ext rfl ?_;dsimp only;rw [List.map_append,List.map_map];congr 1
  ·refine List.map_congr_left fun v hv=>?_;exact rp (R.hw.tv i hi v hv)
  ·by_cases hk:(W.th i).k=5
   ·rw [if_pos hk,if_pos hk,R.wt,rq R.inj W.wait R.hw.wv i hi,List.map_map,List.map_map];refine List.map_congr_left fun x hx=>?_;simp only [Function.comp];unfold dh eP;rw [if_pos (by omega),if_pos rfl]
    show ((3:Int),(4*φ x+1)/4)=(3,φ x)
    rw [show (4*φ x+1)/4=φ x by omega]
   ·rw [if_neg hk,if_neg hk];rfl
 ·unfold Wd.gr at hv;dsimp only at hv;rcases List.mem_append.1 hv with h1 | h1
  ·exact Wd.bh (R.hw.tv i hi v h1) h3
  ·split at h1
   ·obtain ⟨x,hx,rfl⟩:=List.mem_map.1 h1;unfold ed at hx;obtain ⟨e,he,rfl⟩:=List.mem_map.1 hx;exact (R.hw.wv e (List.mem_filter.1 he).1).2.2
   ·cases h1
theorem aL.view (R:aL O W φ):O.view=W.view:=by
 unfold Wo.view Wd.view;rw [R.rt,List.map_map];have:W.roots.map (dh ∘ aD φ)=W.roots.map (eP φ):=List.map_congr_left fun v hv=>rp (R.hw.rv v hv);rw [this];exact wF R.CJ (fun u hu h3=>Wd.bh (R.hw.rv u hu) h3)
def Wd.idx (W:Wd) (aP:Bool):List Int:=((List.range W.T.length).map (Int.ofNat ·)).filter fun i=>!(W.th i).dead && ((W.th i).aP == aP)
theorem Wd.c8 {W:Wd} {b:Bool} {i:Int}:i ∈ W.idx b↔W.live i∧(W.th i).aP=b:=by
 unfold Wd.idx Wd.live;simp only [List.mem_filter,List.mem_map,List.mem_range,Bool.and_eq_true,Bool.not_eq_true',beq_iff_eq];constructor
 ·rintro ⟨⟨n,hn,rfl⟩,h1,h2⟩;exact ⟨⟨Int.natCast_nonneg n,Int.ofNat_lt.2 hn,h1⟩,h2⟩
 ·rintro ⟨⟨h0,h1,h2⟩,h3⟩;have h4:i.toNat<W.T.length:=by omega
  have h5:((i.toNat:Nat):Int)=i:=by omega
  exact ⟨⟨i.toNat,h4,h5⟩,h2,h3⟩
theorem jh (n:Nat):((List.range n).map (Int.ofNat ·)).Nodup:=by
 rw [List.Nodup,List.pairwise_map];refine List.Pairwise.imp ?_ (List.nodup_range (n:=n));intro a b h e;exact h (Int.ofNat.inj e)
theorem Wd.rr (W:Wd) (b:Bool):(W.idx b).Nodup:=(jh _).filter _
theorem mi {l m:List Int} (h:l.Perm m):l.sum=m.sum:=by
 induction h with
 | nil=>rfl
 | cons x _ ih=>simp [ih]
 | swap x y l=>simp;omega
 | trans _ _ ih1 ih2=>exact ih1.trans ih2
theorem vt {l:List Int} (h:∀ x ∈ l,0≤x):0≤l.sum:=by
 induction l with
 | nil=>simp
 | cons a l ih=>simp only [List.sum_cons];have:=h a (by simp);have:=ih (fun x hx=>h x (by simp [hx]));omega
theorem n9 {f:Int→Int} (h0:∀ i,0≤f i):∀ {l m:List Int},l.Nodup→(∀ i ∈ l,i ∈ m)→(l.map f).sum≤(m.map f).sum
 | [],m,_,_=>by simpa using vt (l:=m.map f) (fun x hx=>by obtain ⟨i,_,rfl⟩:=List.mem_map.1 hx;exact h0 i)
 | a :: l,m,hn,hs=>by
  have ha:=hs a (by simp);have hp:m.Perm (a :: m.erase a):=List.perm_cons_erase ha;rw [mi (hp.map f)];simp only [List.map_cons,List.sum_cons];rw [List.nodup_cons] at hn;have:=n9 h0 (l:=l) (m:=m.erase a) hn.2 (fun i hi=>(List.mem_erase_of_ne (fun e=>hn.1 (by rw [←e];exact hi))).2 (hs i (by simp [hi])));omega
theorem ji {p:Int→Bool} {f:Int→Int}:∀ (l:List Int),((l.filter p).map f).sum=(l.map fun i=>if p i then f i else 0).sum
 | []=>rfl
 | a :: l=>by
  simp only [List.filter_cons,List.map_cons,List.sum_cons];cases h:p a
  ·simp [ji l]
  ·simp [ji l]
theorem vu (W:Wd) (p:Th→Bool):de W.T p=(((List.range W.T.length).map (Int.ofNat ·)).map fun i=>if p (W.th i) then (W.th i).words else 0).sum:=by
 unfold de;congr 1;apply List.ext_getElem
 ·simp
 ·intro k h1 h2;simp only [List.length_map] at h1;simp only [List.getElem_map,List.getElem_range];have e:W.th (Int.ofNat k)=W.T[k]:=by
   unfold Wd.th;rw [Ld,show (Int.ofNat k).toNat=k from rfl,Le h1];rfl
  rw [e]
theorem Wd.kh (W:Wd) (b:Bool):((W.idx b).map fun i=>(W.th i).words).sum=de W.T fun t=>!t.dead && (t.aP == b):=by
 rw [vu];unfold Wd.idx;rw [ji]
theorem ru {φ:Int→Int} {l:List Int} (h:l.Nodup) (inj:∀ i ∈ l, ∀ j ∈ l,φ i=φ j→i=j):(l.map φ).Nodup:=by
 rw [List.Nodup,List.pairwise_map];refine List.Pairwise.imp_of_mem ?_ h;intro a b ha hb hne e;exact hne (inj a ha b hb e)
theorem aL.A0 (R:aL O W φ):O.ar.aT.1.Perm ((W.idx false).map φ):=by
 rw [List.perm_ext_iff_of_nodup R.ty.nodup (ru (W.rr _) (fun i hi j hj e=>R.inj i j (Wd.c8.1 hi).1 (Wd.c8.1 hj).1 e))];intro p;constructor
 ·intro hp;obtain ⟨i,hi,rfl⟩:=R.onto p (.inl hp);have:=R.ty.pk hp (j:=0) (by omega) (R.ho.ha |> fun _=>(O.ar.aU (φ i)).1);rw [Int.add_zero] at this;exact List.mem_map.2 ⟨i,Wd.c8.2 ⟨hi,(R.bV hi).1 this⟩,rfl⟩
 ·intro hp;obtain ⟨i,hi,rfl⟩:=List.mem_map.1 hp;exact R.iny i (Wd.c8.1 hi).1 (Wd.c8.1 hi).2
theorem aL.pX (R:aL O W φ):O.ar.aT.2.Perm ((W.idx true).map φ):=by
 rw [List.perm_ext_iff_of_nodup R.tz.nodup (ru (W.rr _) (fun i hi j hj e=>R.inj i j (Wd.c8.1 hi).1 (Wd.c8.1 hj).1 e))];intro p;constructor
 ·intro hp;obtain ⟨i,hi,rfl⟩:=R.onto p (.inr hp);have:=R.tz.sD hp (j:=0) (by omega) (O.ar.aU (φ i)).1;rw [Int.add_zero] at this;exact List.mem_map.2 ⟨i,Wd.c8.2 ⟨hi,(R.c7 hi).1 this⟩,rfl⟩
 ·intro hp;obtain ⟨i,hi,rfl⟩:=List.mem_map.1 hp;exact R.ino i (Wd.c8.1 hi).1 (Wd.c8.1 hi).2
theorem aL.sy (R:aL O W φ):(O.ar.yng:Int)=W.aG:=by
 have h1:=R.ty.sum;rw [mi (R.A0.map _),List.map_map] at h1;have e:(W.idx false).map ((fun p=>1+(O.ar.aj p).2.1) ∘ φ)=(W.idx false).map fun i=>(W.th i).words:=
  List.map_congr_left fun i hi=>by simp only [Function.comp];rw [R.th i (Wd.c8.1 hi).1];rfl
 rw [e,Wd.kh] at h1;unfold Wd.aG;rw [h1];have:(fun t:Th=>!t.dead && (t.aP == false))=fun t:Th=>!t.dead && !t.aP:=by funext t;cases t.aP <;> rfl
 rw [this];omega
theorem aL.so (R:aL O W φ):(O.ar.grn:Int)-O.ar.nur=W.cH:=by
 have h1:=R.tz.sum;rw [mi (R.pX.map _),List.map_map] at h1;have e:(W.idx true).map ((fun p=>1+(O.ar.aj p).2.1) ∘ φ)=(W.idx true).map fun i=>(W.th i).words:=
  List.map_congr_left fun i hi=>by simp only [Function.comp];rw [R.th i (Wd.c8.1 hi).1];rfl
 rw [e,Wd.kh] at h1;unfold Wd.cH;rw [h1];have:(fun t:Th=>!t.dead && (t.aP == true))=fun t:Th=>!t.dead && t.aP:=by funext t;cases t.aP <;> rfl
 rw [this];omega
end
end
section
section
variable {O:Wo} {W:Wd} {φ ψ:Int→Int}
theorem Tile.aT {A:Ar} (h:A.ok) {Y Z:List Int} (hy:Tile A Y 0 A.yng) (hz:Tile A Z A.nur A.grn):A.aT=(Y,Z):=by
 have:=h.h1;have:=h.h2;have:=h.h3;have:=h.h4;unfold Ar.aT;rw [hy.list (by omega),hz.list (by omega)]
theorem dU {v:Vl} (h:v.1=3→ψ v.2=φ v.2):aD ψ v=aD φ v:=by
 unfold aD;by_cases h3:v.1=3
 ·rw [if_pos h3,if_pos h3,h h3]
 ·rw [if_neg h3,if_neg h3]
theorem pn (R:aL O W φ) {v:Vl} (hv:W.cI v):br (aD φ v):=by
 unfold br;rcases hv with h | h | h | h
 ·have e:aD φ v=2:=by simp [aD,h.1]
  rw [e];decide
 ·have e:aD φ v=4*v.2:=by simp [aD,h.1]
  have:=h.2;unfold cA at this;rw [e];omega
 ·have e:aD φ v=3:=by simp [aD,h.1]
  rw [e];decide
 ·rw [bI φ h.1];have:=R.place h.2;omega
theorem aL.new {n o:Int} (h:Ar.fits n o=true):aL (Wo.new n o) (Wd.new n o) id:=by
 have h':=h;simp [Ar.fits] at h';have no:∀ i,¬ (Wd.new n o).live i:=fun i hi=>by have:=hi.2.1;have:=hi.1;simp [Wd.new] at *;omega
 have hok:(Wo.new n o).ok:=by
  refine ⟨Ar.jJ h,by simp [Wo.new],fun x hx=>?_,fun e he=>by simp [Wo.new] at he,fun e he=>by simp [Wo.new] at he,by simp [Wo.new],?_⟩
  ·simp [Wo.new] at hx;subst hx;unfold br;omega
  ·simp [Wo.new,gj];omega
 have t1:Tile (Wo.new n o).ar [] 0 (Wo.new n o).ar.yng:=by simp [Wo.new,Ar.new,Tile]
 have t2:Tile (Wo.new n o).ar [] (Wo.new n o).ar.nur (Wo.new n o).ar.grn:=by simp [Wo.new,Ar.new,Tile]
 have ht:=Tile.aT hok.ha t1 t2;refine ⟨hok,Wd.jJ (by omega) (by omega) (by omega) (by omega),by rw [ht];exact t1,by rw [ht];exact t2,fun i j hi=>(no i hi).elim,fun p hp=>?_,fun i hi=>(no i hi).elim,fun i hi=>(no i hi).elim,fun i hi=>(no i hi).elim,fun i hi=>(no i hi).elim,?_,rfl,rfl,?_,?_,?_,fun i hi=>(no i hi).elim⟩
 ·rw [ht] at hp;simp at hp
 ·simp [Wo.new,Wd.new,aD]
 ·simp [Wo.new,Ar.new,Wd.new];omega
 ·simp [Wo.new,Ar.new,Wd.new];omega
 ·simp [Wo.new,Wd.new]
theorem aL.cB (R:aL O W φ) {v:Vl} (hv:W.cI v) (r:Int):aL { O with rt:=O.rt.set r.toNat (aD φ v) } (W.cB r v) φ:=by
 refine ⟨⟨R.ho.ha,by simpa using R.ho.h12,fun x hx=>?_,R.ho.hg,R.ho.hw,R.ho.hq,R.ho.hc⟩,R.hw.cB hv r,R.ty,R.tz,R.inj,R.onto,R.iny,R.ino,R.th,R.fl,?_,R.rg,R.wt,R.nur,R.len,R.cl,R.card⟩
 ·rcases List.mem_or_eq_of_mem_set hx with h1 | rfl
  ·exact R.ho.hR x h1
  ·exact pn R hv
 ·show O.rt.set r.toNat (aD φ v)=(W.roots.set r.toNat v).map (aD φ)
  rw [R.rt,List.map_set]
def kJ (n y:Int) (φ:Int→Int) (i:Int):Int:=if i=n then y else φ i
theorem cL {A B:Ar} {p:Int} (h:B.load p=A.load p):B.aj p=A.aj p:=by unfold Ar.aj;rw [h]
theorem aL.put (R:aL O W φ) {A':Ar} {k r:Int} {l:List Vl} (hA:A'.ok) (h1:A'.nur=O.ar.nur) (h2:A'.grn=O.ar.grn) (h3:A'.ws.length=O.ar.ws.length) (h4:(A'.yng:Int)=O.ar.yng+(1+l.length))
  (hq:∀ q,O.ar.aS q=true→A'.load q=O.ar.load q) (ht:A'.aj O.ar.yng=(k,(l.length:Int),0)) (hl:∀ (j:Nat) (v:Vl),l[j]? = some v→A'.load (O.ar.yng+1+j)=aD φ v)
  (hok:∀ v ∈ l,W.cI v) (hf:bs k l.length=true) :
  aL { O with ar:=A',rt:=O.rt.set r.toNat (4*O.ar.yng+1) } (W.put r k l) (kJ W.T.length O.ar.yng φ):=by
 have hroom:1+(l.length:Int)≤W.most-W.aG:=by
  have:=hA.h1;have:=R.sy;have:=R.nur;omega
 have aP:∀ {i},W.live i→¬ i=(W.T.length:Int):=fun hi e=>by have:=hi.2.1;omega
 have fe:∀ {i},W.live i→(kJ W.T.length O.ar.yng φ) i=φ i:=fun hi=>if_neg (aP hi);have fn:(kJ W.T.length O.ar.yng φ) (W.T.length:Int)=O.ar.yng:=if_pos rfl;have ee:∀ {v},W.cI v→aD (kJ W.T.length O.ar.yng φ) v=aD φ v:=fun hv=>dU (fun h3=>fe (Wd.bh hv h3));have thp:∀ p,O.ar.aS p=true→A'.aj p=O.ar.aj p:=fun p hp=>cL (hq p hp);have tho:∀ {i},W.live i→(W.put r k l).th i=W.th i:=fun hi=>Wd.lJ hi.1 hi.2.1;have useY:∀ p ∈ O.ar.aT.1,O.ar.aS p=true:=fun p hp=>by
  have:=R.ty.pk hp (j:=0) (by omega) (O.ar.aU p).1;rw [Int.add_zero] at this;unfold Ar.aS;rw [this];rfl
 have useO:∀ p ∈ O.ar.aT.2,O.ar.aS p=true:=fun p hp=>by
  have:=R.tz.sD hp (j:=0) (by omega) (O.ar.aU p).1;rw [Int.add_zero] at this;unfold Ar.aS;rw [this];simp
 have t1:Tile A' (O.ar.aT.1 ++ [(O.ar.yng:Int)]) 0 A'.yng:=by
  refine Tile.app (Tile.congr (fun p hp=>thp p (useY p hp)) R.ty) ⟨rfl,by rw [ht],?_⟩;rw [ht]
  show (O.ar.yng:Int)+1+l.length=A'.yng
  omega
 have t2:Tile A' O.ar.aT.2 A'.nur A'.grn:=by rw [h1,h2];exact Tile.congr (fun p hp=>thp p (useO p hp)) R.tz
 have hth:=Tile.aT hA t1 t2;have nl:(W.put r k l).live W.T.length:=by
  refine ⟨by omega,by simp [Wd.put];omega,?_⟩;rw [Wd.fh]
 have lt:∀ {i},W.live i→φ i≠O.ar.yng:=fun {i} hi e=>by
  have:=R.use hi (j:=0) (by omega) (by omega);rw [Int.add_zero] at this;unfold Ar.aS at this;have h1':=R.ho.ha.h1;have h5:=hA.h1;rw [h1] at h5;rw [Bool.or_eq_true,Go.Proofs.YtjifdalflepcoacGreat.bV,Go.Proofs.YtjifdalflepcoacGreat.c7] at this;omega
 refine ⟨⟨hA,by simpa using R.ho.h12,fun x hx=>?_,R.ho.hg,R.ho.hw,R.ho.hq,R.ho.hc⟩,R.hw.put hf hok hroom,by rw [hth];exact t1,by rw [hth];exact t2,fun i j hi hj e=>?_,fun p hp=>?_,fun i hi ho=>?_,fun i hi ho=>?_,fun i hi=>?_,fun i hi j v hv=>?_,?_,?_,?_,?_,?_,R.cl,fun i hi ho v hv h3' hy=>?_⟩
 ·rcases List.mem_or_eq_of_mem_set hx with h5 | rfl
  ·exact R.ho.hR x h5
  ·have:=R.ho.ha.h1;have:=R.ho.ha.h2;have:=R.ho.ha.h3;have:=R.ho.ha.h4;unfold br;omega
 ·rcases Wd.fV hi with hi | rfl <;> rcases Wd.fV hj with hj | rfl
  ·rw [fe hi,fe hj] at e;exact R.inj i j hi hj e
  ·rw [fe hi,fn] at e;exact (lt hi e).elim
  ·rw [fe hj,fn] at e;exact (lt hj e.symm).elim
  ·rfl
 ·rw [hth] at hp;dsimp only at hp;rw [List.mem_append,List.mem_singleton] at hp;rcases hp with (h5 | rfl) | h5
  ·obtain ⟨i,hi,rfl⟩:=R.onto p (.inl h5);exact ⟨i,Wd.kD hi,fe hi⟩
  ·exact ⟨_,nl,fn⟩
  ·obtain ⟨i,hi,rfl⟩:=R.onto p (.inr h5);exact ⟨i,Wd.kD hi,fe hi⟩
 ·rw [hth];rcases Wd.fV hi with hi | rfl
  ·rw [tho hi] at ho;rw [fe hi];exact List.mem_append_left _ (R.iny i hi ho)
  ·rw [fn];simp
 ·rw [hth];rcases Wd.fV hi with hi | rfl
  ·rw [tho hi] at ho;rw [fe hi];exact R.ino i hi ho
  ·rw [Wd.fh] at ho;cases ho
 ·rcases Wd.fV hi with hi | rfl
  ·have:=R.use hi (j:=0) (by omega) (by omega);rw [Int.add_zero] at this;rw [fe hi,tho hi];exact (thp _ this).trans (R.th i hi)
  ·rw [fn,Wd.fh];exact ht
 ·rcases Wd.fV hi with hi | rfl
  ·rw [tho hi] at hv;have hj:j<(W.th i).fs.length:=(List.getElem?_eq_some_iff.1 hv).1;have:=R.use hi (j:=1+j) (by omega) (by omega);rw [←Int.add_assoc] at this;rw [fe hi,ee (R.hw.tv i hi v (List.mem_of_getElem? hv))];exact (hq _ this).trans (R.fl i hi j v hv)
  ·rw [Wd.fh] at hv;rw [fn,ee (hok v (List.mem_of_getElem? hv))];exact hl j v hv
 ·show O.rt.set r.toNat (4*O.ar.yng+1)=(W.roots.set r.toNat (iF W.T.length)).map _
  rw [List.map_set,R.rt];congr 1
  ·exact List.map_congr_left fun v hv=>(ee (R.hw.rv v hv)).symm
  ·show _=aD _ (3,(W.T.length:Int))
   rw [bI _ rfl];dsimp only;rw [fn]
 ·show O.rg=W.av.map _
  rw [R.rg];exact List.map_congr_left fun e he=>by have:=R.hw.gv e he;unfold bq;rw [fe this.1,fe this.2.2]
 ·show O.wt=W.wait.map _
  rw [R.wt];exact List.map_congr_left fun e he=>by have:=R.hw.wv e he;unfold bq;rw [fe this.1,fe this.2.2]
 ·show (A'.nur:Int)=W.most;rw [h1];exact R.nur
 ·show (A'.ws.length:Int)=W.most+W.grow;rw [h3];exact R.len
 ·show db A'.nur O.cd _=true
  rcases Wd.fV hi with hi | rfl
  ·rw [tho hi] at ho hv;have hl3:=Wd.bh (R.hw.tv i hi v hv) h3';rw [tho hl3] at hy;rw [fe hi,h1];exact R.card i hi ho v hv h3' hy
  ·rw [Wd.fh] at ho;cases ho
theorem yr {l m:List Int} {i:Nat} {x:Int} (h:i+(x :: m).length≤l.length):(lay l i (x :: m)).getD i 0=x:=by
 rw [ju h,if_pos ⟨Nat.le_refl _,by simp⟩];simp
theorem Ar.vv {A:Ar} (hA:A.ok) {k f:Int} (h:bs k f=true∧1+f≤(A.nur:Int)-A.yng) :
  (∀ q,A.aS q=true→(A.make k f).2.load q=A.load q)∧(A.make k f).2.load A.yng=16*f+k∧(∀ j:Int,0≤j→j<f→(A.make k f).2.load (A.yng+1+j)=2)∧((A.make k f).2.yng:Int)=A.yng+(1+f) ∧
  (A.make k f).2.nur=A.nur∧(A.make k f).2.grn=A.grn∧(A.make k f).2.ws.length=A.ws.length:=by
 have hf:=bP h.1;have hl:=jR (k:=k) hf.2.2.1;have a1:=hA.h1;have a2:=hA.h2;have a3:=hA.h3;have hle:A.yng+(eX k f).length≤A.ws.length:=by rw [hl];omega
 rw [Ar.oS h];have hload:∀ q:Int,0≤q→q<A.yng+(1+f)→Ar.load { A with yng:=A.yng+(1+f).toNat,ws:=lay A.ws A.yng (eX k f) } q=(lay A.ws A.yng (eX k f)).getD q.toNat 0:=by
  intro q h0 h1;unfold Ar.load;rw [if_pos];unfold Ar.aS;rw [Bool.or_eq_true];left;rw [bV];refine ⟨h0,?_⟩
  show q<((A.yng+(1+f).toNat:Nat):Int)
  omega
 refine ⟨fun q hq=>?_,?_,fun j h0 h1=>?_,?_,rfl,rfl,?_⟩
 ·have hu:Ar.aS { A with yng:=A.yng+(1+f).toNat,ws:=lay A.ws A.yng (eX k f) } q=true:=by
   unfold Ar.aS at *;rw [Bool.or_eq_true] at *;rw [bV,c7] at *;dsimp only;omega
  unfold Ar.load;rw [hu,hq];simp only [if_true];rw [ju hle,if_neg];rw [hl];unfold Ar.aS at hq;rw [Bool.or_eq_true,bV,c7] at hq;omega
 ·rw [hload _ (by omega) (by omega)];unfold eX at *;rw [Int.toNat_natCast];exact yr hle
 ·rw [hload _ (by omega) (by omega),ju hle,if_pos (by rw [hl];omega)];unfold eX;rw [show ((A.yng:Int)+1+j).toNat-A.yng=j.toNat+1 by omega,List.getD_cons_succ];simp only [Ld];rw [List.getElem?_replicate,if_pos (by omega)];rfl
 ·dsimp only;omega
 ·dsimp only;exact dI hle
theorem wQ {k f:Int} (h:bs k f=true):eW (16*f+k)=(k,f,0):=by
 have hf:=bP h;unfold eW;rw [show (16*f+k)%16=k by omega,show (16*f+k)/16=f by omega,if_pos h]
theorem pY {base:Int} {l:List Bool} {p:Int}:db base l p=true↔base≤p∧(p-base)/8<l.length∧l.getD ((p-base)/8).toNat false=true:=by
 unfold db;rw [Bool.and_eq_true,decide_eq_true_eq];unfold cq;by_cases c:base≤p∧(p-base)/8<l.length
 ·rw [if_pos c];constructor
  ·rintro ⟨_,h⟩;exact ⟨c.1,c.2,h⟩
  ·rintro ⟨_,_,h⟩;exact ⟨by omega,h⟩
 ·rw [if_neg c];constructor
  ·rintro ⟨h,_⟩;omega
  ·rintro ⟨h1,h2,_⟩;exact absurd ⟨h1,h2⟩ c
theorem tR {base:Int} {l:List Bool} {p:Int} (q:Int) (h:db base l p=true):db base (gG base l q) p=true:=by
 rw [pY] at *;rw [gO];refine ⟨h.1,h.2.1,?_⟩;unfold gG;split
 ·rw [Ld,List.getElem?_set];split
  ·split
   ·rfl
   ·rename_i h1 h2;omega
  ·rw [←Ld];exact h.2.2
 ·exact h.2.2
theorem tS {base:Int} {l:List Bool} {p:Int} (h1:base≤p) (h2:(p-base)/8<l.length):db base (gG base l p) p=true:=by
 have hc:cq base l.length p=(p-base)/8:=by unfold cq;rw [if_pos ⟨h1,h2⟩]
 rw [pY,gO];refine ⟨h1,h2,?_⟩;unfold gG;rw [hc,if_pos (by omega),Ld,List.getElem?_set,if_pos rfl,if_pos (by omega)];rfl
theorem aL.a8 (R:aL O W φ) {v:Vl} (hv:W.cI v):O.ar.a8 (aD φ v)=if v.1=3 then (φ v.2,(W.th v.2).k,((W.th v.2).fs.length:Int),0) else (0,0,0,2):=by
 unfold Ar.a8;by_cases h3:v.1=3
 ·rw [if_pos h3];have e:=bI φ h3;have e4:aD φ v/4=φ v.2:=by rw [e];omega
  rw [e4,R.th _ (Wd.bh hv h3),if_pos ⟨(fG hv).2 h3,rfl⟩]
 ·rw [if_neg h3,if_neg (fun h=>h3 ((fG hv).1 h.1))]
theorem aL.get (R:aL O W φ) {v:Vl} (hv:W.cI v) (i:Int):O.ar.get (aD φ v) i =
  if v.1≠3∨(W.th v.2).k=5 then (0,2) else if i<0∨((W.th v.2).fs.length:Int)≤i then (0,1) else (aD φ ((W.th v.2).fs.getD i.toNat (0,0)),0):=by
 unfold Ar.get;rw [R.a8 hv];by_cases h3:v.1=3
 ·rw [if_pos h3];dsimp only;by_cases hk:(W.th v.2).k=5
  ·rw [if_pos (.inr hk),if_pos (.inr hk)]
  ·have c0:¬ ((0:Int)≠0∨(W.th v.2).k=5):=fun h=>by rcases h with h | h;exact h rfl;exact hk h
   have c1:¬ (v.1≠3∨(W.th v.2).k=5):=fun h=>by rcases h with h | h;exact h h3;exact hk h
   rw [if_neg c0,if_neg c1];by_cases hi:i<0∨((W.th v.2).fs.length:Int)≤i
   ·rw [if_pos hi,if_pos hi]
   ·rw [if_neg hi,if_neg hi];have hlt:i.toNat<(W.th v.2).fs.length:=by omega
    have:=R.fl v.2 (Wd.bh hv h3) i.toNat _ (Le hlt);rw [show ((i.toNat:Nat):Int)=i by omega] at this;have e4:aD φ v/4=φ v.2:=by rw [bI φ h3];omega
    rw [e4,this,Ld,Le hlt];rfl
 ·rw [if_neg h3,if_pos (.inl (by decide)),if_pos (.inl h3)]
theorem aL.dw (R:aL O W φ) {a i:Int} {u:Vl} (ha:W.live a) (h0:0≤i) (h1:i<(W.th a).fs.length) (hu:W.cI u) {cd:List Bool}
  (hc1:cd.length=O.cd.length) (hc2:∀ p,db O.ar.nur O.cd p=true→db O.ar.nur cd p=true) (hc3:u.1=3→(W.th u.2).aP=false→(W.th a).aP=true→db O.ar.nur cd (φ a)=true) :
  aL { O with ar:=O.ar.store (φ a+1+i) (aD φ u),cd:=cd } (W.dw a ((W.th a).fs.set i.toNat u)) φ:=by
 have hlv:=fun j=>Wd.iS (fs:=(W.th a).fs.set i.toNat u) ha j;have hth:∀ {j},W.live j→(W.dw a ((W.th a).fs.set i.toNat u)).th j=if j=a then { W.th a with fs:=(W.th a).fs.set i.toNat u } else W.th j:=fun hj=>Wd.kg hj.1 ha;have hold:∀ {j},W.live j→((W.dw a ((W.th a).fs.set i.toNat u)).th j).aP=(W.th j).aP:=fun hj=>by
  rw [hth hj];split
  ·rename_i e;subst e;rfl
  ·rfl
 have huse:O.ar.aS (φ a+1+i)=true:=by rw [Int.add_assoc];exact R.use ha (by omega) (by omega)
 have hload:=fun q=>Ar.eF R.ho.ha (φ a+1+i) q (aD φ u);have hst:∀ j,W.live j→(O.ar.store (φ a+1+i) (aD φ u)).aj (φ j)=O.ar.aj (φ j):=fun j hj=>by
  refine cL ?_;rw [hload,if_neg];rintro ⟨e,_⟩;by_cases ej:j=a
  ·subst ej;omega
  ·have:=R.apart hj ha ej;omega
 have hok:(O.ar.store (φ a+1+i) (aD φ u)).ok:=R.ho.ha.store _ _ (pn R hu);have tp:∀ p,p ∈ O.ar.aT.1∨p ∈ O.ar.aT.2→(O.ar.store (φ a+1+i) (aD φ u)).aj p=O.ar.aj p:=fun p hp=>by
  obtain ⟨j,hj,rfl⟩:=R.onto p hp;exact hst j hj
 have t1:Tile (O.ar.store (φ a+1+i) (aD φ u)) O.ar.aT.1 0 (O.ar.store (φ a+1+i) (aD φ u)).yng:=by
  rw [Ar.fg];exact Tile.congr (fun p hp=>tp p (.inl hp)) R.ty
 have t2:Tile (O.ar.store (φ a+1+i) (aD φ u)) O.ar.aT.2 (O.ar.store (φ a+1+i) (aD φ u)).nur (O.ar.store (φ a+1+i) (aD φ u)).grn:=by
  rw [Ar.cU,Ar.dA];exact Tile.congr (fun p hp=>tp p (.inr hp)) R.tz
 have hthi:=Tile.aT hok t1 t2;refine ⟨⟨hok,R.ho.h12,R.ho.hR,R.ho.hg,R.ho.hw,R.ho.hq,by show cd.length≤1000;rw [hc1];exact R.ho.hc⟩,R.hw.dw ha (by simp) (fun v hv=>?_),by rw [hthi];exact t1,by rw [hthi];exact t2,
  fun j k hj hk e=>R.inj j k ((hlv j).1 hj) ((hlv k).1 hk) e,fun p hp=>?_,fun j hj ho=>?_,fun j hj ho=>?_,fun j hj=>?_,fun j hj n v hv=>?_,R.rt,R.rg,R.wt,?_,?_,by show cd.length=_;rw [hc1];exact R.cl,fun j hj ho v hv h3 hy=>?_⟩
 ·rcases List.mem_or_eq_of_mem_set hv with h5 | rfl
  ·exact R.hw.tv a ha v h5
  ·exact hu
 ·rw [hthi] at hp;obtain ⟨j,hj,e⟩:=R.onto p hp;exact ⟨j,(hlv j).2 hj,e⟩
 ·rw [hthi];have hj':=(hlv j).1 hj;rw [hold hj'] at ho;exact R.iny j hj' ho
 ·rw [hthi];have hj':=(hlv j).1 hj;rw [hold hj'] at ho;exact R.ino j hj' ho
 ·have hj':=(hlv j).1 hj
  show (O.ar.store _ _).aj (φ j)=_
  rw [hst j hj',R.th j hj',hth hj'];split
  ·rename_i e;subst e;simp
  ·rfl
 ·have hj':=(hlv j).1 hj;rw [hth hj'] at hv
  show (O.ar.store _ _).load _=_
  rw [hload];by_cases e:j=a
  ·subst e;rw [if_pos rfl] at hv;dsimp only at hv;rw [List.getElem?_set] at hv;by_cases en:i.toNat=n
   ·rw [if_pos en] at hv;subst en;rw [if_pos (by omega)] at hv;cases hv;rw [if_pos ⟨by omega,huse⟩]
   ·rw [if_neg en] at hv;rw [if_neg (fun h=>by omega)];exact R.fl j hj' n v hv
  ·rw [if_neg e] at hv;have hn:n<(W.th j).fs.length:=(List.getElem?_eq_some_iff.1 hv).1;have:=R.apart hj' ha e;rw [if_neg (fun h=>by omega)];exact R.fl j hj' n v hv
 ·show ((O.ar.store _ _).nur:Int)=W.most;rw [Ar.cU];exact R.nur
 ·show ((O.ar.store _ _).ws.length:Int)=W.most+W.grow;rw [Ar.kU];exact R.len
 ·show db (O.ar.store _ _).nur cd (φ j)=true
  rw [Ar.cU];have hj':=(hlv j).1 hj;rw [hold hj'] at ho;have inF:∀ w ∈ (W.th j).fs,w=v→db O.ar.nur cd (φ j)=true:=fun w hw e=>by
   subst e;have hl3:=Wd.bh (R.hw.tv j hj' w hw) h3;rw [hold hl3] at hy;exact hc2 _ (R.card j hj' ho w hw h3 hy)
  rw [hth hj'] at hv;by_cases e:j=a
  ·subst e;rw [if_pos rfl] at hv;rcases List.mem_or_eq_of_mem_set hv with h5 | rfl
   ·exact inF v h5 rfl
   ·rw [hold (Wd.bh hu h3)] at hy;exact hc3 h3 hy ho
  ·rw [if_neg e] at hv;exact inF v hv rfl
theorem aL.set (R:aL O W φ) {v u:Vl} (hv:W.cI v) (hu:W.cI u) (i:Int) :
  (O.set (aD φ v) i (aD φ u)).1=(if v.1≠3∨(W.th v.2).k=5 then 2 else if i<0∨((W.th v.2).fs.length:Int)≤i then 1 else 0) ∧
  ((O.set (aD φ v) i (aD φ u)).1≠0→(O.set (aD φ v) i (aD φ u)).2=O) ∧
  ((O.set (aD φ v) i (aD φ u)).1=0→aL (O.set (aD φ v) i (aD φ u)).2 (W.dw v.2 ((W.th v.2).fs.set i.toNat u)) φ):=by
 have hg:=R.get hv i;by_cases hc:(O.ar.get (aD φ v) i).2=0
 ·rw [Wo.yd hc];rw [hg] at hc;by_cases c1:v.1≠3∨(W.th v.2).k=5
  ·rw [if_pos c1] at hc;cases hc
  ·rw [if_neg c1] at hc ⊢;by_cases c2:i<0∨((W.th v.2).fs.length:Int)≤i
   ·rw [if_pos c2] at hc;cases hc
   ·rw [if_neg c2];refine ⟨rfl,fun h=>(h rfl).elim,fun _=>?_⟩;have h3:v.1=3:=Decidable.byContradiction fun h=>c1 (.inl h);have ha:=Wd.bh hv h3;have e4:aD φ v/4=φ v.2:=by rw [bI φ h3];omega
    dsimp only;rw [e4];have hst:∀ p q x,(O.ar.store q x).aG p=O.ar.aG p∧(O.ar.store q x).aP p=O.ar.aP p:=fun p q x=>by
     unfold Ar.aG Ar.aP;rw [Ar.fg,Ar.cU,Ar.dA];exact ⟨rfl,rfl⟩
    refine R.dw ha (by omega) (by omega) hu ?_ (fun p hp=>?_) (fun hu3 huo hao=>?_)
    ·split
     ·exact gO _ _ _
     ·rfl
    ·split
     ·exact tR _ hp
     ·exact hp
    ·have hul:=Wd.bh hu hu3;have e5:aD φ u/4=φ u.2:=by rw [bI φ hu3];omega
     rw [if_pos ⟨(fG hu).2 hu3,by rw [(hst _ _ _).1,e5];exact (R.bV hul).2 huo,by rw [(hst _ _ _).2];exact (R.c7 ha).2 hao⟩];have hp:=(R.c7 ha).2 hao;rw [Go.Proofs.YtjifdalflepcoacGreat.c7] at hp;have hl:=R.len;have hn:=R.nur;have hcl:=R.cl;have h3':=R.ho.ha.h3;have hg1:=R.hw.g1;refine tS hp.1 ?_;rw [hcl];unfold gj;omega
 ·rw [Wo.zO hc];rw [hg] at hc ⊢;by_cases c1:v.1≠3∨(W.th v.2).k=5
  ·rw [if_pos c1,if_pos c1];exact ⟨rfl,fun _=>rfl,fun h=>by cases h⟩
  ·rw [if_neg c1] at hc ⊢;rw [if_neg c1];by_cases c2:i<0∨((W.th v.2).fs.length:Int)≤i
   ·rw [if_pos c2,if_pos c2];exact ⟨rfl,fun _=>rfl,fun h=>by cases h⟩
   ·rw [if_neg c2] at hc;exact (hc rfl).elim
theorem aL.ic (R:aL O W φ) {e:Int × Int} (he:W.dj e) (hr:W.av.length+W.wait.length<24):aL { O with rg:=O.rg ++ [bq φ e] } { W with av:=W.av ++ [e] } φ:=by
 have hle:=R.place he.1;have hle2:=R.place he.2.2;refine ⟨⟨R.ho.ha,R.ho.h12,R.ho.hR,fun x hx=>?_,R.ho.hw,?_,R.ho.hc⟩,?_,R.ty,R.tz,R.inj,R.onto,R.iny,R.ino,R.th,R.fl,R.rt,?_,R.wt,R.nur,R.len,R.cl,R.card⟩
 ·rcases List.mem_append.1 hx with h1 | h1
  ·exact R.ho.hg x h1
  ·rw [List.mem_singleton.1 h1];unfold bq qK br;dsimp only;omega
 ·have h1:O.rg.length=W.av.length:=by rw [R.rg];simp
  have h2:O.wt.length=W.wait.length:=by rw [R.wt];simp
  simp;omega
 ·have h:=R.hw;refine ⟨h.hr,h.rv,h.tk,h.tv,fun x hx=>?_,h.wv,by simp;omega,h.m1,h.m2,h.g1,h.g2,h.uy,h.uo⟩;rcases List.mem_append.1 hx with h1 | h1
  ·exact h.gv x h1
  ·rw [List.mem_singleton.1 h1];exact he
 ·show O.rg ++ [bq φ e]=(W.av ++ [e]).map (bq φ)
  rw [R.rg];simp
end
end
section
def gP (x:Int):Int:=IntKind.i64.wrap (4*x+1)
def a9 (A:Ar) (x:Int):Bool:=!(decide (x%4=1) && A.aG (x/4)) || decide (A.load (x/4)<0)
def cR (A:Ar) (x:Int):Int:=if x%4=1∧A.aG (x/4)=true∧A.load (x/4)<0 then gP (-1-A.load (x/4)) else x
def bF (A:Ar) (x:Int):Ar:=if a9 A x=true then A else (A.copy (x/4)).2.store (x/4) (-1-(A.copy (x/4)).1)
def fm (A:Ar) (i:Int):Ar:=(bF A (A.load i)).store i (cR (bF A (A.load i)) (A.load i))
def mFields:Nat→Ar→Int→Ar
 | 0,A,_=>A
 | n+1,A,i=>mFields n (fm A i) (i+1)
structure Ms where
 A:Ar
 wk:List Int
 ep:List Int
def dV (s:Ms) (i:Int):Ms:=
 if (s.A.aj i).1=1∨(s.A.aj i).1=2 then { s with A:=mFields (s.A.aj i).2.1.toNat s.A (i+1) }
 else if (s.A.aj i).1=3 then ⟨fm s.A (i+2),s.wk ++ [i],s.ep⟩
 else if (s.A.aj i).1=4 then { s with ep:=s.ep ++ [i] }
 else s
def mScan:Nat→Ms→Int→Ms × Int
 | 0,s,c=>(s,c)
 | n+1,s,c=>if c<s.A.grn then mScan n (dV s c) (c+(1+(s.A.aj c).2.1)) else (s,c)
def jE (A:Ar) (i:Int):Ar:=if a9 A (A.load (i+1))=true then fm (fm A (i+1)) (i+2) else A
def fX (A:Ar) (l:List Int):Ar:=l.foldl jE A
def iW (A:Ar) (x:Int):Ar × Int:=(bF A x,cR (bF A x) x)
structure Md where
 s:Ms
 c:Int
 q:List (Int × Int)
def bG (d:Md):Md:=
 let r:=mScan 2000 d.s d.c
 let w:=wakeM a9 iW (fX r.1.A r.1.ep) d.q
 ⟨{ r.1 with A:=w.1 },r.2,w.2.1⟩
def mDrain:Nat→Md→Md
 | 0,d=>d
 | n+1,d=>if (bG d).c<(bG d).s.A.grn then mDrain n (bG d) else bG d
abbrev Mt:=Ms × Int
def bS (t:Mt) (x:Int):Bool:=a9 t.1.A x
def eO (t:Mt) (x:Int):Int:=cR t.1.A x
def gu (t:Mt) (q:List (Int × Int)) (x:Int):Mt × List (Int × Int) × Int:=
 let d:=mDrain 2000 ⟨{ t.1 with A:=bF t.1.A x },t.2,q⟩
 ((d.s,d.c),d.q,cR (bF t.1.A x) x)
def gC (A:Ar) (i:Int) (dead:Bool):Ar:=A.store i (if dead then 3 else cR A (A.load i))
def fq (A:Ar) (l:List Int):Ar:=l.foldl (fun A i=>gC A (i+1) (!a9 A (A.load (i+1)))) A
def cW (A:Ar) (i:Int):Ar:=gC (gC A (i+1) (!a9 A (A.load (i+1)))) (i+2) (!a9 A (A.load (i+1)))
def jF (s:Ms):Ar:=s.ep.foldl cW (fq s.A s.wk)
def mRoots (A:Ar):List Int→Ar × List Int
 | []=>(A,[])
 | x :: l=>((mRoots (bF A x) l).1,cR (bF A x) x :: (mRoots (bF A x) l).2)
def ef (base:Int) (cd:List Bool) (s:Ms) (l:List Int):Ms:=l.foldl (fun s i=>if db base cd i=true then dV s i else s) s
def ig (O:Wo):Md:=
 mDrain 2000 ⟨ef O.ar.nur O.cd ⟨(mRoots O.ar O.rt).1,[],[]⟩ O.ar.aT.2,O.ar.grn,O.wt⟩
def bL (O:Wo):Mt × List (Int × Int) × List It:=fJ bS gu ((ig O).s,(ig O).c) O.rg (ig O).q
def gQ (O:Wo):Int × Wo:=
 if (O.ar.yng:Int) > (O.ar.ws.length:Int)-O.ar.grn then (3,O)
 else (0,⟨(jF (bL O).1.1).clear,O.cd.map fun _=>false,(mRoots O.ar O.rt).2,
  bz bS eO (bL O).1 (bL O).2.2,bC bS eO (bL O).1 (bL O).2.1⟩)
structure Sm (A B:Ar):Prop where
 ok:B.ok
 nur:B.nur=A.nur
 yng:B.yng=A.yng
 len:B.ws.length=A.ws.length
 grn:A.grn≤B.grn
theorem Sm.refl {A:Ar} (h:A.ok):Sm A A:=⟨h,rfl,rfl,rfl,Nat.le_refl _⟩
theorem Sm.trans {A B C:Ar} (h:Sm A B) (k:Sm B C):Sm A C:=⟨k.ok,k.nur.trans h.nur,k.yng.trans h.yng,k.len.trans h.len,Nat.le_trans h.grn k.grn⟩
theorem Sm.store {A:Ar} (h:A.ok) (i:Int) {x:Int} (hx:br x):Sm A (A.store i x):=⟨h.store i x hx,A.cU i x,A.fg i x,A.kU i x,by rw [A.dA];exact Nat.le_refl _⟩
theorem Sm.copy {A:Ar} (h:A.ok) (i:Int):Sm A (A.copy i).2:=by
 refine ⟨h.copy i,?_,?_,?_,?_⟩
 all_goals unfold Ar.copy;dsimp only;split
 all_goals first | rfl | exact Nat.le_add_right _ _ | exact Nat.le_refl _ | skip
 rename_i hc;have hf:=A.aU i;have hs:=Ar.jX h hf.1 hc.2.1;have:=h.h1;have:=h.h2;have:=h.h3;exact dI (by simp;omega)
theorem Ar.pZ {A:Ar} (h:A.ok) (i:Int):-1≤(A.copy i).1∧(A.copy i).1≤1280:=by
 have:=h.h3;have:=h.h4;unfold Ar.copy;dsimp only;split
 ·dsimp only;omega
 ·dsimp only;omega
theorem yt (x:Int):br (IntKind.i64.wrap x):=by
 unfold br;rw [IntKind.wrap_i64];omega
theorem Sm.iC {A:Ar} (h:A.ok) (x:Int):Sm A (bF A x):=by
 unfold bF;split
 ·exact Sm.refl h
 ·have:=Ar.pZ h (x/4);exact (Sm.copy h _).trans (Sm.store (h.copy _) _ (by unfold br;omega))
theorem gR {A:Ar} {x:Int} (hx:br x):br (cR A x):=by
 unfold cR;split
 ·exact yt _
 ·exact hx
theorem Sm.field {A:Ar} (h:A.ok) (i:Int):Sm A (fm A i):=
 (Sm.iC h _).trans (Sm.store (Sm.iC h _).ok _ (gR (h.load i)))
theorem Sm.fields {A:Ar} (h:A.ok):∀ (n:Nat) (i:Int),Sm A (mFields n A i):=by
 intro n
 induction n generalizing A with
 | zero=>intro i;exact Sm.refl h
 | succ n ih=>intro i;exact (Sm.field h i).trans (ih (Sm.field h i).ok (i+1))
theorem Sm.look {s:Ms} (h:s.A.ok) (i:Int):Sm s.A (dV s i).A:=by
 unfold dV;split
 ·exact Sm.fields h _ _
 ·split
  ·exact Sm.field h _
  ·split <;> exact Sm.refl h
theorem Sm.scan:∀ (n:Nat) (s:Ms) (c:Int),s.A.ok→Sm s.A (mScan n s c).1.A
 | 0,s,c,h=>Sm.refl h
 | n+1,s,c,h=>by
  unfold mScan;split
  ·exact (Sm.look h c).trans (Sm.scan n _ _ (Sm.look h c).ok)
  ·exact Sm.refl h
theorem Sm.sF {A:Ar} (h:A.ok) (i:Int):Sm A (jE A i):=by
 unfold jE;split
 ·exact (Sm.field h _).trans (Sm.field (Sm.field h _).ok _)
 ·exact Sm.refl h
theorem Sm.p8:∀ (l:List Int) {A:Ar} (h:A.ok),Sm A (fX A l)
 | [],A,h=>Sm.refl h
 | i :: l,A,h=>(Sm.sF h i).trans (Sm.p8 l (Sm.sF h i).ok)
theorem Sm.eL:∀ (l:List (Int × Int)) {A:Ar} (h:A.ok),Sm A (wakeM a9 iW A l).1
 | [],A,h=>Sm.refl h
 | e :: l,A,h=>by
  unfold wakeM;split
  ·exact (Sm.iC h e.2).trans (Sm.eL l (Sm.iC h e.2).ok)
  ·exact Sm.eL l h
theorem Sm.round (d:Md) (h:d.s.A.ok):Sm d.s.A (bG d).s.A:=by
 have h1:=Sm.scan 2000 d.s d.c h;have h2:=Sm.p8 (mScan 2000 d.s d.c).1.ep h1.ok;exact (h1.trans h2).trans (Sm.eL d.q h2.ok)
theorem Sm.fix {A:Ar} (h:A.ok) (i:Int) (b:Bool):Sm A (gC A i b):=by
 refine Sm.store h i ?_;split
 ·unfold br;omega
 ·exact gR (h.load i)
theorem lg {τ:Type} (alive:τ→Int→Bool) (kp:τ→Int→τ × Int):∀ (l:List (Int × Int)) (t:τ),(wakeM alive kp t l).2.1.length=l.length
 | [],_=>rfl
 | e :: l,t=>by
  unfold wakeM;split
  ·simp [lg alive kp l]
  ·simp [lg alive kp l]
theorem mn:∀ (n:Nat) (d:Md),(mDrain n d).q.length=d.q.length
 | 0,d=>rfl
 | n+1,d=>by
  have h:(bG d).q.length=d.q.length:=lg _ _ _ _;unfold mDrain;split
  ·rw [mn n,h]
  ·exact h
end
section
def kK (φ ψ:Int→Int) (S:Int→Prop) (x:Int) (v:Vl):Prop:=x=aD φ v∨((v.1=3→S v.2)∧x=aD ψ v)
structure Cu (O:Wo) (W:Wd) (φ:Int→Int) (A:Ar) (S:Int→Prop) (ψ:Int→Int) (N:List Int):Prop where
 sm:Sm O.ar A
 sl:∀ i,S i→W.live i
 so:∀ i,W.live i→(W.th i).aP=true→S i
 po:∀ i,W.live i→(W.th i).aP=true→ψ i=φ i
 nd:N.Nodup
 nm:∀ i,i ∈ N↔S i∧(W.th i).aP=false
 iJ:Tile A (N.map ψ) O.ar.grn A.grn
 th:∀ i,S i→A.aj (ψ i)=((W.th i).k,((W.th i).fs.length:Int),0)
 yet:∀ i,W.live i→(W.th i).aP=false→¬ S i→∀ j:Int,0≤j→j≤(W.th i).fs.length→A.load (φ i+j)=O.ar.load (φ i+j)
 fwd:∀ i ∈ N,A.load (φ i)=-1-ψ i
 fd:∀ i,S i→∀ (j:Nat) (v:Vl),(W.th i).fs[j]? = some v→kK φ ψ S (A.load (ψ i+1+j)) v
section
variable {O:Wo} {W:Wd} {φ ψ ψ':Int→Int} {A A':Ar} {S S':Int→Prop} {N N':List Int}
def Up (W:Wd) (A:Ar) (S:Int→Prop) (ψ:Int→Int) (i:Int) (j:Nat) (v:Vl):Prop:=(v.1=3→S v.2)∧A.load (ψ i+1+j)=aD ψ v
structure Ext (W:Wd) (A:Ar) (S:Int→Prop) (ψ:Int→Int) (N:List Int) (A':Ar) (S':Int→Prop) (ψ':Int→Int) (N':List Int):Prop where
 sub:∀ i,S i→S' i
 at_:∀ i,S i→ψ' i=ψ i
 pre:∃ m,N'=N ++ m
 up:∀ i,S i→∀ (j:Nat) (v:Vl),(W.th i).fs[j]? = some v→Up W A S ψ i j v→Up W A' S' ψ' i j v
 grn:A.grn≤A'.grn
theorem Ext.refl:Ext W A S ψ N A S ψ N:=⟨fun _ h=>h,fun _ _=>rfl,⟨[],by simp⟩,fun _ _ _ _ _ h=>h,Nat.le_refl _⟩
theorem Ext.trans {A2:Ar} {S2:Int→Prop} {ψ2:Int→Int} {N2:List Int} (h:Ext W A S ψ N A' S' ψ' N') (k:Ext W A' S' ψ' N' A2 S2 ψ2 N2):Ext W A S ψ N A2 S2 ψ2 N2:=by
 obtain ⟨m,e⟩:=h.pre;obtain ⟨m',e'⟩:=k.pre;exact ⟨fun i hi=>k.sub i (h.sub i hi),fun i hi=>(k.at_ i (h.sub i hi)).trans (h.at_ i hi),⟨m ++ m',by rw [e',e];simp⟩,fun i hi j v hv hu=>k.up i (h.sub i hi) j v hv (h.up i hi j v hv hu),Nat.le_trans h.grn k.grn⟩
theorem Ext.A6 (h:Ext W A S ψ N A' S' ψ' N') {x:Int} {v:Vl} (hw:kK φ ψ S x v):kK φ ψ' S' x v:=by
 rcases hw with h1 | ⟨h1,h2⟩
 ·exact .inl h1
 ·exact .inr ⟨fun h3=>h.sub _ (h1 h3),by rw [h2];exact (dU (fun h3=>h.at_ _ (h1 h3))).symm⟩
theorem kL {f:Int→Int}:∀ {l:List Int},(l.map f).Nodup→∀ {a b:Int},a ∈ l→b ∈ l→f a=f b→a=b
 | x :: l,h,a,b,ha,hb,e=>by
  simp only [List.map_cons,List.nodup_cons] at h;rcases List.mem_cons.1 ha with ea | ha'
  ·rcases List.mem_cons.1 hb with eb | hb'
   ·rw [ea,eb]
   ·rw [ea] at e;exact (h.1 (List.mem_map.2 ⟨b,hb',e.symm⟩)).elim
  ·rcases List.mem_cons.1 hb with eb | hb'
   ·rw [eb] at e;exact (h.1 (List.mem_map.2 ⟨a,ha',e⟩)).elim
   ·exact kL h.2 ha' hb' e
theorem Cu.sG (C:Cu O W φ A S ψ N) {i:Int} (hi:S i) (hn:¬ i ∈ N):(W.th i).aP=true:=by
 cases h:(W.th i).aP
 ·exact (hn ((C.nm i).2 ⟨hi,h⟩)).elim
 ·rfl
theorem Cu.place (R:aL O W φ) (C:Cu O W φ A S ψ N) {i:Int} (hi:S i) :
  (A.nur:Int)≤ψ i∧ψ i+1+(W.th i).fs.length≤A.grn∧(i ∈ N→(O.ar.grn:Int)≤ψ i)∧(¬ i ∈ N→ψ i+1+(W.th i).fs.length≤O.ar.grn):=by
 have hg:=C.sm.grn;have hn:=C.sm.nur;have h2:=R.ho.ha.h2;by_cases h:i ∈ N
 ·have:=C.iJ.mem (ψ i) (List.mem_map.2 ⟨i,h,rfl⟩);rw [C.th i hi] at this;dsimp only at this;exact ⟨by omega,by omega,fun _=>by omega,fun h'=>(h' h).elim⟩
 ·have ho:=C.sG hi h;have hl:=C.sl i hi;have:=R.tz.mem _ (R.ino i hl ho);rw [R.th i hl] at this;dsimp only at this;rw [C.po i hl ho];exact ⟨by omega,by omega,fun h'=>(h h').elim,fun _=>by omega⟩
theorem Cu.uI (R:aL O W φ) (C:Cu O W φ A S ψ N) {i:Int} (hi:S i) {j:Int} (h0:0≤j) (h1:j≤(W.th i).fs.length):A.aP (ψ i+j)=true:=by
 have:=C.place R hi;rw [c7];omega
theorem Cu.rh (R:aL O W φ) (C:Cu O W φ A S ψ N) {i:Int} (hi:S i) {j:Int} (h0:0≤j) (h1:j≤(W.th i).fs.length):A.aS (ψ i+j)=true:=by
 unfold Ar.aS;rw [C.uI R hi h0 h1];simp
theorem Cu.apart (R:aL O W φ) (C:Cu O W φ A S ψ N) {i j:Int} (hi:S i) (hj:S j) (h:i≠j):ψ i+1+(W.th i).fs.length≤ψ j∨ψ j+1+(W.th j).fs.length≤ψ i:=by
 have pi:=C.place R hi;have pj:=C.place R hj;have ti:=C.th i hi;have tj:=C.th j hj;by_cases ni:i ∈ N <;> by_cases nj:j ∈ N
 ·have:=kI (f:=fun p=>(A.aj p).2.1) C.iJ.apart (List.mem_map.2 ⟨i,ni,rfl⟩) (List.mem_map.2 ⟨j,nj,rfl⟩);rw [ti,tj] at this;dsimp only at this;rcases this with e | e | e
  ·exact (h (kL C.iJ.nodup ni nj e)).elim
  ·exact .inl e
  ·exact .inr e
 ·have:=pi.2.2.1 ni;have:=pj.2.2.2 nj;omega
 ·have:=pi.2.2.2 ni;have:=pj.2.2.1 nj;omega
 ·have oi:=C.sG hi ni;have oj:=C.sG hj nj;have li:=C.sl i hi;have lj:=C.sl j hj;rw [C.po i li oi,C.po j lj oj];exact R.apart li lj h
theorem Cu.inj (R:aL O W φ) (C:Cu O W φ A S ψ N) {i j:Int} (hi:S i) (hj:S j) (e:ψ i=ψ j):i=j:=by
 by_cases h:i=j
 ·exact h
 ·have:=C.apart R hi hj h;omega
theorem g7 {A B:Ar} {p q:Int} (h:B.load p=A.load q):B.aj p=A.aj q:=by unfold Ar.aj;rw [h]
theorem wR {A:Ar} {p:Int} (h:(A.aj p).2.2=0):0<A.load p:=by
 unfold Ar.aj eW at h;split at h
 ·rename_i hf;have:=bP hf;omega
 ·simp at h
theorem Cu.p9 (R:aL O W φ) (C:Cu O W φ A S ψ N) {i:Int} (hl:W.live i) (ho:(W.th i).aP=false) (hs:¬ S i):A.load (φ i)=O.ar.load (φ i)∧0<A.load (φ i):=by
 have:=C.yet i hl ho hs 0 (by omega) (by omega);rw [Int.add_zero] at this;have h2:=R.th i hl;exact ⟨this,by rw [this];exact wR (by rw [h2])⟩
theorem Cu.iX (R:aL O W φ) (C:Cu O W φ A S ψ N) {i:Int} (hl:W.live i):A.aG (φ i)=true↔(W.th i).aP=false:=by
 have:A.aG (φ i)=O.ar.aG (φ i):=by unfold Ar.aG;rw [C.sm.yng]
 rw [this];exact R.bV hl
theorem Cu.ry (R:aL O W φ) (C:Cu O W φ A S ψ N) {i:Int} (hi:S i):A.aG (ψ i)=false:=by
 have:=C.place R hi;have h1:=C.sm.ok.h1;cases h:A.aG (ψ i)
 ·rfl
 ·rw [bV] at h;omega
theorem nu {A:Ar} {x:Int} (h:¬ x%4=1):a9 A x=true:=by unfold a9;simp [h]
theorem qd {A:Ar} {x:Int} (h:¬ x%4=1):cR A x=x:=if_neg (fun h'=>h h'.1)
theorem Cu.alive (R:aL O W φ) (C:Cu O W φ A S ψ N) {x:Int} {v:Vl} (hv:W.cI v) (hx:kK φ ψ S x v):a9 A x=true↔(v.1=3→S v.2):=by
 by_cases h3:v.1=3
 ·have hl:=Wd.bh hv h3;rcases hx with rfl | ⟨hs,rfl⟩
  ·have e:=bI φ h3;have e4:aD φ v/4=φ v.2:=by rw [e];omega
   have e1:aD φ v%4=1:=by rw [e];omega
   unfold a9;rw [e4];cases ho:(W.th v.2).aP
   ·rw [(C.iX R hl).2 ho];by_cases hs:S v.2
    ·have:=C.fwd v.2 ((C.nm _).2 ⟨hs,ho⟩);have hp:=C.place R hs;have h0:(0:Int)≤A.nur:=by omega
     simp [e1,this,hs];omega
    ·have:=(C.p9 R hl ho hs).2;simp [e1,h3,hs];omega
   ·have:A.aG (φ v.2)=false:=by
     cases h:A.aG (φ v.2)
     ·rfl
     ·rw [C.iX R hl,ho] at h;cases h
    rw [this];simp [C.so _ hl ho]
  ·have e:=bI ψ h3;have e4:aD ψ v/4=ψ v.2:=by rw [e];omega
   unfold a9;rw [e4,C.ry R (hs h3)];simp [hs h3]
 ·have e:x=aD φ v:=by
   rcases hx with h | ⟨_,h⟩
   ·exact h
   ·rw [h];exact j8 h3
  subst e;rw [nu (fun h=>h3 ((fG hv).1 h))];simp [h3]
theorem Cu.now (R:aL O W φ) (C:Cu O W φ A S ψ N) {x:Int} {v:Vl} (hv:W.cI v) (hx:kK φ ψ S x v) (hs:v.1=3→S v.2):cR A x=aD ψ v:=by
 by_cases h3:v.1=3
 ·have hl:=Wd.bh hv h3;have hS:=hs h3;have hp:=C.place R hS;have hok:=C.sm.ok;have b1:=hok.h3;have b2:=hok.h4;have e':=bI ψ h3;rcases hx with rfl | ⟨_,rfl⟩
  ·have e:=bI φ h3;have e4:aD φ v/4=φ v.2:=by rw [e];omega
   have e1:aD φ v%4=1:=by rw [e];omega
   unfold cR;rw [e4];cases ho:(W.th v.2).aP
   ·have hf:=C.fwd v.2 ((C.nm _).2 ⟨hS,ho⟩);rw [if_pos ⟨e1,(C.iX R hl).2 ho,by rw [hf];omega⟩,hf,e'];unfold gP;rw [show 4*(-1-(-1-ψ v.2))+1=4*ψ v.2+1 by omega,IntKind.wrap_i64];omega
   ·have:¬ A.aG (φ v.2)=true:=by rw [C.iX R hl,ho];decide
    rw [if_neg (fun h=>this h.2.1),e,e',C.po _ hl ho]
  ·have e4:aD ψ v/4=ψ v.2:=by rw [e'];omega
   unfold cR;rw [e4,C.ry R hS,if_neg (fun h=>by cases h.2.1)]
 ·have e:x=aD φ v:=by
   rcases hx with h | ⟨_,h⟩
   ·exact h
   ·rw [h];exact j8 h3
  subst e;rw [qd (fun h=>h3 ((fG hv).1 h))];exact j8 h3
theorem Cu.room (R:aL O W φ) (C:Cu O W φ A S ψ N) (hr:(O.ar.yng:Int)≤(O.ar.ws.length:Int)-O.ar.grn) {i:Int} (hl:W.live i) (ho:(W.th i).aP=false) (hs:¬ S i) :
  1+((W.th i).fs.length:Int)≤(A.ws.length:Int)-A.grn:=by
 have hn:¬ i ∈ N:=fun h=>hs ((C.nm i).1 h).1;have h1:=C.iJ.sum;rw [List.map_map] at h1;have e:N.map ((fun p=>1+(A.aj p).2.1) ∘ ψ)=N.map fun i=>(W.th i).words:=
  List.map_congr_left fun j hj=>by simp only [Function.comp];rw [C.th j ((C.nm j).1 hj).1];rfl
 rw [e] at h1;have h2:=n9 (f:=fun i=>(W.th i).words) (fun i=>by unfold Th.words;omega) (l:=i :: N) (m:=W.idx false) (List.nodup_cons.2 ⟨hn,C.nd⟩) (by
  intro j hj;rcases List.mem_cons.1 hj with rfl | hj
  ·exact Wd.c8.2 ⟨hl,ho⟩
  ·have:=(C.nm j).1 hj;exact Wd.c8.2 ⟨C.sl j this.1,this.2⟩)
 rw [Wd.kh] at h2;have h3:(de W.T fun t=>!t.dead && (t.aP == false))=W.aG:=by
  unfold Wd.aG;congr 1
  funext t;cases t.aP <;> rfl
 rw [h3,←R.sy] at h2;simp only [List.map_cons,List.sum_cons] at h2;have h4:=C.sm.len;have h5:(W.th i).words=1+((W.th i).fs.length:Int):=rfl;omega
theorem Ar.vw {A:Ar} (hA:A.ok) {p:Int} (h:(A.aj p).2.2=0∧A.whole p (A.aj p).2.1=true∧1+(A.aj p).2.1≤(A.ws.length:Int)-A.grn) :
  (A.copy p).1=A.grn∧(∀ q,A.aS q=true→(A.copy p).2.load q=A.load q)∧(∀ j:Int,0≤j→j≤(A.aj p).2.1→(A.copy p).2.load (A.grn+j)=A.load (p+j))∧((A.copy p).2.grn:Int)=A.grn+(1+(A.aj p).2.1):=by
 have hf:=A.aU p;have hs:=Ar.jX hA hf.1 h.2.1;have a1:=hA.h1;have a2:=hA.h2;have a3:=hA.h3;have hl:((A.ws.drop p.toNat).take (1+(A.aj p).2.1).toNat).length=(1+(A.aj p).2.1).toNat:=by simp;omega
 have hle:A.grn+((A.ws.drop p.toNat).take (1+(A.aj p).2.1).toNat).length≤A.ws.length:=by rw [hl];omega
 rw [Ar.r7 h];refine ⟨rfl,fun q hq=>?_,fun j h0 h1=>?_,by dsimp only;omega⟩
 ·have hu:Ar.aS { A with grn:=A.grn+(1+(A.aj p).2.1).toNat,ws:=lay A.ws A.grn ((A.ws.drop p.toNat).take (1+(A.aj p).2.1).toNat) } q=true:=by
   unfold Ar.aS at *;rw [Bool.or_eq_true] at *;rw [bV,c7] at *;dsimp only;omega
  unfold Ar.load;rw [hu,hq];simp only [if_true];rw [ju hle,if_neg];rw [hl];unfold Ar.aS at hq;rw [Bool.or_eq_true,bV,c7] at hq;omega
 ·have hu:Ar.aS { A with grn:=A.grn+(1+(A.aj p).2.1).toNat,ws:=lay A.ws A.grn ((A.ws.drop p.toNat).take (1+(A.aj p).2.1).toNat) } (A.grn+j)=true:=by
   unfold Ar.aS;rw [Bool.or_eq_true,c7];right;dsimp only;omega
  have hup:A.aS (p+j)=true:=by
   unfold Ar.whole at h;unfold Ar.aS;have h2:=h.2.1;simp only [Bool.or_eq_true,Bool.and_eq_true,bV,c7] at h2 ⊢;omega
  unfold Ar.load;rw [hu,hup];simp only [if_true];rw [ju hle,if_pos (by rw [hl];omega)];simp only [Ld];rw [List.getElem?_take,if_pos (by omega),List.getElem?_drop];congr 2;omega
end
end
section
section
variable {O:Wo} {W:Wd} {φ ψ ψ':Int→Int} {A A':Ar} {S S':Int→Prop} {N N':List Int}
def vx (O:Wo) (W:Wd) (φ:Int→Int) (A:Ar) (S:Int→Prop) (ψ:Int→Int) (N:List Int) (A':Ar) (Al:Int→Prop) (T:(Int→Prop)→(Int→Int)→List Int→Prop):Prop:=
 ∃ S' ψ' N',Cu O W φ A' S' ψ' N'∧Ext W A S ψ N A' S' ψ' N'∧(∀ k,S' k→S k∨Al k)∧T S' ψ' N'
theorem Cu.iC (R:aL O W φ) (C:Cu O W φ A S ψ N) (hr:(O.ar.yng:Int)≤(O.ar.ws.length:Int)-O.ar.grn) {x:Int} {v:Vl} (hv:W.cI v) (hx:kK φ ψ S x v) :
  vx O W φ A S ψ N (bF A x) (fun k=>v.1=3∧k=v.2) fun S' ψ' N'=>cR (bF A x) x=aD ψ' v∧(v.1=3→S' v.2)∧∀ q,A.aP q=true→(bF A x).load q=A.load q:=by
 by_cases ha:a9 A x=true
 ·have e:bF A x=A:=by unfold bF;rw [if_pos ha]
  have hs:=(C.alive R hv hx).1 ha;rw [e];exact ⟨S,ψ,N,C,Ext.refl,fun k hk=>.inl hk,C.now R hv hx hs,hs,fun _ _=>rfl⟩
 ·have hns:¬ (v.1=3→S v.2):=fun h=>ha ((C.alive R hv hx).2 h);have h3:v.1=3:=Decidable.byContradiction fun h=>hns (fun h'=>(h h').elim);have hs:¬ S v.2:=fun h=>hns (fun _=>h);obtain ⟨i,hi⟩:∃ i,v.2=i:=⟨_,rfl⟩;have hl:=Wd.bh hv h3;rw [hi] at hs hl;have ho:(W.th i).aP=false:=by
   cases h:(W.th i).aP
   ·rfl
   ·exact (hs (C.so i hl h)).elim
  have hxe:x=aD φ v:=by
   rcases hx with h | ⟨h,_⟩
   ·exact h
   ·exact (hns h).elim
  have e4:x/4=φ i:=by rw [hxe,bI φ h3,hi];omega
  have hA:=C.sm.ok;have hfl:=C.p9 R hl ho hs;have hth:A.aj (φ i)=((W.th i).k,((W.th i).fs.length:Int),0):=(cL hfl.1).trans (R.th i hl);have hyA:∀ j:Int,0≤j→j≤(W.th i).fs.length→A.aG (φ i+j)=true:=fun j h0 h1=>by
   have:=R.aG hl ho h0 h1;unfold Ar.aG at *;rw [C.sm.yng];exact this
  have hy0:A.aG (φ i)=true:=by have:=hyA 0 (by omega) (by omega);rwa [Int.add_zero] at this
  have hcond:(A.aj (φ i)).2.2=0∧A.whole (φ i) (A.aj (φ i)).2.1=true∧1+(A.aj (φ i)).2.1≤(A.ws.length:Int)-A.grn:=by
   rw [hth];refine ⟨rfl,?_,C.room R hr hl ho hs⟩;unfold Ar.whole;rw [hy0,hyA _ (by omega) (Int.le_refl _)];rfl
  obtain ⟨c1,c2,c3,c4⟩:=Ar.vw hA hcond;rw [hth] at c3 c4;dsimp only at c3 c4;have hB:(A.copy (φ i)).2.ok:=hA.copy _;obtain ⟨B,hBe⟩:∃ B,(A.copy (φ i)).2=B:=⟨_,rfl⟩;have e:bF A x=B.store (φ i) (-1-A.grn):=by
   unfold bF;rw [if_neg ha,e4,c1,hBe]
  rw [hBe] at c2 c3 c4 hB;have hsB:Sm A B:=by rw [←hBe];exact Sm.copy hA _
  have hsm:Sm O.ar (bF A x):=C.sm.trans (Sm.iC hA x);have hp:=R.place hl;have y0:=bV.1 hy0;have a1:=hA.h1;have a2:=hA.h2;have useB:B.aS (φ i)=true:=by unfold Ar.aS;rw [Bool.or_eq_true,bV,hsB.yng];exact .inl y0
  have hload:=fun q=>Ar.eF hB (φ i) q (-1-(A.grn:Int));have hlo:∀ q,q≠φ i→(B.store (φ i) (-1-(A.grn:Int))).load q=B.load q:=fun q hq=>by rw [hload,if_neg (fun h=>hq h.1)]
  have hlq:∀ q,A.aS q=true→q≠φ i→(B.store (φ i) (-1-(A.grn:Int))).load q=A.load q:=fun q hq h=>(hlo q h).trans (c2 q hq);have hold:∀ q,A.aP q=true→(B.store (φ i) (-1-(A.grn:Int))).load q=A.load q:=fun q hq=>by
   refine hlq q (by unfold Ar.aS;rw [hq];simp) ?_;have:=c7.1 hq;omega
  have hnew:∀ j:Int,0≤j→j≤(W.th i).fs.length→(B.store (φ i) (-1-(A.grn:Int))).load (A.grn+j)=O.ar.load (φ i+j):=fun j h0 h1=>by
   rw [hlo _ (by omega),c3 j h0 h1,C.yet i hl ho hs j h0 h1]
  rw [e];rw [e] at hsm;have hni:¬ i ∈ N:=fun h=>hs ((C.nm i).1 h).1;have fe:∀ k,k≠i→kJ i A.grn ψ k=ψ k:=fun k hk=>if_neg hk;have fi:kJ i A.grn ψ i=A.grn:=if_pos rfl;have fS:∀ k,S k→kJ i A.grn ψ k=ψ k:=fun k hk=>fe k (fun h=>hs (h ▸ hk));have hgr:((B.store (φ i) (-1-(A.grn:Int))).grn:Int)=A.grn+(1+(W.th i).fs.length):=by rw [Ar.dA];exact c4
  have hti:(B.store (φ i) (-1-(A.grn:Int))).aj A.grn=((W.th i).k,((W.th i).fs.length:Int),0):=by
   have:=hnew 0 (by omega) (by omega);rw [Int.add_zero,Int.add_zero] at this;exact (g7 this).trans (R.th i hl)
  have hts:∀ k,S k→(B.store (φ i) (-1-(A.grn:Int))).aj (ψ k)=A.aj (ψ k):=fun k hk=>by
   refine cL (hold _ ?_);have:=C.uI R hk (j:=0) (by omega) (by omega);rwa [Int.add_zero] at this
  have wr:∀ {y:Int} {u:Vl},kK φ ψ S y u→kK φ (kJ i A.grn ψ) (fun k=>S k∨k=i) y u:=fun hw=>by
   rcases hw with h1 | ⟨h1,h2⟩
   ·exact .inl h1
   ·exact .inr ⟨fun h=>.inl (h1 h),by rw [h2];exact (dU (fun h=>fS _ (h1 h))).symm⟩
  refine ⟨fun k=>S k∨k=i,kJ i A.grn ψ,N ++ [i],⟨hsm,fun k hk=>?_,fun k hk h=>.inl (C.so k hk h),fun k hk h=>?_,?_,fun k=>?_,?_,fun k hk=>?_,fun k hk hko hks j h0 h1=>?_,fun k hk=>?_,fun k hk j u hu=>?_⟩,
   ⟨fun k hk=>.inl hk,fS,⟨[i],rfl⟩,fun k hk j u hu hup=>?_,by have:=hsB.grn;rw [Ar.dA];exact this⟩,fun k hk=>?_,?_,fun _=>.inr hi,hold⟩
  ·rcases hk with hk | rfl
   ·exact C.sl k hk
   ·exact hl
  ·rw [fe k (fun e=>by rw [e,ho] at h;cases h)];exact C.po k hk h
  ·rw [List.nodup_append];exact ⟨C.nd,by simp,fun a ha b hb e=>hni (by rw [←List.mem_singleton.1 hb,←e];exact ha)⟩
  ·rw [List.mem_append,List.mem_singleton,C.nm];constructor
   ·rintro (⟨h1,h2⟩ | rfl)
    ·exact ⟨.inl h1,h2⟩
    ·exact ⟨.inr rfl,ho⟩
   ·rintro ⟨h1 | rfl,h2⟩
    ·exact .inl ⟨h1,h2⟩
    ·exact .inr rfl
  ·rw [List.map_append];have e1:N.map (kJ i A.grn ψ)=N.map ψ:=List.map_congr_left fun k hk=>fS k ((C.nm k).1 hk).1;rw [e1];refine Tile.app (Tile.congr (fun p hp'=>?_) C.iJ) ⟨by rw [fi],by rw [fi,hti],?_⟩
   ·obtain ⟨k,hk,rfl⟩:=List.mem_map.1 hp';exact hts k ((C.nm k).1 hk).1
   ·rw [fi,hti]
    show (A.grn:Int)+1+(W.th i).fs.length=_
    rw [hgr];omega
  ·rcases hk with hk | rfl
   ·rw [fS k hk];exact (hts k hk).trans (C.th k hk)
   ·rw [fi];exact hti
  ·have hki:k≠i:=fun e=>hks (.inr e);have hkS:¬ S k:=fun h=>hks (.inl h);have hyk:=R.aG hk hko h0 h1;refine (hlq _ ?_ ?_).trans (C.yet k hk hko hkS j h0 h1)
   ·unfold Ar.aS Ar.aG at *;rw [C.sm.yng,hyk];rfl
   ·have:=R.apart hk hl hki;have:=R.apart hl hk (Ne.symm hki);omega
  ·rcases List.mem_append.1 hk with hk | hk
   ·have hkS:=(C.nm k).1 hk;have hki:k≠i:=fun e=>hs (e ▸ hkS.1);rw [fS k hkS.1];refine (hlq _ ?_ (fun e=>hki (R.inj k i (C.sl k hkS.1) hl e))).trans (C.fwd k hk);unfold Ar.aS;rw [(C.iX R (C.sl k hkS.1)).2 hkS.2];rfl
   ·rw [List.mem_singleton.1 hk,fi,hload,if_pos ⟨rfl,useB⟩]
  ·rcases hk with hk | rfl
   ·have hj:j<(W.th k).fs.length:=(List.getElem?_eq_some_iff.1 hu).1;rw [fS k hk,hold _ (by rw [Int.add_assoc];exact C.uI R hk (by omega) (by omega))];exact wr (C.fd k hk j u hu)
   ·have hj:j<(W.th k).fs.length:=(List.getElem?_eq_some_iff.1 hu).1;rw [fi,Int.add_assoc,hnew (1+j) (by omega) (by omega),←Int.add_assoc];exact .inl (R.fl k hl j u hu)
  ·have hj:j<(W.th k).fs.length:=(List.getElem?_eq_some_iff.1 hu).1;refine ⟨fun h=>.inl (hup.1 h),?_⟩;rw [fS k hk,hold _ (by rw [Int.add_assoc];exact C.uI R hk (by omega) (by omega)),hup.2];exact (dU (fun h=>fS _ (hup.1 h))).symm
  ·rcases hk with hk | rfl
   ·exact .inl hk
   ·exact .inr ⟨h3,hi.symm⟩
  ·unfold cR;have hyB:(B.store (φ i) (-1-(A.grn:Int))).aG (φ i)=true:=by rw [bV,Ar.fg,hsB.yng];exact y0
   have hlp:(B.store (φ i) (-1-(A.grn:Int))).load (φ i)=-1-A.grn:=by rw [hload,if_pos ⟨rfl,useB⟩]
   rw [e4,hlp,if_pos ⟨by rw [hxe,bI φ h3];omega,hyB,by omega⟩,bI _ h3,hi,fi];have:=hB.h3;have:=hB.h4;unfold gP;rw [show 4*(-1-(-1-(A.grn:Int)))+1=4*(A.grn:Int)+1 by omega,IntKind.wrap_i64];omega
theorem Cu.put (R:aL O W φ) (C:Cu O W φ A S ψ N) {i:Int} (hi:S i) {j:Nat} {v:Vl} (hj:(W.th i).fs[j]? = some v) (hs:v.1=3→S v.2) :
  Cu O W φ (A.store (ψ i+1+j) (aD ψ v)) S ψ N∧Ext W A S ψ N (A.store (ψ i+1+j) (aD ψ v)) S ψ N∧Up W (A.store (ψ i+1+j) (aD ψ v)) S ψ i j v:=by
 have hA:=C.sm.ok;have hjl:j<(W.th i).fs.length:=(List.getElem?_eq_some_iff.1 hj).1;have hpi:=C.place R hi;have b1:=hA.h1;have b2:=hA.h2;have b3:=hA.h3;have b4:=hA.h4;have hok:=R.hw.tv i (C.sl i hi) v (List.mem_of_getElem? hj);have hR:br (aD ψ v):=by
  unfold br;rcases hok with h | h | h | h
  ·have e:aD ψ v=2:=by simp [aD,h.1]
   rw [e];decide
  ·have e:aD ψ v=4*v.2:=by simp [aD,h.1]
   have:=h.2;unfold cA at this;rw [e];omega
  ·have e:aD ψ v=3:=by simp [aD,h.1]
   rw [e];decide
  ·rw [bI ψ h.1];have:=C.place R (hs h.1);omega
 have huse:A.aS (ψ i+1+j)=true:=by rw [Int.add_assoc];exact C.rh R hi (by omega) (by omega)
 have hload:=fun q=>Ar.eF hA (ψ i+1+(j:Int)) q (aD ψ v);have hne:∀ q,q≠ψ i+1+j→(A.store (ψ i+1+j) (aD ψ v)).load q=A.load q:=fun q hq=>by rw [hload,if_neg (fun h=>hq h.1)]
 have heq:(A.store (ψ i+1+j) (aD ψ v)).load (ψ i+1+j)=aD ψ v:=by rw [hload,if_pos ⟨rfl,huse⟩]
 have hth:∀ k,S k→(A.store (ψ i+1+j) (aD ψ v)).aj (ψ k)=A.aj (ψ k):=fun k hk=>by
  refine cL (hne _ ?_);by_cases e:k=i
  ·subst e;omega
  ·have:=C.apart R hk hi e;omega
 have hyo:∀ q,A.aG q=true→(A.store (ψ i+1+j) (aD ψ v)).load q=A.load q:=fun q hq=>by
  refine hne _ ?_;have:=bV.1 hq;omega
 have hfd:∀ k,S k→∀ (n:Nat) (u:Vl),(W.th k).fs[n]? = some u→(k=i∧n=j∧u=v)∨(A.store (ψ i+1+j) (aD ψ v)).load (ψ k+1+n)=A.load (ψ k+1+n):=fun k hk n u hu=>by
  have hn:n<(W.th k).fs.length:=(List.getElem?_eq_some_iff.1 hu).1;by_cases e:k=i
  ·subst e;by_cases en:n=j
   ·subst en;rw [hj] at hu;cases hu;exact .inl ⟨rfl,rfl,rfl⟩
   ·exact .inr (hne _ (by omega))
  ·have:=C.apart R hk hi e;exact .inr (hne _ (by omega))
 have hup:Up W (A.store (ψ i+1+j) (aD ψ v)) S ψ i j v:=⟨hs,heq⟩;refine ⟨⟨C.sm.trans (Sm.store hA _ hR),C.sl,C.so,C.po,C.nd,C.nm,?_,fun k hk=>(hth k hk).trans (C.th k hk),fun k hk hko hks n h0 h1=>?_,fun k hk=>?_,fun k hk n u hu=>?_⟩,⟨fun _ h=>h,fun _ _=>rfl,⟨[],by simp⟩,fun k hk n u hu h=>?_,by rw [Ar.dA];exact Nat.le_refl _⟩,hup⟩
 ·rw [Ar.dA];refine Tile.congr (fun p hp=>?_) C.iJ;obtain ⟨k,hk,rfl⟩:=List.mem_map.1 hp;exact hth k ((C.nm k).1 hk).1
 ·have hyk:=R.aG hk hko h0 h1;rw [hyo _ (by unfold Ar.aG at *;rw [C.sm.yng];exact hyk)];exact C.yet k hk hko hks n h0 h1
 ·have hkS:=(C.nm k).1 hk;rw [hyo _ ((C.iX R (C.sl k hkS.1)).2 hkS.2)];exact C.fwd k hk
 ·rcases hfd k hk n u hu with ⟨rfl,rfl,rfl⟩ | h
  ·exact .inr hup
  ·rw [h];exact C.fd k hk n u hu
 ·rcases hfd k hk n u hu with ⟨rfl,rfl,rfl⟩ | e
  ·exact hup
  ·exact ⟨h.1,e.trans h.2⟩
theorem Cu.field (R:aL O W φ) (C:Cu O W φ A S ψ N) (hr:(O.ar.yng:Int)≤(O.ar.ws.length:Int)-O.ar.grn) {i:Int} (hi:S i) {j:Nat} {v:Vl} (hj:(W.th i).fs[j]? = some v) :
  vx O W φ A S ψ N (fm A (ψ i+1+j)) (fun k=>v.1=3∧k=v.2) fun S' ψ' N'=>Up W (fm A (ψ i+1+j)) S' ψ' i j v:=by
 have hok:=R.hw.tv i (C.sl i hi) v (List.mem_of_getElem? hj);obtain ⟨S1,ψ1,N1,C1,E1,h1,h2,h3,h4⟩:=C.iC R hr hok (C.fd i hi j v hj);have e:fm A (ψ i+1+j)=(bF A (A.load (ψ i+1+j))).store (ψ1 i+1+j) (aD ψ1 v):=by
  unfold fm;rw [h2,E1.at_ i hi]
 rw [e];obtain ⟨C2,E2,hup⟩:=C1.put R (E1.sub i hi) hj h3;exact ⟨S1,ψ1,N1,C2,E1.trans E2,h1,hup⟩
end
end
section
section
variable {O:Wo} {W:Wd} {φ ψ ψ':Int→Int} {A A':Ar} {S S' Al:Int→Prop} {N N':List Int} {qw:List (Int × Int)}
theorem Cu.fields (R:aL O W φ) (hr:(O.ar.yng:Int)≤(O.ar.ws.length:Int)-O.ar.grn) {i:Int}:∀ (n:Nat) {A:Ar} {S:Int→Prop} {ψ:Int→Int} {N:List Int} (j:Nat),Cu O W φ A S ψ N→S i→j+n≤(W.th i).fs.length →
  vx O W φ A S ψ N (mFields n A (ψ i+1+j)) (fun k=>∃ v ∈ (W.th i).fs,v.1=3∧k=v.2) fun S' ψ' N'=>∀ (m:Nat) (v:Vl),j≤m→m<j+n→(W.th i).fs[m]? = some v→Up W (mFields n A (ψ i+1+j)) S' ψ' i m v
 | 0,A,S,ψ,N,j,C,hi,hn=>⟨S,ψ,N,C,Ext.refl,fun k h=>.inl h,fun m v h1 h2=>by omega⟩
 | n+1,A,S,ψ,N,j,C,hi,hn=>by
  have hj:(W.th i).fs[j]? = some (W.th i).fs[j]:=Le (by omega);obtain ⟨S1,ψ1,N1,C1,E1,h1,u1⟩:=C.field R hr hi hj;obtain ⟨S2,ψ2,N2,C2,E2,h2,u2⟩:=Cu.fields R hr n (j+1) C1 (E1.sub i hi) (by omega);have e:mFields (n+1) A (ψ i+1+j)=mFields n (fm A (ψ i+1+j)) (ψ1 i+1+((j+1:Nat):Int)):=by
   rw [E1.at_ i hi]
   show mFields n (fm A (ψ i+1+j)) (ψ i+1+j+1)=_
   congr 1;omega
  rw [e];refine ⟨S2,ψ2,N2,C2,E1.trans E2,fun k hk=>?_,fun m v h3 h4 hv=>?_⟩
  ·rcases h2 k hk with h | h
   ·rcases h1 k h with h | ⟨h,h'⟩
    ·exact .inl h
    ·exact .inr ⟨_,List.getElem_mem (by omega),h,h'⟩
   ·exact .inr h
  ·by_cases em:m=j
   ·subst em;rw [hj] at hv;cases hv;exact E2.up i (E1.sub i hi) _ _ hj u1
   ·exact u2 m v (by omega) (by omega) hv
structure Sc (O:Wo) (W:Wd) (φ:Int→Int) (Al:Int→Prop) (s:Ms) (S:Int→Prop) (ψ:Int→Int) (N:List Int):Prop where
 C:Cu O W φ s.A S ψ N
 al:∀ k,S k→Al k
 wk:∀ p ∈ s.wk, ∃ i,S i∧(W.th i).k=3∧p=ψ i
 ep:∀ p ∈ s.ep, ∃ i,S i∧(W.th i).k=4∧p=ψ i
structure SE (W:Wd) (s:Ms) (S:Int→Prop) (ψ:Int→Int) (N:List Int) (s':Ms) (S':Int→Prop) (ψ':Int→Int) (N':List Int):Prop where
 E:Ext W s.A S ψ N s'.A S' ψ' N'
 wk:∀ p ∈ s.wk,p ∈ s'.wk
 ep:∀ p ∈ s.ep,p ∈ s'.ep
variable {s s':Ms}
theorem SE.refl:SE W s S ψ N s S ψ N:=⟨Ext.refl,fun _ h=>h,fun _ h=>h⟩
theorem SE.trans {s2:Ms} {S2:Int→Prop} {ψ2:Int→Int} {N2:List Int} (h:SE W s S ψ N s' S' ψ' N') (k:SE W s' S' ψ' N' s2 S2 ψ2 N2):SE W s S ψ N s2 S2 ψ2 N2:=
 ⟨h.E.trans k.E,fun p hp=>k.wk p (h.wk p hp),fun p hp=>k.ep p (h.ep p hp)⟩
def gS (W:Wd) (s:Ms) (S:Int→Prop) (ψ:Int→Int) (i:Int):Prop:=
 (((W.th i).k=1∨(W.th i).k=2)→∀ (j:Nat) (v:Vl),(W.th i).fs[j]? = some v→Up W s.A S ψ i j v) ∧
 ((W.th i).k=3→ψ i ∈ s.wk∧∀ v,(W.th i).fs[1]? = some v→Up W s.A S ψ i 1 v)∧((W.th i).k=4→ψ i ∈ s.ep)
def Clean (W:Wd) (i:Int):Prop:=(W.th i).aP=true∧∀ v ∈ (W.th i).fs,v.1=3→(W.th v.2).aP=true
theorem gS.mono (h:SE W s S ψ N s' S' ψ' N') {i:Int} (hi:S i) (hl:gS W s S ψ i):gS W s' S' ψ' i:=
 ⟨fun hk j v hv=>h.E.up i hi j v hv (hl.1 hk j v hv),fun hk=>⟨by rw [h.E.at_ i hi];exact h.wk _ (hl.2.1 hk).1,fun v hv=>h.E.up i hi 1 v hv ((hl.2.1 hk).2 v hv)⟩,fun hk=>by rw [h.E.at_ i hi];exact h.ep _ (hl.2.2 hk)⟩
theorem Sc.lists (H:Sc O W φ Al s S ψ N) {A':Ar} (E:Ext W s.A S ψ N A' S' ψ' N'):(∀ p ∈ s.wk, ∃ i,S' i∧(W.th i).k=3∧p=ψ' i)∧∀ p ∈ s.ep, ∃ i,S' i∧(W.th i).k=4∧p=ψ' i:=by
 constructor
 ·intro p hp;obtain ⟨i,h1,h2,h3⟩:=H.wk p hp;exact ⟨i,E.sub i h1,h2,by rw [E.at_ i h1];exact h3⟩
 ·intro p hp;obtain ⟨i,h1,h2,h3⟩:=H.ep p hp;exact ⟨i,E.sub i h1,h2,by rw [E.at_ i h1];exact h3⟩
theorem yu {k f:Int} (h:bs k f=true) (hk:k=3∨k=4∨k=1):f=2:=by
 unfold bs at h;rcases hk with rfl | rfl | rfl <;> simp at h <;> exact h
theorem Wd.two {W:Wd} (h:W.ok) {i:Int} (hl:W.live i) (hk:(W.th i).k=3∨(W.th i).k=4∨(W.th i).k=1):(W.th i).fs.length=2:=by
 have:=yu (h.tk i hl) hk;omega
theorem Sc.look (R:aL O W φ) (hr:(O.ar.yng:Int)≤(O.ar.ws.length:Int)-O.ar.grn) (hal:cC W.nd qw Al) (H:Sc O W φ Al s S ψ N) {i:Int} (hi:S i) :
  ∃ S' ψ' N',Sc O W φ Al (dV s (ψ i)) S' ψ' N'∧SE W s S ψ N (dV s (ψ i)) S' ψ' N'∧gS W (dV s (ψ i)) S' ψ' i:=by
 have hth:=H.C.th i hi;have hl:=H.C.sl i hi;unfold dV;rw [hth];dsimp only;by_cases k12:(W.th i).k=1∨(W.th i).k=2
 ·rw [if_pos k12];obtain ⟨S1,ψ1,N1,C1,E1,h1,u1⟩:=Cu.fields R hr (W.th i).fs.length 0 H.C hi (by omega);rw [show ψ i+1+((0:Nat):Int)=ψ i+1 by omega] at C1 E1 u1;rw [Int.toNat_natCast];have hL:=H.lists E1;refine ⟨S1,ψ1,N1,⟨C1,fun k hk=>?_,hL.1,hL.2⟩,⟨E1,fun _ h=>h,fun _ h=>h⟩,fun _ j v hv=>u1 j v (by omega) (by have:=(List.getElem?_eq_some_iff.1 hv).1;omega) hv,fun h=>by omega,fun h=>by omega⟩;rcases h1 k hk with h | ⟨v,hv,h3,rfl⟩
  ·exact H.al k h
  ·exact hal i _ (H.al i hi) (.inl ⟨k12,by show ((3,v.2):Vl) ∈ (W.th i).fs;rw [←h3];exact hv⟩)
 ·rw [if_neg k12];by_cases k3:(W.th i).k=3
  ·rw [if_pos k3];have h2:=Wd.two R.hw hl (.inl k3);have hj:(W.th i).fs[1]? = some (W.th i).fs[1]:=Le (by omega);obtain ⟨S1,ψ1,N1,C1,E1,h1,u1⟩:=H.C.field R hr hi hj;rw [show ψ i+1+((1:Nat):Int)=ψ i+2 by omega] at C1 E1 u1;have hL:=H.lists E1;refine ⟨S1,ψ1,N1,⟨C1,fun k hk=>?_,fun p hp=>?_,hL.2⟩,⟨E1,fun p hp=>by simp [hp],fun _ h=>h⟩,fun h=>(k12 h).elim,fun _=>⟨by rw [E1.at_ i hi];simp,fun v hv=>?_⟩,fun h=>by omega⟩
   ·rcases h1 k hk with h | ⟨h3,rfl⟩
    ·exact H.al k h
    ·refine hal i _ (H.al i hi) (.inr (.inl ⟨k3,?_⟩))
     show (W.th i).fs[1]? = _
     rw [hj];congr 1;exact Prod.ext h3 rfl
   ·rcases List.mem_append.1 hp with h | h
    ·exact hL.1 p h
    ·rw [List.mem_singleton.1 h];exact ⟨i,E1.sub i hi,k3,(E1.at_ i hi).symm⟩
   ·rw [hj] at hv;cases hv;exact u1
  ·rw [if_neg k3];by_cases k4:(W.th i).k=4
   ·rw [if_pos k4];refine ⟨S,ψ,N,⟨H.C,H.al,H.wk,fun p hp=>?_⟩,⟨Ext.refl,fun _ h=>h,fun p hp=>by simp [hp]⟩,fun h=>(k12 h).elim,fun h=>(k3 h).elim,fun _=>by simp⟩;rcases List.mem_append.1 hp with h | h
    ·exact H.ep p h
    ·rw [List.mem_singleton.1 h];exact ⟨i,hi,k4,rfl⟩
   ·rw [if_neg k4];exact ⟨S,ψ,N,H,SE.refl,fun h=>(k12 h).elim,fun h=>(k3 h).elim,fun h=>(k4 h).elim⟩
theorem Tile.split {A:Ar} {m:List Int}:∀ {l:List Int} {a b:Int},Tile A (l ++ m) a b→∃ c,Tile A l a c∧Tile A m c b
 | [],a,b,h=>⟨a,rfl,h⟩
 | p :: l,a,b,h=>by
  obtain ⟨c,h1,h2⟩:=Tile.split h.2.2;exact ⟨c,⟨h.1,h.2.1,h1⟩,h2⟩
theorem Tile.end_ {A:Ar}:∀ {l:List Int} {a b c:Int},Tile A l a b→Tile A l a c→b=c
 | [],a,b,c,h,k=>by have h1:a=b:=h;have h2:a=c:=k;omega
 | p :: l,a,b,c,h,k=>Tile.end_ h.2.2 k.2.2
structure Sn (O:Wo) (W:Wd) (s:Ms) (S:Int→Prop) (ψ:Int→Int) (N:List Int) (c:Int):Prop where
 sp:∃ N1 N2,N=N1 ++ N2∧Tile s.A (N1.map ψ) O.ar.grn c∧∀ i ∈ N1,gS W s S ψ i
 aP:∀ i,W.live i→(W.th i).aP=true→gS W s S ψ i∨Clean W i
theorem Sn.more (C:Cu O W φ s.A S ψ N) (C':Cu O W φ s'.A S' ψ' N') (E:SE W s S ψ N s' S' ψ' N') {c:Int} (h:Sn O W s S ψ N c):Sn O W s' S' ψ' N' c:=by
 obtain ⟨N1,N2,e,ht,hl⟩:=h.sp;obtain ⟨m,em⟩:=E.E.pre;have bJ:∀ i ∈ N1,S i:=fun i hi=>((C.nm i).1 (by rw [e];simp [hi])).1;refine ⟨⟨N1,N2 ++ m,by rw [em,e];simp,?_,fun i hi=>(hl i hi).mono E (bJ i hi)⟩,fun i hi ho=>?_⟩
 ·have e1:N1.map ψ'=N1.map ψ:=List.map_congr_left fun i hi=>E.E.at_ i (bJ i hi);rw [e1];refine Tile.congr (fun p hp=>?_) ht;obtain ⟨i,hi,rfl⟩:=List.mem_map.1 hp;rw [C.th i (bJ i hi),←E.E.at_ i (bJ i hi),C'.th i (E.E.sub i (bJ i hi))]
 ·rcases h.aP i hi ho with h1 | h1
  ·exact .inl (h1.mono E (C.so i hi ho))
  ·exact .inr h1
theorem Sn.all (R:aL O W φ) (C:Cu O W φ s.A S ψ N) {c:Int} (h:Sn O W s S ψ N c) (hc:c=s.A.grn):∀ i ∈ N,gS W s S ψ i:=by
 obtain ⟨N1,N2,e,ht,hl⟩:=h.sp;have hw:=C.iJ;rw [e,List.map_append] at hw;obtain ⟨m,h1,h2⟩:=hw.split;have:=h1.end_ ht;subst this;cases N2 with
 | nil=>rw [e];simpa using hl
 | cons i N2=>
  have h3:=Tile.le h2.2.2;have h4:=s.A.aU (ψ i);have h5:ψ i=m:=h2.1;omega
theorem Sc.scan (R:aL O W φ) (hr:(O.ar.yng:Int)≤(O.ar.ws.length:Int)-O.ar.grn) (hal:cC W.nd qw Al):∀ (n:Nat) {s:Ms} {S:Int→Prop} {ψ:Int→Int} {N:List Int} (c:Int),
  Sc O W φ Al s S ψ N→Sn O W s S ψ N c→c≤s.A.grn→((O.ar.ws.length:Int)-c).toNat<n →
  ∃ S' ψ' N',Sc O W φ Al (mScan n s c).1 S' ψ' N'∧SE W s S ψ N (mScan n s c).1 S' ψ' N'∧Sn O W (mScan n s c).1 S' ψ' N' (mScan n s c).2∧(mScan n s c).2=(mScan n s c).1.A.grn
 | 0,s,S,ψ,N,c,H,hs,hc,hn=>by omega
 | n+1,s,S,ψ,N,c,H,hs,hc,hn=>by
  unfold mScan;by_cases hlt:c<s.A.grn
  ·rw [if_pos hlt];obtain ⟨N1,N2,e,ht,hl⟩:=hs.sp;have hw:=H.C.iJ;rw [e,List.map_append] at hw;obtain ⟨m,h1,h2⟩:=hw.split;have hm:=h1.end_ ht;subst hm;cases N2 with
   | nil=>have h2':m=(s.A.grn:Int):=h2;omega
   | cons i N2=>
    have hic:ψ i=m:=h2.1;have hi:S i:=((H.C.nm i).1 (by rw [e];simp)).1;subst hic;have hth:=H.C.th i hi;obtain ⟨S1,ψ1,M1,H1,E1,hL⟩:=H.look R hr hal hi;have hsn:=hs.more H.C H1.C E1;have bJ:∀ k ∈ N1,S k:=fun k hk=>((H.C.nm k).1 (by rw [e];simp [hk])).1;have hth1:=H1.C.th i (E1.E.sub i hi);rw [E1.E.at_ i hi] at hth1;obtain ⟨mm,em⟩:=E1.E.pre;have hsn':Sn O W (dV s (ψ i)) S1 ψ1 M1 (ψ i+(1+(s.A.aj (ψ i)).2.1)):=by
     refine ⟨⟨N1 ++ [i],N2 ++ mm,by rw [em,e];simp,?_,fun k hk=>?_⟩,hsn.aP⟩
     ·have e1:N1.map ψ1=N1.map ψ:=List.map_congr_left fun k hk=>E1.E.at_ k (bJ k hk);rw [List.map_append,e1];refine Tile.app (Tile.congr (fun p hp=>?_) ht) ⟨E1.E.at_ i hi,by rw [E1.E.at_ i hi,hth1],?_⟩
      ·obtain ⟨k,hk,rfl⟩:=List.mem_map.1 hp;rw [H.C.th k (bJ k hk),←E1.E.at_ k (bJ k hk),H1.C.th k (E1.E.sub k (bJ k hk))]
      ·rw [E1.E.at_ i hi,hth1,hth]
       show ψ i+1+((W.th i).fs.length:Int)=ψ i+(1+(W.th i).fs.length)
       omega
     ·rcases List.mem_append.1 hk with h | h
      ·exact (hl k h).mono E1 (bJ k h)
      ·rw [List.mem_singleton.1 h];exact hL
    have hp:=H1.C.place R (E1.E.sub i hi);rw [E1.E.at_ i hi] at hp;have hth':=hth;rw [hth] at hsn' ⊢;dsimp only at hsn' ⊢;obtain ⟨S2,ψ2,M2,H2,E2,hn2,hc2⟩:=Sc.scan R hr hal n _ H1 hsn' (by omega) (by have:=H.C.sm.ok.h3;have:=H.C.sm.len;omega);exact ⟨S2,ψ2,M2,H2,E1.trans E2,hn2,hc2⟩
  ·rw [if_neg hlt];exact ⟨S,ψ,N,H,SE.refl,hs,by show c=(s.A.grn:Int);omega⟩
theorem Sc.zt (H:Sc O W φ Al s S ψ N) {A':Ar} (C:Cu O W φ A' S' ψ' N') (E:Ext W s.A S ψ N A' S' ψ' N') (hal:∀ k,S' k→Al k):Sc O W φ Al { s with A:=A' } S' ψ' N'∧SE W s S ψ N { s with A:=A' } S' ψ' N':=
 ⟨⟨C,hal,(H.lists E).1,(H.lists E).2⟩,⟨E,fun _ h=>h,fun _ h=>h⟩⟩
theorem Cu.p8 (R:aL O W φ) (hr:(O.ar.yng:Int)≤(O.ar.ws.length:Int)-O.ar.grn) (hal:cC W.nd qw Al):∀ (l:List Int) {A:Ar} {S:Int→Prop} {ψ:Int→Int} {N:List Int},
  Cu O W φ A S ψ N→(∀ k,S k→Al k)→(∀ p ∈ l, ∃ i,S i∧(W.th i).k=4∧p=ψ i) →
  ∃ S' ψ' N',Cu O W φ (fX A l) S' ψ' N'∧Ext W A S ψ N (fX A l) S' ψ' N'∧(∀ k,S' k→Al k) ∧
   ∀ i,S i→(W.th i).k=4→ψ i ∈ l→(∀ v,(W.th i).fs[0]? = some v→v.1=3→S v.2)→∀ v,(W.th i).fs[1]? = some v→v.1=3→S' v.2
 | [],A,S,ψ,N,C,ha,hl=>⟨S,ψ,N,C,Ext.refl,ha,fun i _ _ h=>by cases h⟩
 | p :: l,A,S,ψ,N,C,ha,hl=>by
  obtain ⟨i,hi,k4,rfl⟩:=hl p (by simp);have hli:=C.sl i hi;have h2:=Wd.two R.hw hli (.inr (.inl k4));have hj0:(W.th i).fs[0]? = some (W.th i).fs[0]:=Le (by omega);have hj1:(W.th i).fs[1]? = some (W.th i).fs[1]:=Le (by omega);have hok:=R.hw.tv i hli _ (List.mem_of_getElem? hj0);have hfd:=C.fd i hi 0 _ hj0;rw [show ψ i+1+((0:Nat):Int)=ψ i+1 by omega] at hfd;have halive:=C.alive R hok hfd;have step:∃ S1 ψ1 N1,Cu O W φ (jE A (ψ i)) S1 ψ1 N1∧Ext W A S ψ N (jE A (ψ i)) S1 ψ1 N1∧(∀ k,S1 k→Al k)∧((∀ v,(W.th i).fs[0]? = some v→v.1=3→S v.2)→∀ v,(W.th i).fs[1]? = some v→v.1=3→S1 v.2):=by
   unfold jE;by_cases hm:a9 A (A.load (ψ i+1))=true
   ·rw [if_pos hm];have hkey:=halive.1 hm;obtain ⟨S1,ψ1,N1,C1,E1,h1,u1⟩:=C.field R hr hi hj0;rw [show ψ i+1+((0:Nat):Int)=ψ i+1 by omega] at C1 E1 u1;obtain ⟨S2,ψ2,N2,C2,E2,h3,u2⟩:=C1.field R hr (E1.sub i hi) hj1;rw [E1.at_ i hi,show ψ i+1+((1:Nat):Int)=ψ i+2 by omega] at C2 E2 u2;refine ⟨S2,ψ2,N2,C2,E1.trans E2,fun k hk=>?_,fun _ v hv h=>by rw [hj1] at hv;cases hv;exact u2.1 h⟩;rcases h3 k hk with h | ⟨h4,rfl⟩
    ·rcases h1 k h with h | ⟨h4,rfl⟩
     ·exact ha k h
     ·exact ha _ (hkey h4)
    ·refine hal i _ (ha i hi) (.inr (.inr (.inl ⟨k4,?_,fun v hv h5=>?_⟩)))
     ·show (W.th i).fs[1]? = _
      rw [hj1];congr 1;exact Prod.ext h4 rfl
     ·have hv':(W.th i).fs[0]? = some v:=hv;rw [hj0] at hv';cases hv';exact ha _ (hkey h5)
   ·rw [if_neg hm];exact ⟨S,ψ,N,C,Ext.refl,ha,fun h=>(hm (halive.2 (fun h3=>h _ hj0 h3))).elim⟩
  obtain ⟨S1,ψ1,N1,C1,E1,ha1,hk1⟩:=step;obtain ⟨S2,ψ2,N2,C2,E2,ha2,hk2⟩:=Cu.p8 R hr hal l C1 ha1 (fun p hp=>by
   obtain ⟨k,h3,h4,h5⟩:=hl p (by simp [hp])
   exact ⟨k,E1.sub k h3,h4,by rw [E1.at_ k h3];exact h5⟩)
  have e:fX A (ψ i :: l)=fX (jE A (ψ i)) l:=rfl;rw [e];refine ⟨S2,ψ2,N2,C2,E1.trans E2,ha2,fun k hk k4' hkl hkey v hv h3=>?_⟩;rcases List.mem_cons.1 hkl with h | h
  ·have hki:=C.inj R hk hi h;subst hki;exact E2.sub _ (hk1 hkey v hv h3)
  ·exact hk2 k (E1.sub k hk) k4' (by rw [E1.at_ k hk];exact h) (fun v hv h3=>E1.sub _ (hkey v hv h3)) v hv h3
def fO (φ ψ:Int→Int) (S:Int→Prop):List (Int × Int)→List (Int × Int)→Prop
 | [],[]=>True
 | e :: l,f :: m=>(e.1=aD φ (3,f.1)∧kK φ ψ S e.2 (3,f.2))∧fO φ ψ S l m
 | _,_=>False
theorem fO.mono (E:Ext W A S ψ N A' S' ψ' N'):∀ {l m:List (Int × Int)},fO φ ψ S l m→fO φ ψ' S' l m
 | [],[],_=>trivial
 | e :: l,f :: m,h=>⟨⟨h.1.1,E.A6 h.1.2⟩,fO.mono E h.2⟩
theorem fO.app {e f:Int × Int} (he:e.1=aD φ (3,f.1)∧kK φ ψ S e.2 (3,f.2)):∀ {l m:List (Int × Int)},fO φ ψ S l m→fO φ ψ S (l ++ [e]) (m ++ [f])
 | [],[],_=>⟨he,trivial⟩
 | _ :: l,_ :: m,h=>⟨h.1,fO.app he h.2⟩
theorem Cu.eL (R:aL O W φ) (hr:(O.ar.yng:Int)≤(O.ar.ws.length:Int)-O.ar.grn) (hal:cC W.nd qw Al) (hqw:∀ e ∈ qw,W.dj e):∀ (l m:List (Int × Int)) {A:Ar} {S:Int→Prop} {ψ:Int→Int} {N:List Int},
  Cu O W φ A S ψ N→(∀ k,S k→Al k)→fO φ ψ S l m→(∀ f ∈ m,f ∈ qw) →
  ∃ S' ψ' N',Cu O W φ (wakeM a9 iW A l).1 S' ψ' N'∧Ext W A S ψ N (wakeM a9 iW A l).1 S' ψ' N'∧(∀ k,S' k→Al k)∧fO φ ψ' S' (wakeM a9 iW A l).2.1 m∧∀ f ∈ m,S f.1→S' f.2
 | [],[],A,S,ψ,N,C,ha,hq,hm=>⟨S,ψ,N,C,Ext.refl,ha,trivial,fun f h=>by cases h⟩
 | e :: l,f :: m,A,S,ψ,N,C,ha,hq,hm=>by
  have hf:=hqw f (hm f (by simp));have okg:W.cI (3,f.1):=.inr (.inr (.inr ⟨rfl,hf.1⟩));have okt:W.cI (3,f.2):=.inr (.inr (.inr ⟨rfl,hf.2.2⟩));have ag:=C.alive R okg (x:=e.1) (.inl hq.1.1);have at_:=C.alive R okt hq.1.2;simp only [forall_const] at ag at_;unfold wakeM;by_cases hc:(a9 A e.1 && !a9 A e.2)=true
  ·rw [if_pos hc];rw [Bool.and_eq_true] at hc;have hg:=ag.1 hc.1;obtain ⟨S1,ψ1,N1,C1,E1,h1,h2,h3,_⟩:=C.iC R hr okt hq.1.2;have ha1:∀ k,S1 k→Al k:=fun k hk=>by
    rcases h1 k hk with h | ⟨_,rfl⟩
    ·exact ha k h
    ·exact hal f.1 _ (ha _ hg) (.inr (.inr (.inr ⟨hf.2.1,by show (f.1,f.2) ∈ qw;exact hm f (by simp)⟩)))
   obtain ⟨S2,ψ2,N2,C2,E2,ha2,hq2,hk2⟩:=Cu.eL R hr hal hqw l m C1 ha1 (hq.2.mono E1) (fun f hf=>hm f (by simp [hf]));have hw:kK φ ψ1 S1 (iW A e.2).2 (3,f.2):=.inr ⟨h3,h2⟩;refine ⟨S2,ψ2,N2,C2,E1.trans E2,ha2,⟨⟨hq.1.1,E2.A6 hw⟩,hq2⟩,fun f' hf' hs=>?_⟩;rcases List.mem_cons.1 hf' with rfl | h
   ·exact E2.sub _ (h3 rfl)
   ·exact hk2 f' h (E1.sub _ hs)
  ·rw [if_neg hc];obtain ⟨S2,ψ2,N2,C2,E2,ha2,hq2,hk2⟩:=Cu.eL R hr hal hqw l m C ha hq.2 (fun f hf=>hm f (by simp [hf]));refine ⟨S2,ψ2,N2,C2,E2,ha2,⟨⟨hq.1.1,E2.A6 hq.1.2⟩,hq2⟩,fun f' hf' hs=>?_⟩;rcases List.mem_cons.1 hf' with rfl | h
   ·have h1:=ag.2 hs;rw [h1] at hc;simp at hc;exact E2.sub _ (at_.1 hc)
   ·exact hk2 f' h hs
end
end
section
section
variable {O:Wo} {W:Wd} {φ ψ ψ':Int→Int} {A A':Ar} {S S' Al:Int→Prop} {N N':List Int} {qw:List (Int × Int)}
theorem Ext.same (R:aL O W φ) (C:Cu O W φ A S ψ N) (C':Cu O W φ A' S' ψ' N') (E:Ext W A S ψ N A' S' ψ' N') (h:A'.grn=A.grn):∀ k,S' k→S k:=by
 obtain ⟨m,em⟩:=E.pre;have hm:m=[]:=by
  have ht':=C'.iJ;rw [em,List.map_append] at ht';obtain ⟨c,h1,h2⟩:=ht'.split;have e1:N.map ψ'=N.map ψ:=List.map_congr_left fun i hi=>E.at_ i ((C.nm i).1 hi).1;have h3:Tile A' (N.map ψ') O.ar.grn A.grn:=by
   rw [e1];refine Tile.congr (fun p hp=>?_) C.iJ;obtain ⟨i,hi,rfl⟩:=List.mem_map.1 hp;have hS:=((C.nm i).1 hi).1;rw [C.th i hS,←E.at_ i hS,C'.th i (E.sub i hS)]
  have:=h1.end_ h3;subst this;cases m with
  | nil=>rfl
  | cons p m=>
   have h5:ψ' p=(A.grn:Int):=h2.1;have h6:=Tile.le h2.2.2;have h7:=A'.aU (ψ' p);rw [h] at h6;omega
 intro k hk;cases ho:(W.th k).aP
 ·have:=(C'.nm k).2 ⟨hk,ho⟩;rw [em,hm,List.append_nil] at this;exact ((C.nm k).1 this).1
 ·exact C.so k (C'.sl k hk) ho
theorem Sc.round (R:aL O W φ) (hr:(O.ar.yng:Int)≤(O.ar.ws.length:Int)-O.ar.grn) (hal:cC W.nd qw Al) (hqw:∀ e ∈ qw,W.dj e) {d:Md} (H:Sc O W φ Al d.s S ψ N) (hs:Sn O W d.s S ψ N d.c) (hc:d.c≤d.s.A.grn) (hq:fO φ ψ S d.q qw) :
  ∃ S' ψ' N',Sc O W φ Al (bG d).s S' ψ' N'∧SE W d.s S ψ N (bG d).s S' ψ' N'∧Sn O W (bG d).s S' ψ' N' (bG d).c∧(bG d).c≤(bG d).s.A.grn∧(d.s.A.grn:Int)≤(bG d).c∧fO φ ψ' S' (bG d).q qw ∧
   (¬ (bG d).c<(bG d).s.A.grn→cC W.nd qw S'):=by
 have hlen:=H.C.sm.len;have h3':=H.C.sm.ok.h3;have h4':=H.C.sm.ok.h4;have hc0:(0:Int)≤d.c:=by
  obtain ⟨N1,N2,e,ht,hl⟩:=hs.sp;have:=ht.le;omega
 obtain ⟨S1,ψ1,N1,H1,E1,n1,c1⟩:=H.scan R hr hal 2000 d.c hs hc (by omega);obtain ⟨S2,ψ2,N2,C2,X2,a2,k2⟩:=Cu.p8 R hr hal (mScan 2000 d.s d.c).1.ep H1.C H1.al H1.ep;obtain ⟨S3,ψ3,N3,C3,X3,a3,q3,k3⟩:=Cu.eL R hr hal hqw d.q qw C2 a2 ((hq.mono E1.E).mono X2) (fun f hf=>hf);obtain ⟨H3,E3⟩:=H1.zt C3 (X2.trans X3) a3;have e1:(bG d).s={ (mScan 2000 d.s d.c).1 with A:=(wakeM a9 iW (fX (mScan 2000 d.s d.c).1.A (mScan 2000 d.s d.c).1.ep) d.q).1 }:=rfl;have e2:(bG d).c=(mScan 2000 d.s d.c).2:=rfl;have e3:(bG d).q=(wakeM a9 iW (fX (mScan 2000 d.s d.c).1.A (mScan 2000 d.s d.c).1.ep) d.q).2.1:=rfl;have g3:=(X2.trans X3).grn;have n3:=n1.more H1.C H3.C E3;rw [e1,e2,e3];refine ⟨S3,ψ3,N3,H3,E1.trans E3,n3,by rw [c1];exact Int.ofNat_le.2 g3,by rw [c1];exact Int.ofNat_le.2 E1.E.grn,q3,fun hno=>?_⟩;have hg:(wakeM a9 iW (fX (mScan 2000 d.s d.c).1.A (mScan 2000 d.s d.c).1.ep) d.q).1.grn=(mScan 2000 d.s d.c).1.A.grn:=by
  rw [c1] at hno;have:¬ ((mScan 2000 d.s d.c).1.A.grn:Int)<((wakeM a9 iW (fX (mScan 2000 d.s d.c).1.A (mScan 2000 d.s d.c).1.ep) d.q).1.grn:Int):=hno;omega
 have back1:=(X2.trans X3).same R H1.C C3 hg;have back2:∀ k,S3 k→S2 k:=fun k hk=>X2.sub k (back1 k hk);have all:=n3.all R C3 (by show (mScan 2000 d.s d.c).2=_;rw [c1];exact (congrArg Int.ofNat hg).symm);have seen:∀ i,S3 i→gS W { (mScan 2000 d.s d.c).1 with A:=(wakeM a9 iW (fX (mScan 2000 d.s d.c).1.A (mScan 2000 d.s d.c).1.ep) d.q).1 } S3 ψ3 i∨Clean W i:=fun i hi=>by
  cases ho:(W.th i).aP
  ·exact .inl (all i ((C3.nm i).2 ⟨hi,ho⟩))
  ·exact n3.aP i (C3.sl i hi) ho
 intro i j hi hl;have hli:=C3.sl i hi;have inF:∀ {n:Nat},(W.th i).fs[n]? = some (3,j)→Clean W i→S3 j:=fun hv hcl=>
  C3.so j (Wd.bh (R.hw.tv i hli _ (List.mem_of_getElem? hv)) rfl) (hcl.2 _ (List.mem_of_getElem? hv) rfl)
 rcases hl with ⟨hk,hm⟩ | ⟨hk,hm⟩ | ⟨hk,hm,hkey⟩ | ⟨hk,hm⟩
 ·obtain ⟨n,hn,he⟩:=List.mem_iff_getElem.1 (show ((3,j):Vl) ∈ (W.th i).fs from hm);have hv:(W.th i).fs[n]? = some (3,j):=by rw [Le hn,he]
  rcases seen i hi with h | h
  ·exact (h.1 hk n _ hv).1 rfl
  ·exact inF hv h
 ·rcases seen i hi with h | h
  ·exact ((h.2.1 hk).2 _ hm).1 rfl
  ·exact inF hm h
 ·rcases seen i hi with h | h
  ·have hep:=h.2.2 hk;have hi1:=back1 i hi;have h2:ψ1 i ∈ (mScan 2000 d.s d.c).1.ep:=by
    rw [←(X2.trans X3).at_ i hi1];exact hep
   exact X3.sub _ (k2 i hi1 hk h2 (fun v hv h3=>back1 _ (hkey v hv h3)) _ hm rfl)
  ·exact inF hm h
 ·exact k3 (i,j) hm (back2 i hi)
theorem Sc.drain (R:aL O W φ) (hr:(O.ar.yng:Int)≤(O.ar.ws.length:Int)-O.ar.grn) (hal:cC W.nd qw Al) (hqw:∀ e ∈ qw,W.dj e):∀ (n:Nat) {d:Md} {S:Int→Prop} {ψ:Int→Int} {N:List Int},
  Sc O W φ Al d.s S ψ N→Sn O W d.s S ψ N d.c→d.c≤d.s.A.grn→fO φ ψ S d.q qw→((O.ar.ws.length:Int)-d.s.A.grn).toNat<n →
  ∃ S' ψ' N',Sc O W φ Al (mDrain n d).s S' ψ' N'∧SE W d.s S ψ N (mDrain n d).s S' ψ' N'∧Sn O W (mDrain n d).s S' ψ' N' (mDrain n d).c∧(mDrain n d).c=(mDrain n d).s.A.grn∧fO φ ψ' S' (mDrain n d).q qw∧cC W.nd qw S'
 | 0,d,S,ψ,N,H,hs,hc,hq,hn=>by omega
 | n+1,d,S,ψ,N,H,hs,hc,hq,hn=>by
  obtain ⟨S1,ψ1,N1,H1,E1,n1,l1,g1,q1,k1⟩:=H.round R hr hal hqw hs hc hq;unfold mDrain;by_cases hlt:(bG d).c<(bG d).s.A.grn
  ·rw [if_pos hlt];have h3:=H1.C.sm.ok.h3;have h4:=H1.C.sm.len;obtain ⟨S2,ψ2,N2,H2,E2,n2,c2,q2,k2⟩:=Sc.drain R hr hal hqw n H1 n1 l1 q1 (by omega);exact ⟨S2,ψ2,N2,H2,E1.trans E2,n2,c2,q2,k2⟩
  ·rw [if_neg hlt];exact ⟨S1,ψ1,N1,H1,E1,n1,by omega,q1,k1 hlt⟩
end
end
section
section
variable {O:Wo} {W:Wd} {φ ψ ψ':Int→Int} {A A':Ar} {S S' Al:Int→Prop} {N N':List Int} {qw:List (Int × Int)}
theorem Cu.start (R:aL O W φ):Cu O W φ O.ar (fun i=>W.live i∧(W.th i).aP=true) φ []:=by
 refine ⟨Sm.refl R.ho.ha,fun i h=>h.1,fun i h1 h2=>⟨h1,h2⟩,fun _ _ _=>rfl,List.nodup_nil,fun i=>?_,rfl,fun i h=>R.th i h.1,fun _ _ _ _ _ _ _=>rfl,(by intro i hi;cases hi),fun i h j v hv=>.inl (R.fl i h.1 j v hv)⟩;constructor
 ·intro h;cases h
 ·rintro ⟨h1,h2⟩;rw [h1.2] at h2;cases h2
theorem Cu.roots (R:aL O W φ) (hr:(O.ar.yng:Int)≤(O.ar.ws.length:Int)-O.ar.grn):∀ (l:List Vl) {A:Ar} {S:Int→Prop} {ψ:Int→Int} {N:List Int},Cu O W φ A S ψ N→(∀ v ∈ l,W.cI v) →
  vx O W φ A S ψ N (mRoots A (l.map (aD φ))).1 (fun k=>((3,k):Vl) ∈ l) fun S' ψ' N'=>(∀ v ∈ l,v.1=3→S' v.2)∧(mRoots A (l.map (aD φ))).2=l.map (aD ψ')
 | [],A,S,ψ,N,C,_=>⟨S,ψ,N,C,Ext.refl,fun k h=>.inl h,by simp,rfl⟩
 | v :: l,A,S,ψ,N,C,hl=>by
  obtain ⟨S1,ψ1,N1,C1,E1,h1,h2,h3,_⟩:=C.iC R hr (hl v (by simp)) (x:=aD φ v) (.inl rfl);obtain ⟨S2,ψ2,N2,C2,E2,h4,h5,h6⟩:=Cu.roots R hr l C1 (fun u hu=>hl u (by simp [hu]));simp only [List.map_cons,mRoots];refine ⟨S2,ψ2,N2,C2,E1.trans E2,fun k hk=>?_,fun u hu h=>?_,?_⟩
  ·rcases h4 k hk with h | h
   ·rcases h1 k h with h' | ⟨h',rfl⟩
    ·exact .inl h'
    ·exact .inr (by rw [←h'];simp)
   ·exact .inr (by simp [h])
  ·rcases List.mem_cons.1 hu with rfl | hu
   ·exact E2.sub _ (h3 h)
   ·exact h5 u hu h
  ·rw [h2,h6];congr 1;exact (dU (fun h=>E2.at_ _ (h3 h))).symm
theorem Sc.zu (R:aL O W φ) (hr:(O.ar.yng:Int)≤(O.ar.ws.length:Int)-O.ar.grn) (hal:cC W.nd qw Al):∀ (l:List Int) {s:Ms} {S:Int→Prop} {ψ:Int→Int} {N:List Int},Sc O W φ Al s S ψ N→(∀ p ∈ l, ∃ i,W.live i∧(W.th i).aP=true∧p=φ i) →
  ∃ S' ψ' N',Sc O W φ Al (ef O.ar.nur O.cd s l) S' ψ' N'∧SE W s S ψ N (ef O.ar.nur O.cd s l) S' ψ' N'∧∀ i,W.live i→(W.th i).aP=true→φ i ∈ l→gS W (ef O.ar.nur O.cd s l) S' ψ' i∨Clean W i
 | [],s,S,ψ,N,H,_=>⟨S,ψ,N,H,SE.refl,fun i _ _ h=>by cases h⟩
 | p :: l,s,S,ψ,N,H,hl=>by
  obtain ⟨i,hi,ho,rfl⟩:=hl p (by simp);have hS:=H.C.so i hi ho;have step:∃ S1 ψ1 N1,Sc O W φ Al (if db O.ar.nur O.cd (φ i)=true then dV s (φ i) else s) S1 ψ1 N1∧SE W s S ψ N (if db O.ar.nur O.cd (φ i)=true then dV s (φ i) else s) S1 ψ1 N1∧(gS W (if db O.ar.nur O.cd (φ i)=true then dV s (φ i) else s) S1 ψ1 i∨Clean W i):=by
   by_cases hd:db O.ar.nur O.cd (φ i)=true
   ·rw [if_pos hd,←H.C.po i hi ho];obtain ⟨S1,ψ1,N1,H1,E1,hL⟩:=H.look R hr hal hS;exact ⟨S1,ψ1,N1,H1,E1, .inl hL⟩
   ·rw [if_neg hd];refine ⟨S,ψ,N,H,SE.refl, .inr ⟨ho,fun v hv h3=>?_⟩⟩;cases hv':(W.th v.2).aP
    ·exact (hd (R.card i hi ho v hv h3 hv')).elim
    ·rfl
  obtain ⟨S1,ψ1,N1,H1,E1,k1⟩:=step;obtain ⟨S2,ψ2,N2,H2,E2,k2⟩:=Sc.zu R hr hal l H1 (fun p hp=>hl p (by simp [hp]));have e:ef O.ar.nur O.cd s (φ i :: l)=ef O.ar.nur O.cd (if db O.ar.nur O.cd (φ i)=true then dV s (φ i) else s) l:=rfl;rw [e];refine ⟨S2,ψ2,N2,H2,E1.trans E2,fun k hk hko hkl=>?_⟩;rcases List.mem_cons.1 hkl with h | h
  ·have:=R.inj k i hk hi h;subst this;rcases k1 with h1 | h1
   ·exact .inl (h1.mono E2 (E1.E.sub k hS))
   ·exact .inr h1
  ·exact k2 k hk hko h
structure Ps (O:Wo) (W:Wd) (φ:Int→Int) (rw_:List Int) (t:Mt) (q:List (Int × Int)) (is:List Bool) (qw:List (Int × Int)) (ψ:Int→Int) (N:List Int):Prop where
 H:Sc O W φ (fun k=>ax is k=true) t.1 (fun k=>ax is k=true) ψ N
 n:Sn O W t.1 (fun k=>ax is k=true) ψ N t.2
 c:t.2=t.1.A.grn
 q:fO φ ψ (fun k=>ax is k=true) q qw
 ok:∀ e ∈ qw,W.dj e
 shut:cC W.nd qw fun k=>ax is k=true
 len:is.length=W.T.length
 rt:∀ v ∈ W.roots,v.1=3→ax is v.2=true
 rw_:rw_=W.roots.map (aD ψ)
theorem Sc.mq {s:Ms} (H:Sc O W φ Al s S ψ N) {Bl:Int→Prop} (h:∀ k,S k→Bl k):Sc O W φ Bl s S ψ N:=⟨H.C,h,H.wk,H.ep⟩
theorem Sc.qe (R:aL O W φ) (hr:(O.ar.yng:Int)≤(O.ar.ws.length:Int)-O.ar.grn) (hqw:∀ e ∈ qw,W.dj e) {d:Md} {is:List Bool} (hlen:is.length=W.T.length) (hS:∀ k,S k↔ax is k=true)
  (H:Sc O W φ (fun k=>b9 W.nd qw (fun k=>ax is k=true) k) d.s S ψ N) (hs:Sn O W d.s S ψ N d.c) (hc:d.c≤d.s.A.grn) (hq:fO φ ψ S d.q qw) {rts:List Int} (hrt:∀ v ∈ W.roots,v.1=3→S v.2) (hrw:rts=W.roots.map (aD ψ)) :
  ∃ ψ' N',Ps O W φ rts ((mDrain 2000 d).s,(mDrain 2000 d).c) (mDrain 2000 d).q (W.cX qw is) qw ψ' N'∧SE W d.s S ψ N (mDrain 2000 d).s (fun k=>ax (W.cX qw is) k=true) ψ' N':=by
 have h3:=H.C.sm.ok.h3;have h4:=H.C.sm.ok.h4;have h5:=H.C.sm.len;obtain ⟨S1,ψ1,N1,H1,E1,n1,c1,q1,k1⟩:=H.drain R hr (b9.closed W.nd qw _) hqw 2000 hs hc hq (by omega);have e:S1=fun k=>ax (W.cX qw is) k=true:=by
  funext k
  refine propext ⟨fun hk=>?_,fun hk=>?_⟩
  ·have hl:=H1.C.sl k hk;exact c6.2 ⟨hl.1,by rw [hlen];exact hl.2.1,H1.al k hk⟩
  ·exact (c6.1 hk).2.2.least (fun j hj=>E1.E.sub j ((hS j).2 hj)) k1
 subst e;refine ⟨ψ1,N1,⟨H1.mq (fun k hk=>hk),n1,c1,q1,hqw,k1,by unfold Wd.cX;rw [du,hlen],fun v hv h=>E1.E.sub _ (hrt v hv h),?_⟩,E1⟩;rw [hrw];exact List.map_congr_left fun v hv=>(dU (fun h=>E1.E.at_ _ (hrt v hv h))).symm
theorem aL.pre (R:aL O W φ) (hr:(O.ar.yng:Int)≤(O.ar.ws.length:Int)-O.ar.grn):∃ ψ N,Ps O W φ (mRoots O.ar O.rt).2 ((ig O).s,(ig O).c) (ig O).q (W.cX W.wait (W.first false)) W.wait ψ N:=by
 have hal:=b9.closed W.nd W.wait (fun k=>ax (W.first false) k=true);have C0:=Cu.start R;obtain ⟨S1,ψ1,N1,C1,E1,h1,h2,h3⟩:=Cu.roots R hr W.roots C0 R.hw.rv;rw [←R.rt] at C1 E1 h3;have hS1:∀ k,S1 k↔ax (W.first false) k=true:=fun k=>by
  rw [Wd.jy];constructor
  ·intro hk;have hl:=C1.sl k hk;refine ⟨hl.1,hl.2.1,?_⟩;rcases h1 k hk with h | h
   ·exact .inl ⟨h.2,hl.2.2,rfl⟩
   ·exact .inr h
  ·rintro ⟨h0,h4,h5 | h5⟩
   ·exact C1.so k ⟨h0,h4,h5.2.1⟩ h5.1
   ·exact h2 _ h5 rfl
 have H1:Sc O W φ (fun k=>b9 W.nd W.wait (fun k=>ax (W.first false) k=true) k) ⟨(mRoots O.ar O.rt).1,[],[]⟩ S1 ψ1 N1:=⟨C1,fun k hk=>b9.base ((hS1 k).1 hk),(by intro p hp;cases hp),(by intro p hp;cases hp)⟩;have hz:∀ p ∈ O.ar.aT.2, ∃ i,W.live i∧(W.th i).aP=true∧p=φ i:=fun p hp=>by
  have:=(R.pX.mem_iff (a:=p)).1 hp;obtain ⟨i,hi,rfl⟩:=List.mem_map.1 this;have:=Wd.c8.1 hi;exact ⟨i,this.1,this.2,rfl⟩
 obtain ⟨S2,ψ2,N2,H2,E2,k2⟩:=H1.zu R hr hal O.ar.aT.2 hz;have hn2:Sn O W (ef O.ar.nur O.cd ⟨(mRoots O.ar O.rt).1,[],[]⟩ O.ar.aT.2) S2 ψ2 N2 O.ar.grn:=
  ⟨⟨[],N2,rfl,rfl,(by intro i hi;cases hi)⟩,fun i hi ho=>k2 i hi ho (R.ino i hi ho)⟩
 have hq0:∀ (m:List (Int × Int)),fO φ ψ2 S2 (m.map (bq φ)) m:=fun m=>by
  induction m with
  | nil=>trivial
  | cons f m ih=>
   refine ⟨⟨?_, .inl ?_⟩,ih⟩
   ·rw [bI φ rfl];rfl
   ·rw [bI φ rfl];rfl
 have h3':=H2.C.sm.ok.h3;have h4':=H2.C.sm.ok.h4;have h5':=H2.C.sm.len;have hflen:(W.first false).length=W.T.length:=Wd.eK W false;obtain ⟨S3,ψ3,N3,H3,E3,n3,c3,q3,k3⟩:=H2.drain R hr hal R.hw.wv 2000 (d:=⟨ef O.ar.nur O.cd ⟨(mRoots O.ar O.rt).1,[],[]⟩ O.ar.aT.2,O.ar.grn,O.wt⟩) hn2 (Int.ofNat_le.2 (Nat.le_trans E1.grn E2.E.grn)) (by
  show fO φ ψ2 S2 O.wt W.wait
  rw [R.wt];exact hq0 _) (by show ((O.ar.ws.length:Int)-_).toNat<2000;omega)
 have e:S3=fun k=>ax (W.cX W.wait (W.first false)) k=true:=by
  funext k
  refine propext ⟨fun hk=>?_,fun hk=>?_⟩
  ·have hl:=H3.C.sl k hk;exact c6.2 ⟨hl.1,by rw [hflen];exact hl.2.1,H3.al k hk⟩
  ·exact (c6.1 hk).2.2.least (fun j hj=>E3.E.sub j (E2.E.sub j ((hS1 j).2 hj))) k3
 subst e;have jo:∀ k,S1 k→ψ3 k=ψ1 k:=fun k hk=>(E3.E.at_ k (E2.E.sub k hk)).trans (E2.E.at_ k hk);refine ⟨ψ3,N3,⟨H3.mq (fun k hk=>hk),n3,c3,q3,R.hw.wv,k3,by unfold Wd.cX;rw [du,hflen],fun v hv h=>E3.E.sub _ (E2.E.sub _ (h2 v hv h)),?_⟩⟩;rw [h3];exact List.map_congr_left fun v hv=>(dU (fun h=>jo _ (h2 v hv h))).symm
theorem Ps.ae (R:aL O W φ) (hr:(O.ar.yng:Int)≤(O.ar.ws.length:Int)-O.ar.grn) {rts:List Int} {t:Mt} {q:List (Int × Int)} {is:List Bool} (P:Ps O W φ rts t q is qw ψ N) {x g:Int} (hx:W.live x) (hg:W.live g) (hk:(W.th g).k=5) :
  ∃ ψ' N',Ps O W φ rts (gu t q (aD φ (3,x))).1 ((gu t q (aD φ (3,x))).2.1 ++ [(aD φ (3,g),(gu t q (aD φ (3,x))).2.2)]) (W.cX qw (is.set x.toNat true)) (qw ++ [(g,x)]) ψ' N':=by
 have okx:W.cI (3,x):=.inr (.inr (.inr ⟨rfl,hx⟩));obtain ⟨S1,ψ1,N1,C1,E1,h1,h2,h3,_⟩:=P.H.C.iC R hr okx (x:=aD φ (3,x)) (.inl rfl);have hS1:∀ k,S1 k↔ax (is.set x.toNat true) k=true:=fun k=>by
  rw [fM hx.1 (by rw [P.len];exact hx.2.1)];constructor
  ·intro hk;rcases h1 k hk with h | ⟨_,rfl⟩
   ·exact .inr h
   ·exact .inl rfl
  ·rintro (rfl | h)
   ·exact h3 rfl
   ·exact E1.sub k h
 obtain ⟨H1,SE1⟩:=(P.H.mq (Bl:=fun k=>b9 W.nd qw (fun k=>ax (is.set x.toNat true) k=true) k) (fun k hk=>b9.base ((hS1 k).1 (E1.sub k hk)))).zt C1 E1 (fun k hk=>b9.base ((hS1 k).1 hk));have hn1:=P.n.more P.H.C C1 SE1;have hq1:=P.q.mono E1;obtain ⟨ψ2,N2,P2,SE2⟩:=H1.qe (d:=⟨{ t.1 with A:=bF t.1.A (aD φ (3,x)) },t.2,q⟩) R hr P.ok (by rw [List.length_set];exact P.len) hS1 hn1 (by show t.2≤_;rw [P.c];exact Int.ofNat_le.2 E1.grn) hq1 (rts:=rts) (fun v hv h=>E1.sub _ (P.rt v hv h)) (by
  rw [P.rw_]
  exact List.map_congr_left fun v hv=>(dU (fun h=>E1.at_ _ (P.rt v hv h))).symm)
 have hxin:ax (W.cX qw (is.set x.toNat true)) x=true:=SE2.E.sub _ (h3 rfl);refine ⟨ψ2,N2,⟨P2.H,P2.n,P2.c,fO.app ⟨rfl,?_⟩ P2.q,fun e he=>?_,?_,P2.len,P2.rt,P2.rw_⟩⟩
 ·refine .inr ⟨fun _=>hxin,?_⟩
  show cR (bF t.1.A (aD φ (3,x))) (aD φ (3,x))=_
  rw [h2];exact (dU (fun h=>SE2.E.at_ _ (h3 rfl))).symm
 ·rcases List.mem_append.1 he with h | h
  ·exact P.ok e h
  ·rw [List.mem_singleton.1 h];exact ⟨hg,hk,hx⟩
 ·intro a b ha hl;by_cases hb:b=x
  ·subst hb;exact hxin
  ·refine P2.shut a b ha ?_;rcases hl with h | h | h | ⟨h,h'⟩
   ·exact .inl h
   ·exact .inr (.inl h)
   ·exact .inr (.inr (.inl h))
   ·refine .inr (.inr (.inr ⟨h,?_⟩));rcases List.mem_append.1 h' with h4 | h4
    ·exact h4
    ·simp at h4;exact absurd h4.2 hb
def cS (φ:Int→Int) (i:It):It:=(bq φ i.1,i.2)
theorem dC (φ:Int→Int) (e:Int × Int):bq φ e=(aD φ (3,e.1),aD φ (3,e.2)):=by
 rw [bI φ rfl,bI φ rfl];rfl
theorem Ps.alive (R:aL O W φ) {rts:List Int} {t:Mt} {q:List (Int × Int)} {is:List Bool} (P:Ps O W φ rts t q is qw ψ N) {x:Int} (hx:W.live x):bS t (aD φ (3,x))=ax is x:=by
 have:=P.H.C.alive R (v:=(3,x)) (x:=aD φ (3,x)) (.inr (.inr (.inr ⟨rfl,hx⟩))) (.inl rfl);simp only [forall_const] at this;rw [Bool.eq_iff_iff];exact this
theorem Ps.scan (R:aL O W φ) (hr:(O.ar.yng:Int)≤(O.ar.ws.length:Int)-O.ar.grn) {rts:List Int}:∀ (l:List It) {t:Mt} {q:List (Int × Int)} {is:List Bool} {qw:List (Int × Int)} {ψ:Int→Int} {N:List Int},Ps O W φ rts t q is qw ψ N→(∀ i ∈ l,W.dj i.1) →
  ∃ ψ' N',Ps O W φ rts (scanM bS gu t q (l.map (cS φ))).1 (scanM bS gu t q (l.map (cS φ))).2.1 (scanM ax W.bx is qw l).1 (scanM ax W.bx is qw l).2.1 ψ' N' ∧
   (scanM bS gu t q (l.map (cS φ))).2.2.1=(scanM ax W.bx is qw l).2.2.1.map (cS φ)∧(scanM bS gu t q (l.map (cS φ))).2.2.2=(scanM ax W.bx is qw l).2.2.2
 | [],t,q,is,qw,ψ,N,P,_=>⟨ψ,N,P,rfl,rfl⟩
 | i :: l,t,q,is,qw,ψ,N,P,hl=>by
  have hi:=hl i (by simp);have ea:bS t (cS φ i).1.1=ax is i.1.1:=by
   show bS t (bq φ i.1).1=_
   rw [dC];exact P.alive R hi.1
  simp only [List.map_cons,scanM];rw [ea];have e2:(cS φ i).2=i.2:=rfl;rw [e2];by_cases hc:(i.2.1 && !i.2.2 && ax is i.1.1)=true
  ·rw [if_pos hc,if_pos hc];obtain ⟨ψ1,N1,P1⟩:=P.ae R hr hi.2.2 hi.1 hi.2.1;have e3:(cS φ i).1.2=aD φ (3,i.1.2):=by show (bq φ i.1).2=_;rw [dC]
   have e4:(cS φ i).1.1=aD φ (3,i.1.1):=by show (bq φ i.1).1=_;rw [dC]
   rw [←e3,←e4] at P1;obtain ⟨ψ2,N2,P2,h1,h2⟩:=Ps.scan R hr l P1 (fun j hj=>hl j (by simp [hj]));refine ⟨ψ2,N2,P2,?_,rfl⟩;dsimp only;rw [h1];rfl
  ·rw [if_neg hc,if_neg hc];obtain ⟨ψ2,N2,P2,h1,h2⟩:=Ps.scan R hr l P (fun j hj=>hl j (by simp [hj]));refine ⟨ψ2,N2,P2,?_,h2⟩;dsimp only;rw [h1];rfl
theorem Ps.rounds (R:aL O W φ) (hr:(O.ar.yng:Int)≤(O.ar.ws.length:Int)-O.ar.grn) {rts:List Int}:∀ (n:Nat) (l:List It) {t:Mt} {q:List (Int × Int)} {is:List Bool} {qw:List (Int × Int)} {ψ:Int→Int} {N:List Int},Ps O W φ rts t q is qw ψ N→(∀ i ∈ l,W.dj i.1) →
  ∃ ψ' N',Ps O W φ rts (roundsM bS gu n t q (l.map (cS φ))).1 (roundsM bS gu n t q (l.map (cS φ))).2.1 (roundsM ax W.bx n is qw l).1 (roundsM ax W.bx n is qw l).2.1 ψ' N' ∧
   (roundsM bS gu n t q (l.map (cS φ))).2.2=(roundsM ax W.bx n is qw l).2.2.map (cS φ)
 | 0,l,t,q,is,qw,ψ,N,P,hl=>⟨ψ,N,P,rfl⟩
 | n+1,l,t,q,is,qw,ψ,N,P,hl=>by
  obtain ⟨ψ1,N1,P1,h1,h2⟩:=P.scan R hr l hl;have hl1:=me is qw hl;simp only [roundsM];rw [h2];by_cases hc:(scanM ax W.bx is qw l).2.2.2=true
  ·rw [if_pos hc,if_pos hc,h1];exact Ps.rounds R hr n _ P1 hl1
  ·rw [if_neg hc,if_neg hc];exact ⟨ψ1,N1,P1,h1⟩
theorem aL.A7 (R:aL O W φ) (hr:(O.ar.yng:Int)≤(O.ar.ws.length:Int)-O.ar.grn):∃ ψ N,Ps O W φ (mRoots O.ar O.rt).2 (bL O).1 (bL O).2.1 (W.pass false).1 (W.pass false).2.1 ψ N∧(bL O).2.2=(W.pass false).2.2.map (cS φ):=by
 obtain ⟨ψ0,N0,P0⟩:=R.pre hr;have e:bQ bS ((ig O).s,(ig O).c) O.rg=(bQ ax (W.cX W.wait (W.first false)) W.av).map (cS φ):=by
  unfold bQ;rw [R.rg,List.map_map,List.map_map];refine List.map_congr_left fun e he=>?_;have:=R.hw.gv e he
  show (bq φ e,!bS _ (bq φ e).2,false)=(bq φ e,!ax _ e.2,false)
  rw [show (bq φ e).2=aD φ (3,e.2) by rw [dC],P0.alive R this.2.2]
 have hlen:O.rg.length=W.av.length:=by rw [R.rg];simp
 unfold bL Wd.pass fJ;rw [e,hlen];exact P0.rounds R hr _ _ (fun i hi=>by
  simp only [bQ,List.mem_map] at hi;obtain ⟨e,he,rfl⟩:=hi
  exact R.hw.gv e he)
end
end
section
section
variable {O:Wo} {W:Wd} {φ ψ:Int→Int} {A B:Ar} {is:List Bool} {N:List Int} {qw:List (Int × Int)}
theorem Cu.vy {S:Int→Prop} (R:aL O W φ) (C:Cu O W φ A S ψ N) {v:Vl} (hok:W.cI v) (hs:v.1=3→S v.2):br (aD ψ v):=by
 have b3:=C.sm.ok.h3;have b4:=C.sm.ok.h4;unfold br;rcases hok with h | h | h | h
 ·have e:aD ψ v=2:=by simp [aD,h.1]
  rw [e];decide
 ·have e:aD ψ v=4*v.2:=by simp [aD,h.1]
  have:=h.2;unfold cA at this;rw [e];omega
 ·have e:aD ψ v=3:=by simp [aD,h.1]
  rw [e];decide
 ·rw [bI ψ h.1];have:=C.place R (hs h.1);omega
theorem jN:br 3:=by unfold br;decide
structure Gb (ψ:Int→Int) (is:List Bool) (A B:Ar):Prop where
 sm:Sm A B
 grn:B.grn=A.grn
 yl:∀ q,A.aG q=true→B.load q=A.load q
 hd:∀ k,ax is k=true→B.aj (ψ k)=A.aj (ψ k)
theorem Gb.alive (G:Gb ψ is A B) (x:Int):a9 B x=a9 A x:=by
 have hy:B.aG (x/4)=A.aG (x/4):=by unfold Ar.aG;rw [G.sm.yng]
 unfold a9;rw [hy];cases h:A.aG (x/4)
 ·simp
 ·rw [G.yl _ h]
theorem Gb.now (G:Gb ψ is A B) (x:Int):cR B x=cR A x:=by
 have hy:B.aG (x/4)=A.aG (x/4):=by unfold Ar.aG;rw [G.sm.yng]
 unfold cR;rw [hy];cases h:A.aG (x/4)
 ·simp
 ·rw [G.yl _ h]
theorem Gb.put (R:aL O W φ) (C:Cu O W φ A (fun k=>ax is k=true) ψ N) (G:Gb ψ is A B) {i:Int} (hi:ax is i=true) {j:Nat} (hj:j<(W.th i).fs.length) {x:Int} (hx:br x) :
  Gb ψ is A (B.store (ψ i+1+j) x)∧(B.store (ψ i+1+j) x).load (ψ i+1+j)=x ∧
  ∀ k,ax is k=true→∀ n,n<(W.th k).fs.length→(k≠i∨n≠j)→(B.store (ψ i+1+j) x).load (ψ k+1+n)=B.load (ψ k+1+n):=by
 have hB:=G.sm.ok;have hld:=fun q=>Ar.eF hB (ψ i+1+(j:Int)) q x;have hne:∀ q,q≠ψ i+1+j→(B.store (ψ i+1+j) x).load q=B.load q:=fun q hq=>by rw [hld,if_neg (fun h=>hq h.1)]
 have hpi:=C.place R hi;have b1:=C.sm.ok.h1;have huse:B.aS (ψ i+1+j)=true:=by
  have:=C.uI R hi (j:=1+(j:Int)) (by omega) (by omega);rw [←Int.add_assoc] at this;unfold Ar.aS Ar.aP at *;rw [G.grn,G.sm.nur,this];simp
 refine ⟨⟨G.sm.trans (Sm.store hB _ hx),by rw [Ar.dA];exact G.grn,fun q hq=>?_,fun k hk=>?_⟩,by rw [hld,if_pos ⟨rfl,huse⟩],fun k hk n hn hne'=>hne _ ?_⟩
 ·rw [hne q (by have:=bV.1 hq;omega)];exact G.yl q hq
 ·have:(B.store (ψ i+1+j) x).aj (ψ k)=B.aj (ψ k):=by
   refine cL (hne _ ?_);by_cases e:k=i
   ·subst e;omega
   ·have:=C.apart R hk hi e;omega
  rw [this];exact G.hd k hk
 ·by_cases e:k=i
  ·subst e;have:n≠j:=by rcases hne' with h | h;exact absurd rfl h;exact h
   omega
  ·have:=C.apart R hk hi e;omega
def lB (W:Wd) (is:List Bool) (i:Int):List Vl:=(dv is i.toNat (W.th i)).fs
def eM (W:Wd) (ψ:Int→Int) (is:List Bool) (B:Ar) (i:Int):Prop:=∀ (j:Nat) (v:Vl),(lB W is i)[j]? = some v→B.load (ψ i+1+j)=aD ψ v
def qS (W:Wd) (φ ψ:Int→Int) (is:List Bool) (B:Ar) (i:Int):Prop:=∀ (j:Nat) (v:Vl),(W.th i).fs[j]? = some v→kK φ ψ (fun k=>ax is k=true) (B.load (ψ i+1+j)) v
theorem ki {i:Int} (h0:0≤i) (hb:ax is i=true):lB W is i =
  if (W.th i).k=4∧bJ is ((W.th i).fs.getD 0 (0,0))=false then [(2,0),(2,0)] else if (W.th i).k=3∧bJ is ((W.th i).fs.getD 0 (0,0))=false then [(2,0),(W.th i).fs.getD 1 (0,0)] else (W.th i).fs:=by
 unfold lB dv;rw [if_pos (by rw [dN h0];exact hb)]
theorem dS {v:Vl}:bJ is v=true↔(v.1=3→ax is v.2=true):=by
 unfold bJ;by_cases h:v.1=3
 ·simp [h]
 ·simp [h]
theorem iK {α:Type} {l:List α} (h:l.length=2):∃ a b,l=[a,b]:=by
 match l,h with
 | [a,b],_=>exact ⟨a,b,rfl⟩
structure Gn (W:Wd) (φ ψ:Int→Int) (is:List Bool) (A B:Ar):Prop where
 G:Gb ψ is A B
 f:∀ i,ax is i=true→eM W ψ is B i∨((W.th i).k=3∧qS W φ ψ is B i∧∀ v,(W.th i).fs[1]? = some v→B.load (ψ i+2)=aD ψ v)∨((W.th i).k=4∧qS W φ ψ is B i)
theorem eM.congr {B':Ar} {i:Int} (hl:(lB W is i).length=(W.th i).fs.length) (h:∀ n,n<(W.th i).fs.length→B'.load (ψ i+1+n)=B.load (ψ i+1+n)) (hf:eM W ψ is B i):eM W ψ is B' i:=fun j v hv=>by
 have:=(List.getElem?_eq_some_iff.1 hv).1;rw [h j (by omega)];exact hf j v hv
theorem qS.congr {B':Ar} {i:Int} (h:∀ n,n<(W.th i).fs.length→B'.load (ψ i+1+n)=B.load (ψ i+1+n)) (hf:qS W φ ψ is B i):qS W φ ψ is B' i:=fun j v hv=>by
 rw [h j (List.getElem?_eq_some_iff.1 hv).1];exact hf j v hv
theorem pq (R:aL O W φ) (C:Cu O W φ A (fun k=>ax is k=true) ψ N) {i:Int} (hi:ax is i=true):(lB W is i).length=(W.th i).fs.length:=by
 have hl:=C.sl i hi;exact jz (by rw [dN hl.1];exact hi) (R.hw.tk i hl)
theorem Gn.other (R:aL O W φ) (C:Cu O W φ A (fun k=>ax is k=true) ψ N) (g:Gn W φ ψ is A B) {B':Ar} (G':Gb ψ is A B') {i:Int} (hfin:eM W ψ is B' i)
  (h:∀ k,ax is k=true→k≠i→∀ n,n<(W.th k).fs.length→B'.load (ψ k+1+n)=B.load (ψ k+1+n)):Gn W φ ψ is A B':=by
 refine ⟨G',fun k hk=>?_⟩;by_cases e:k=i
 ·subst e;exact .inl hfin
 ·rcases g.f k hk with h1 | ⟨h1,h2,h3⟩ | ⟨h1,h2⟩
  ·exact .inl (h1.congr (pq R C hk) (h k hk e))
  ·refine .inr (.inl ⟨h1,h2.congr (h k hk e),fun v hv=>?_⟩);have hh:=h k hk e 1 (List.getElem?_eq_some_iff.1 hv).1;rw [show ψ k+1+((1:Nat):Int)=ψ k+2 by omega] at hh;rw [hh];exact h3 v hv
  ·exact .inr (.inr ⟨h1,h2.congr (h k hk e)⟩)
theorem jA (ψ:Int→Int):aD ψ (2,0)=3:=rfl
theorem ny (B:Ar):cR B 3=3:=qd (by decide)
theorem lC (B:Ar):a9 B 3=true:=nu (by decide)
theorem Gn.key (R:aL O W φ) (C:Cu O W φ A (fun k=>ax is k=true) ψ N) (g:Gn W φ ψ is A B) {i:Int} (hi:ax is i=true) {v0 v1:Vl} (hk:(W.th i).k=3∨(W.th i).k=4) (hfs:(W.th i).fs=[v0,v1]) :
  (bJ is v0=true→a9 B (B.load (ψ i+1))=true∧cR B (B.load (ψ i+1))=aD ψ v0) ∧
  (bJ is v0=false→(eM W ψ is B i∧B.load (ψ i+1)=3)∨a9 B (B.load (ψ i+1))=false):=by
 have hl:=C.sl i hi;have ok0:=R.hw.tv i hl v0 (by rw [hfs];simp);have e0:ψ i+1+((0:Nat):Int)=ψ i+1:=by omega
 have hc:=ki (W:=W) hl.1 hi;rw [hfs] at hc;simp only [List.getD_cons_zero,List.getD_cons_succ] at hc;constructor
 ·intro hs;have hw:kK φ ψ (fun k=>ax is k=true) (B.load (ψ i+1)) v0:=by
   rw [if_neg (fun h=>by rw [hs] at h;cases h.2),if_neg (fun h=>by rw [hs] at h;cases h.2)] at hc;rcases g.f i hi with h | ⟨_,h,_⟩ | ⟨_,h⟩
   ·have:=h 0 v0 (by rw [hc];rfl);rw [e0] at this;exact .inr ⟨dS.1 hs,this⟩
   ·have:=h 0 v0 (by rw [hfs];rfl);rwa [e0] at this
   ·have:=h 0 v0 (by rw [hfs];rfl);rwa [e0] at this
  rw [g.G.alive,g.G.now];exact ⟨(C.alive R ok0 hw).2 (dS.1 hs),C.now R ok0 hw (dS.1 hs)⟩
 ·intro hs;have hn:¬ (v0.1=3→ax is v0.2=true):=fun h=>by rw [dS.2 h] at hs;cases hs
  have raw:qS W φ ψ is B i→a9 B (B.load (ψ i+1))=false:=fun h=>by
   have h1:=h 0 v0 (by rw [hfs];rfl);rw [e0] at h1;rw [g.G.alive];cases ha:a9 A (B.load (ψ i+1))
   ·rfl
   ·exact (hn ((C.alive R ok0 h1).1 ha)).elim
  rcases g.f i hi with h | ⟨_,h,_⟩ | ⟨_,h⟩
  ·refine .inl ⟨h,?_⟩;have h2:(lB W is i)[0]? = some (2,0):=by
    rw [hc];rcases hk with hk | hk
    ·rw [if_neg (fun h=>by omega),if_pos ⟨hk,hs⟩];rfl
    ·rw [if_pos ⟨hk,hs⟩];rfl
   have:=h 0 _ h2;rw [e0] at this;rw [this,jA]
  ·exact .inr (raw h)
  ·exact .inr (raw h)
theorem Gn.Cy (R:aL O W φ) (C:Cu O W φ A (fun k=>ax is k=true) ψ N) (g:Gn W φ ψ is A B) {i:Int} (hi:ax is i=true) (hk:(W.th i).k=3) :
  Gn W φ ψ is A (gC B (ψ i+1) (!a9 B (B.load (ψ i+1))))∧eM W ψ is (gC B (ψ i+1) (!a9 B (B.load (ψ i+1)))) i:=by
 have hl:=C.sl i hi;have h2:=Wd.two R.hw hl (.inl hk);obtain ⟨v0,v1,hfs⟩:=iK h2;have ok0:=R.hw.tv i hl v0 (by rw [hfs];simp);obtain ⟨k1,k2⟩:=g.key R C hi (.inl hk) hfs;have hc:=ki (W:=W) hl.1 hi;rw [hfs] at hc;simp only [List.getD_cons_zero,List.getD_cons_succ] at hc;rw [if_neg (fun h=>by omega)] at hc;have e0:ψ i+1+((0:Nat):Int)=ψ i+1:=by omega
 have e1:ψ i+1+((1:Nat):Int)=ψ i+2:=by omega
 have hval:∃ w,lB W is i=[w,v1]∧(if (!a9 B (B.load (ψ i+1)))=true then 3 else cR B (B.load (ψ i+1)))=aD ψ w∧br (aD ψ w):=by
  cases hs:bJ is v0
  ·rw [if_pos ⟨hk,hs⟩] at hc;refine ⟨(2,0),hc,?_,by rw [jA];exact jN⟩;rcases k2 hs with ⟨_,h⟩ | h
   ·rw [h,lC,ny];rfl
   ·rw [h];rfl
  ·rw [if_neg (fun h=>by rw [hs] at h;cases h.2)] at hc;obtain ⟨h1,h3⟩:=k1 hs;exact ⟨v0,hc,by rw [h1,h3];rfl,C.vy R ok0 (dS.1 hs)⟩
 obtain ⟨w,hcw,hv,hR⟩:=hval;have hB:gC B (ψ i+1) (!a9 B (B.load (ψ i+1)))=B.store (ψ i+1+((0:Nat):Int)) (aD ψ w):=by
  rw [e0];unfold gC;rw [hv]
 obtain ⟨G',a1,a2⟩:=g.G.put R C hi (j:=0) (by omega) hR;have hfin:eM W ψ is (gC B (ψ i+1) (!a9 B (B.load (ψ i+1)))) i:=by
  rw [hB];intro j v hv';rw [hcw] at hv'
  match j,hv' with
  | 0,hv'=>simp at hv';subst hv';exact a1
  | 1,hv'=>
   simp at hv';subst hv';rw [a2 i hi 1 (by omega) (.inr (by decide)),e1];rcases g.f i hi with h | ⟨_,_,h⟩ | ⟨h,_⟩
   ·have:=h 1 v1 (by rw [hcw];rfl);rwa [e1] at this
   ·exact h v1 (by rw [hfs];rfl)
   ·omega
 refine ⟨?_,hfin⟩;rw [hB] at hfin ⊢;exact g.other R C G' hfin (fun k hk' hne n hn=>a2 k hk' n hn (.inl hne))
theorem Gn.p8 (R:aL O W φ) (C:Cu O W φ A (fun k=>ax is k=true) ψ N) (hcl:cC W.nd qw fun k=>ax is k=true) (g:Gn W φ ψ is A B) {i:Int} (hi:ax is i=true) (hk:(W.th i).k=4) :
  Gn W φ ψ is A (cW B (ψ i))∧eM W ψ is (cW B (ψ i)) i:=by
 have hl:=C.sl i hi;have h2:=Wd.two R.hw hl (.inr (.inl hk));obtain ⟨v0,v1,hfs⟩:=iK h2;have ok0:=R.hw.tv i hl v0 (by rw [hfs];simp);have ok1:=R.hw.tv i hl v1 (by rw [hfs];simp);obtain ⟨k1,k2⟩:=g.key R C hi (.inr hk) hfs;have hc:=ki (W:=W) hl.1 hi;rw [hfs] at hc;simp only [List.getD_cons_zero,List.getD_cons_succ] at hc;have e0:ψ i+1+((0:Nat):Int)=ψ i+1:=by omega
 have e1:ψ i+1+((1:Nat):Int)=ψ i+2:=by omega
 obtain ⟨dd,hd⟩:∃ d,(!a9 B (B.load (ψ i+1)))=d:=⟨_,rfl⟩;have hval:∃ w0 w1,lB W is i=[w0,w1]∧(if dd=true then 3 else cR B (B.load (ψ i+1)))=aD ψ w0∧br (aD ψ w0)∧(if dd=true then 3 else cR B (B.load (ψ i+2)))=aD ψ w1∧br (aD ψ w1):=by
  cases hs:bJ is v0
  ·rw [if_pos ⟨hk,hs⟩] at hc;refine ⟨(2,0),(2,0),hc,?_,by rw [jA];exact jN,?_,by rw [jA];exact jN⟩
   ·rcases k2 hs with ⟨_,h⟩ | h
    ·rw [←hd,h,lC,ny];rfl
    ·rw [←hd,h];rfl
   ·rcases k2 hs with ⟨hf,h⟩ | h
    ·have:=hf 1 (2,0) (by rw [hc];rfl);rw [e1,jA] at this;rw [←hd,h,lC,this,ny];rfl
    ·rw [←hd,h];rfl
  ·rw [if_neg (fun h=>by rw [hs] at h;cases h.2),if_neg (fun h=>by omega)] at hc;obtain ⟨h1,h3⟩:=k1 hs;have hs1:v1.1=3→ax is v1.2=true:=fun h3=>hcl i v1.2 hi (.inr (.inr (.inl ⟨hk,by
    show (W.th i).fs[1]? = _
    rw [hfs];show some v1=_;congr 1;exact Prod.ext h3 rfl,fun v hv h=>by
    have hv':(W.th i).fs[0]? = some v:=hv;rw [hfs] at hv';have:v0=v:=by simpa using hv'
    subst this;exact dS.1 hs h⟩)))
   have hw1:kK φ ψ (fun k=>ax is k=true) (B.load (ψ i+2)) v1:=by
    rcases g.f i hi with h | ⟨h,_,_⟩ | ⟨_,h⟩
    ·have:=h 1 v1 (by rw [hc];rfl);rw [e1] at this;exact .inr ⟨hs1,this⟩
    ·omega
    ·have:=h 1 v1 (by rw [hfs];rfl);rwa [e1] at this
   refine ⟨v0,v1,hc,by rw [←hd,h1,h3];rfl,C.vy R ok0 (dS.1 hs),?_,C.vy R ok1 hs1⟩;rw [←hd,h1]
   show cR B (B.load (ψ i+2))=_
   rw [g.G.now];exact C.now R ok1 hw1 hs1
 obtain ⟨w0,w1,hcw,hv0,hR0,hv1,hR1⟩:=hval;obtain ⟨G1,a1,a2⟩:=g.G.put R C hi (j:=0) (by omega) hR0;have hld:(B.store (ψ i+1+((0:Nat):Int)) (aD ψ w0)).load (ψ i+2)=B.load (ψ i+2):=by
  have:=a2 i hi 1 (by omega) (.inr (by decide));rwa [e1] at this
 obtain ⟨G2,b1,b2⟩:=G1.put R C hi (j:=1) (by omega) hR1;have hB:cW B (ψ i)=(B.store (ψ i+1+((0:Nat):Int)) (aD ψ w0)).store (ψ i+1+((1:Nat):Int)) (aD ψ w1):=by
  unfold cW;rw [hd];have e2:gC B (ψ i+1) dd=B.store (ψ i+1+((0:Nat):Int)) (aD ψ w0):=by rw [e0];unfold gC;rw [hv0]
  rw [e2];unfold gC;rw [hld,e1,G1.now,←g.G.now,hv1]
 have hfin:eM W ψ is (cW B (ψ i)) i:=by
  rw [hB];intro j v hv';rw [hcw] at hv'
  match j,hv' with
  | 0,hv'=>simp at hv';subst hv';rw [b2 i hi 0 (by omega) (.inr (by decide))];exact a1
  | 1,hv'=>simp at hv';subst hv';exact b1
 refine ⟨?_,hfin⟩;rw [hB] at hfin ⊢;refine g.other R C G2 hfin (fun k hk' hne n hn=>?_);rw [b2 k hk' n hn (.inl hne),a2 k hk' n hn (.inl hne)]
theorem Gn.zv (R:aL O W φ) (C:Cu O W φ A (fun k=>ax is k=true) ψ N):∀ (l:List Int) {B:Ar},Gn W φ ψ is A B→(∀ p ∈ l, ∃ i,ax is i=true∧(W.th i).k=3∧p=ψ i) →
  Gn W φ ψ is A (fq B l)∧(∀ i,ax is i=true→eM W ψ is B i→eM W ψ is (fq B l) i)∧∀ i,ax is i=true→ψ i ∈ l→eM W ψ is (fq B l) i
 | [],B,g,_=>⟨g,fun _ _ h=>h,fun _ _ h=>by cases h⟩
 | p :: l,B,g,hl=>by
  obtain ⟨i,hi,hk,rfl⟩:=hl p (by simp);obtain ⟨g1,f1⟩:=g.Cy R C hi hk;obtain ⟨g2,f2,f3⟩:=Gn.zv R C l g1 (fun p hp=>hl p (by simp [hp]));have e:fq B (ψ i :: l)=fq (gC B (ψ i+1) (!a9 B (B.load (ψ i+1)))) l:=rfl;rw [e];have ae:∀ k,ax is k=true→eM W ψ is B k→eM W ψ is (gC B (ψ i+1) (!a9 B (B.load (ψ i+1)))) k:=fun k hk' hf=>by
   by_cases ek:k=i
   ·subst ek;exact f1
   ·refine hf.congr (pq R C hk') (fun n hn=>?_);unfold gC;have:=C.apart R hk' hi ek;have hn2:=Wd.two R.hw (C.sl i hi) (.inl hk);rw [Ar.eF g.G.sm.ok,if_neg (fun h=>by omega)]
  refine ⟨g2,fun k hk' hf=>f2 k hk' (ae k hk' hf),fun k hk' hm=>?_⟩;rcases List.mem_cons.1 hm with h | h
  ·have:=C.inj R hk' hi h;subst this;exact f2 k hk' f1
  ·exact f3 k hk' h
theorem Gn.mr (R:aL O W φ) (C:Cu O W φ A (fun k=>ax is k=true) ψ N) (hcl:cC W.nd qw fun k=>ax is k=true):∀ (l:List Int) {B:Ar},Gn W φ ψ is A B→(∀ p ∈ l, ∃ i,ax is i=true∧(W.th i).k=4∧p=ψ i) →
  Gn W φ ψ is A (l.foldl cW B)∧(∀ i,ax is i=true→eM W ψ is B i→eM W ψ is (l.foldl cW B) i)∧∀ i,ax is i=true→ψ i ∈ l→eM W ψ is (l.foldl cW B) i
 | [],B,g,_=>⟨g,fun _ _ h=>h,fun _ _ h=>by cases h⟩
 | p :: l,B,g,hl=>by
  obtain ⟨i,hi,hk,rfl⟩:=hl p (by simp);obtain ⟨g1,f1⟩:=g.p8 R C hcl hi hk;obtain ⟨g2,f2,f3⟩:=Gn.mr R C hcl l g1 (fun p hp=>hl p (by simp [hp]));have e:(ψ i :: l).foldl cW B=l.foldl cW (cW B (ψ i)):=rfl;rw [e];have ae:∀ k,ax is k=true→eM W ψ is B k→eM W ψ is (cW B (ψ i)) k:=fun k hk' hf=>by
   by_cases ek:k=i
   ·subst ek;exact f1
   ·refine hf.congr (pq R C hk') (fun n hn=>?_);unfold cW gC;have:=C.apart R hk' hi ek;have hn2:=Wd.two R.hw (C.sl i hi) (.inr (.inl hk));have hok1:(B.store (ψ i+1) (if (!a9 B (B.load (ψ i+1)))=true then 3 else cR B (B.load (ψ i+1)))).ok:=by
     refine g.G.sm.ok.store _ _ ?_;split
     ·exact jN
     ·exact gR (g.G.sm.ok.load _)
    rw [Ar.eF hok1,if_neg (fun h=>by omega),Ar.eF g.G.sm.ok,if_neg (fun h=>by omega)]
  refine ⟨g2,fun k hk' hf=>f2 k hk' (ae k hk' hf),fun k hk' hm=>?_⟩;rcases List.mem_cons.1 hm with h | h
  ·have:=C.inj R hk' hi h;subst this;exact f2 k hk' f1
  ·exact f3 k hk' h
theorem Ps.gone (R:aL O W φ) {rts:List Int} {t:Mt} {q:List (Int × Int)} (P:Ps O W φ rts t q is qw ψ N):Gb ψ is t.1.A (jF t.1)∧∀ i,ax is i=true→eM W ψ is (jF t.1) i:=by
 have C:=P.H.C;have start:Gn W φ ψ is t.1.A t.1.A∧∀ i,ax is i=true→eM W ψ is t.1.A i∨((W.th i).k=3∧ψ i ∈ t.1.wk)∨((W.th i).k=4∧ψ i ∈ t.1.ep):=by
  have main:∀ i,ax is i=true→eM W ψ is t.1.A i∨((W.th i).k=3∧ψ i ∈ t.1.wk∧∀ v,(W.th i).fs[1]? = some v→t.1.A.load (ψ i+2)=aD ψ v)∨((W.th i).k=4∧ψ i ∈ t.1.ep):=by
   intro i hi;have hl:=C.sl i hi;have all:gS W t.1 (fun k=>ax is k=true) ψ i∨Clean W i:=by
    cases ho:(W.th i).aP
    ·exact .inl (P.n.all R C P.c i ((C.nm i).2 ⟨hi,ho⟩))
    ·exact P.n.aP i hl ho
   rcases all with h | h
   ·by_cases k3:(W.th i).k=3
    ·refine .inr (.inl ⟨k3,(h.2.1 k3).1,fun v hv=>?_⟩);have:=((h.2.1 k3).2 v hv).2;rwa [show ψ i+1+((1:Nat):Int)=ψ i+2 by omega] at this
    ·by_cases k4:(W.th i).k=4
     ·exact .inr (.inr ⟨k4,h.2.2 k4⟩)
     ·left;intro j v hv;rw [ki hl.1 hi,if_neg (fun h=>k4 h.1),if_neg (fun h=>k3 h.1)] at hv;by_cases k12:(W.th i).k=1∨(W.th i).k=2
      ·exact (h.1 k12 j v hv).2
      ·exfalso;have hf:=R.hw.tk i hl;have hs:=bP hf;have k5:(W.th i).k=5:=by omega
       rw [k5] at hf;simp [bs] at hf;have:=(List.getElem?_eq_some_iff.1 hv).1;simp [hf] at this
   ·left;intro j v hv;have all:∀ v ∈ (W.th i).fs,bJ is v=true:=fun v hv=>dS.2 fun h3=>C.so _ (Wd.bh (R.hw.tv i hl v hv) h3) (h.2 v hv h3);have h0:(W.th i).k=3∨(W.th i).k=4→bJ is ((W.th i).fs.getD 0 (0,0))=true:=fun hk=>by
     obtain ⟨a,b,e⟩:=iK (Wd.two R.hw hl (by rcases hk with h | h;exact .inl h;exact .inr (.inl h)));rw [e];exact all a (by rw [e];simp)
    rw [ki hl.1 hi,if_neg (fun h=>by rw [h0 (.inr h.1)] at h;cases h.2),if_neg (fun h=>by rw [h0 (.inl h.1)] at h;cases h.2)] at hv;have hm:=List.mem_of_getElem? hv;rcases C.fd i hi j v hv with e | ⟨_,e⟩
    ·rw [e];exact (dU (fun h3=>C.po _ (Wd.bh (R.hw.tv i hl v hm) h3) (h.2 v hm h3))).symm
    ·exact e
  refine ⟨⟨⟨Sm.refl C.sm.ok,rfl,fun _ _=>rfl,fun _ _=>rfl⟩,fun i hi=>?_⟩,fun i hi=>?_⟩
  ·rcases main i hi with h | ⟨h,_,h'⟩ | ⟨h,_⟩
   ·exact .inl h
   ·exact .inr (.inl ⟨h,C.fd i hi,h'⟩)
   ·exact .inr (.inr ⟨h,C.fd i hi⟩)
  ·rcases main i hi with h | ⟨h,h',_⟩ | h
   ·exact .inl h
   ·exact .inr (.inl ⟨h,h'⟩)
   ·exact .inr (.inr h)
 obtain ⟨g0,f0⟩:=start;obtain ⟨g1,f1,f2⟩:=g0.zv R C t.1.wk P.H.wk;obtain ⟨g2,f3,f4⟩:=g1.mr R C P.shut t.1.ep P.H.ep;refine ⟨g2.G,fun i hi=>?_⟩;rcases f0 i hi with h | ⟨_,h⟩ | ⟨_,h⟩
 ·exact f3 i hi (f1 i hi h)
 ·exact f3 i hi (f2 i hi h)
 ·exact f4 i hi h
end
end
section
section
variable {O:Wo} {W:Wd} {φ ψ:Int→Int} {A B:Ar} {is:List Bool} {N:List Int} {qw:List (Int × Int)}
theorem zZ (h:W.ok) (hl:∀ i,ax is i=true→W.live i):eU is W.T≤W.aG+W.cH:=by
 have e:eU is W.T=((((List.range W.T.length).map (Int.ofNat ·)).filter fun i=>ax is i).map fun i=>(W.th i).words).sum:=by
  rw [ji];unfold eU;congr 1;apply List.ext_getElem
  ·simp
  ·intro k h1 h2;simp only [List.length_mapIdx] at h1;simp only [List.getElem_mapIdx,List.getElem_map,List.getElem_range];have e1:W.th (Int.ofNat k)=W.T[k]:=by
    unfold Wd.th;rw [Ld,show (Int.ofNat k).toNat=k from rfl,Le h1];rfl
   have e2:ax is (Int.ofNat k)=is.getD k false:=eV is k;rw [e1,e2]
 have hnd:(((List.range W.T.length).map (Int.ofNat ·)).filter fun i=>ax is i).Nodup:=(jh _).filter _;have h1:=n9 (f:=fun i=>(W.th i).words) (fun i=>by unfold Th.words;omega) hnd (m:=W.idx false ++ W.idx true) (by
  intro i hi;have hb:=(List.mem_filter.1 hi).2;have hlv:=hl i (by simpa using hb);rw [List.mem_append];cases ho:(W.th i).aP
  ·exact .inl (Wd.c8.2 ⟨hlv,ho⟩)
  ·exact .inr (Wd.c8.2 ⟨hlv,ho⟩))
 rw [List.map_append,List.sum_append,Wd.kh,Wd.kh] at h1;have e1:(de W.T fun t=>!t.dead && (t.aP == false))=W.aG:=by unfold Wd.aG;congr 1;funext t;cases t.aP <;> rfl
 have e2:(de W.T fun t=>!t.dead && (t.aP == true))=W.cH:=by unfold Wd.cH;congr 1;funext t;cases t.aP <;> rfl
 rw [e1,e2] at h1;rw [e];exact h1
theorem qg (A:Ar) {q:Int} (h:A.aP q=true):A.clear.load q=A.load q:=by
 have h1:A.aS q=true:=by unfold Ar.aS;rw [h];simp
 have h2:A.clear.aS q=true:=by
  unfold Ar.aS;rw [Bool.or_eq_true];right;exact h
 unfold Ar.load;rw [if_pos h1,if_pos h2];rfl
theorem Wd.wS (W:Wd) (h:¬ W.aG > W.grow-W.cH) (h2:¬ eU (W.pass false).1 W.T > W.grow):W.cut false=(0,W.after false):=by
 unfold Wd.cut;rw [if_neg (fun h'=>h h'.2),if_neg h2]
theorem aL.minor (R:aL O W φ):(gQ O).1=(W.cut false).1∧∃ ψ,aL (gQ O).2 (W.cut false).2 ψ:=by
 have hsy:=R.sy;have hso:=R.so;have hnur:=R.nur;have hlen:=R.len;by_cases hfull:(O.ar.yng:Int) > (O.ar.ws.length:Int)-O.ar.grn
 ·have e1:gQ O=(3,O):=by unfold gQ;rw [if_pos hfull]
  have e2:W.cut false=(3,W):=by unfold Wd.cut;rw [if_pos ⟨rfl,by omega⟩]
  rw [e1,e2];exact ⟨rfl,φ,R⟩
 ·have hr:(O.ar.yng:Int)≤(O.ar.ws.length:Int)-O.ar.grn:=by omega
  obtain ⟨m,hfst,hcnt,hits⟩:=Wd.iH R.hw false;have hsum:=zZ R.hw m.live;have e2:W.cut false=(0,W.after false):=W.wS (by omega) (by omega);have e1:gQ O=(0,⟨(jF (bL O).1.1).clear,O.cd.map fun _=>false,(mRoots O.ar O.rt).2,bz bS eO (bL O).1 (bL O).2.2,bC bS eO (bL O).1 (bL O).2.1⟩):=by unfold gQ;rw [if_neg hfull]
  rw [e1,e2];obtain ⟨ψ,N,P,hI⟩:=R.A7 hr;obtain ⟨G,F⟩:=P.gone R;have C:=P.H.C;refine ⟨rfl,ψ,?_⟩;have hokA:=R.hw.after (major:=false) (by omega);obtain ⟨B,hB⟩:∃ B,jF (bL O).1.1=B:=⟨_,rfl⟩;rw [hB] at G F ⊢;have okB:=G.sm.ok;have lv:∀ {i},(W.after false).live i↔ax (W.pass false).1 i=true:=Wd.i7 R.hw;have tha:∀ {i},ax (W.pass false).1 i=true→(W.after false).th i=dv (W.pass false).1 i.toNat (W.th i):=fun hi=>Wd.iI (m.live _ hi).1 (m.live _ hi).2.1;have olda:∀ {i},ax (W.pass false).1 i=true→((W.after false).th i).aP=true:=fun hi=>by
   rw [tha hi,(kX (by rw [dN (m.live _ hi).1];exact hi)).2]
  have pl:∀ {i},ax (W.pass false).1 i=true→_:=fun {i} hi=>C.place R (i:=i) hi;have oldB:∀ {i},ax (W.pass false).1 i=true→∀ j:Int,0≤j→j≤(W.th i).fs.length→B.aP (ψ i+j)=true:=fun hi j h0 h1=>by
   have:=C.uI R hi h0 h1;unfold Ar.aP at *;rw [G.sm.nur,G.grn];exact this
  have thB:∀ {i},ax (W.pass false).1 i=true→B.clear.aj (ψ i)=((W.th i).k,((W.th i).fs.length:Int),0):=fun {i} hi=>by
   have h1:=oldB hi 0 (by omega) (by omega);rw [Int.add_zero] at h1;rw [cL (qg B h1),G.hd i hi];exact C.th i hi
  have hgr:((O.ar.grn:Nat):Int)≤B.grn:=by rw [G.grn];exact Int.ofNat_le.2 C.sm.grn
  have tz:Tile B.clear (O.ar.aT.2 ++ N.map ψ) B.clear.nur B.clear.grn:=by
   refine Tile.app (b:=O.ar.grn) ?_ ?_
   ·have hn:B.clear.nur=O.ar.nur:=(G.sm.nur).trans C.sm.nur;rw [hn];refine Tile.congr (fun p hp=>?_) R.tz;have:=(R.pX.mem_iff (a:=p)).1 hp;obtain ⟨i,hi,rfl⟩:=List.mem_map.1 this;obtain ⟨hl,ho⟩:=Wd.c8.1 hi;have hb:=C.so i hl ho;have:=thB hb;rw [C.po i hl ho] at this;rw [this,R.th i hl]
   ·have hg:B.clear.grn=(bL O).1.1.A.grn:=G.grn;rw [hg];refine Tile.congr (fun p hp=>?_) C.iJ;obtain ⟨i,hi,rfl⟩:=List.mem_map.1 hp;have hb:=((C.nm i).1 hi).1;rw [thB hb,C.th i hb]
  have ty:Tile B.clear [] 0 B.clear.yng:=rfl;have hokC:B.clear.ok:=okB.clear;have hth:=Tile.aT hokC ty tz;have itx:∀ i ∈ (W.pass false).2.2,W.dj i.1∧(i.2.1=false→ax (W.pass false).1 i.1.2=true):=by
   intro i hi;have h1:(i.1,i.2.1) ∈ (W.pass false).2.2.map (fun i=>(i.1,i.2.1)):=List.mem_map.2 ⟨i,hi,rfl⟩;rw [hits] at h1;obtain ⟨e,he',e2⟩:=List.mem_map.1 h1;have e3:e=i.1:=congrArg (fun p:(Int × Int) × Bool=>p.1) e2;have e4:(!ax (W.cX W.wait (W.first false)) e.2)=i.2.1:=congrArg (fun p:(Int × Int) × Bool=>p.2) e2;have hgv:=R.hw.gv e he';rw [e3] at hgv e4;exact ⟨hgv,fun hd=>hfst _ (by rw [hd] at e4;simpa using e4)⟩
  have nowP:∀ {x:Int} {y:Int},ax (W.pass false).1 x=true→kK φ ψ (fun k=>ax (W.pass false).1 k=true) y (3,x)→eO (bL O).1 y=4*ψ x+1:=fun {x y} hx hw=>by
   have:=C.now R (v:=(3,x)) (.inr (.inr (.inr ⟨rfl,m.live x hx⟩))) hw (fun _=>hx);unfold eO;rw [this,bI ψ rfl]
  have hrg:bz bS eO (bL O).1 (bL O).2.2=(W.after false).av.map (bq ψ):=by
   rw [hI]
   show bz bS eO (bL O).1 _=(bz ax eR (W.pass false).1 (W.pass false).2.2).map (bq ψ)
   generalize (W.pass false).2.2=l at itx;unfold bz
   induction l with
   | nil=>rfl
   | cons i l ih=>
    have hi:=itx i (by simp);have ih:=ih (fun j hj=>itx j (by simp [hj]));have ea:bS (bL O).1 (cS φ i).1.1=ax (W.pass false).1 i.1.1:=by
     show bS _ (bq φ i.1).1=_
     rw [dC];exact P.alive R hi.1.1
    simp only [List.map_cons,List.filter_cons,ea];have e2:(cS φ i).2=i.2:=rfl;rw [e2];by_cases hc:(!i.2.1 && ax (W.pass false).1 i.1.1)=true
    ·rw [if_pos hc,if_pos hc];simp only [List.map_cons];simp only [Bool.and_eq_true,Bool.not_eq_true'] at hc;have n1:=nowP hc.2 (y:=(cS φ i).1.1) (.inl (by show (bq φ i.1).1=_;rw [dC]));have n2:=nowP (hi.2 hc.1) (y:=(cS φ i).1.2) (.inl (by show (bq φ i.1).2=_;rw [dC]));rw [ih,n1,n2];rfl
    ·rw [if_neg hc,if_neg hc];exact ih
  have hwt:bC bS eO (bL O).1 (bL O).2.1=(W.after false).wait.map (bq ψ):=by
   show _=(bC ax eR (W.pass false).1 (W.pass false).2.1).map (bq ψ)
   have hq:=P.q;have hok:=P.ok;have hsh:∀ f ∈ (W.pass false).2.1,ax (W.pass false).1 f.1=true→ax (W.pass false).1 f.2=true:=fun f hf h=>P.shut f.1 f.2 h (.inr (.inr (.inr ⟨(hok f hf).2.1,hf⟩)));clear hcnt
   revert hq hok hsh
   generalize (bL O).2.1=l;generalize (W.pass false).2.1=mm;unfold bC
   induction l generalizing mm with
   | nil=>
    intro hq _ _;cases mm with
    | nil=>rfl
    | cons f mm=>exact hq.elim
   | cons e l ih=>
    intro hq hok hsh;cases mm with
    | nil=>exact hq.elim
    | cons f mm=>
     have ih:=ih mm hq.2 (fun g hg=>hok g (by simp [hg])) (fun g hg=>hsh g (by simp [hg]));have hf:=hok f (by simp);have ea:bS (bL O).1 e.1=ax (W.pass false).1 f.1:=by rw [hq.1.1];exact P.alive R hf.1
     simp only [List.filter_cons,ea];by_cases hc:ax (W.pass false).1 f.1=true
     ·rw [if_pos hc,if_pos hc];simp only [List.map_cons];rw [ih,nowP hc (.inl hq.1.1),nowP (hsh f (by simp) hc) hq.1.2];rfl
     ·rw [if_neg hc,if_neg hc];exact ih
  have hR64:∀ {i},ax (W.pass false).1 i=true→br (4*ψ i+1):=fun hi=>by
   have:=pl hi;have h3:=C.sm.ok.h3;have h4:=C.sm.ok.h4;unfold br;omega
  have hE64:∀ e,(W.after false).dj e→qK (bq ψ e):=fun e he=>⟨hR64 (lv.1 he.1),hR64 (lv.1 he.2.2)⟩;refine ⟨⟨hokC,?_,fun x hx=>?_,fun e he=>?_,fun e he=>?_,?_,by simpa using R.ho.hc⟩,hokA,by rw [hth];exact ty,by rw [hth];exact tz,fun i j hi hj e=>C.inj R (lv.1 hi) (lv.1 hj) e,fun p hp=>?_,fun i hi ho=>?_,fun i hi ho=>?_,fun i hi=>?_,fun i hi j v hv=>?_,
   P.rw_,hrg,hwt,?_,?_,by rw [List.length_map];exact R.cl,fun i hi ho v hv h3 hy=>?_⟩
  ·show (mRoots O.ar O.rt).2.length=12
   rw [P.rw_];simpa using R.hw.hr
  ·have hx':x ∈ (mRoots O.ar O.rt).2:=hx;rw [P.rw_] at hx';obtain ⟨v,hv,rfl⟩:=List.mem_map.1 hx';exact C.vy R (R.hw.rv v hv) (P.rt v hv)
  ·have he':e ∈ bz bS eO (bL O).1 (bL O).2.2:=he;rw [hrg] at he';obtain ⟨f,hf,rfl⟩:=List.mem_map.1 he';exact hE64 f (hokA.gv f hf)
  ·have he':e ∈ bC bS eO (bL O).1 (bL O).2.1:=he;rw [hwt] at he';obtain ⟨f,hf,rfl⟩:=List.mem_map.1 he';exact hE64 f (hokA.wv f hf)
  ·show (bz bS eO (bL O).1 (bL O).2.2).length+(bC bS eO (bL O).1 (bL O).2.1).length≤24
   rw [hrg,hwt,List.length_map,List.length_map];exact hokA.hq
  ·have hp':p ∈ B.clear.aT.1∨p ∈ B.clear.aT.2:=hp;rw [hth] at hp';dsimp only at hp';rcases hp' with h | h
   ·cases h
   ·rcases List.mem_append.1 h with h | h
    ·obtain ⟨i,hi,rfl⟩:=List.mem_map.1 ((R.pX.mem_iff (a:=p)).1 h);obtain ⟨hl,ho⟩:=Wd.c8.1 hi;exact ⟨i,lv.2 (C.so i hl ho),C.po i hl ho⟩
    ·obtain ⟨i,hi,rfl⟩:=List.mem_map.1 h;exact ⟨i,lv.2 ((C.nm i).1 hi).1,rfl⟩
  ·rw [olda (lv.1 hi)] at ho;cases ho
  ·show ψ i ∈ B.clear.aT.2
   rw [hth];have hb:=lv.1 hi;dsimp only;rw [List.mem_append];cases ho':(W.th i).aP
   ·exact .inr (List.mem_map.2 ⟨i,(C.nm i).2 ⟨hb,ho'⟩,rfl⟩)
   ·left;have hl:=m.live i hb;rw [C.po i hl ho'];exact R.ino i hl ho'
  ·have hb:=lv.1 hi;have hl:=m.live i hb
   show B.clear.aj (ψ i)=_
   rw [thB hb,tha hb,kW,jz (by rw [dN hl.1];exact hb) (R.hw.tk i hl)]
  ·have hb:=lv.1 hi;have hl:=m.live i hb;rw [tha hb] at hv
   show B.clear.load _=_
   have hj:j<(W.th i).fs.length:=by
    have:=(List.getElem?_eq_some_iff.1 hv).1;rwa [jz (by rw [dN hl.1];exact hb) (R.hw.tk i hl)] at this
   rw [qg B (by rw [Int.add_assoc];exact oldB hb _ (by omega) (by omega))];exact F i hb j v hv
  ·show (B.nur:Int)=W.most
   rw [G.sm.nur,C.sm.nur];exact R.nur
  ·show (B.ws.length:Int)=W.most+W.grow
   rw [G.sm.len,C.sm.len];exact R.len
  ·have hl3:(W.after false).live v.2:=Wd.bh (hokA.tv i hi v hv) h3;rw [olda (lv.1 hl3)] at hy;cases hy
end
end
section
theorem tT {α β:Type} (f:Nat→α→β) (l:List α) (a:α):(l ++ [a]).mapIdx f=l.mapIdx f ++ [f l.length a]:=by
 simp [List.mapIdx_append]
def jS (is:List Bool) (l:List Th) (k:Nat):Int:=eU is (l.take k)
theorem rz {is:List Bool} {l:List Th} {k:Nat} (h:k<l.length):jS is l (k+1)=jS is l k+(if is.getD k false then (l.getD k Th.none).words else 0):=by
 unfold jS eU;rw [←List.take_append_getElem h,tT,List.sum_append,List.length_take,Nat.min_eq_left (by omega),Ld (l:=l),Le h];simp
theorem rA (is:List Bool) (l:List Th):jS is l 0=0:=by simp [jS,eU]
theorem sH (is:List Bool) (l:List Th):jS is l l.length=eU is l:=by simp [jS]
theorem oa {W:Wd} (h:W.ok) {is:List Bool} (hl:∀ i,ax is i=true→W.live i):∀ k:Nat,k≤W.T.length→0≤jS is W.T k∧jS is W.T k≤13*k
 | 0,_=>by rw [rA];omega
 | k+1,hk=>by
  have ih:=oa h hl k (by omega);rw [rz (by omega)];split
  ·rename_i hb;have hlv:=hl (k:Int) (by rw [eV];exact hb);have hf:=bP (h.tk _ hlv);have e:W.th (k:Int)=W.T.getD k Th.none:=by unfold Wd.th;rw [Int.toNat_natCast]
   rw [e] at hf;unfold Th.words;omega
  ·omega
theorem Wd.yv {W:Wd} (h:W.ok) {q:List (Int × Int)} (hq:∀ e ∈ q,W.dj e) {is:List Bool} (hl:∀ i,ax is i=true→W.live i):∀ i,ax (W.cX q is) i=true→W.live i:=fun i hi=>
 (c6.1 hi).2.2.least hl (Wd.iT h hq)
theorem Wd.vz (W:Wd) (q:List (Int × Int)) (is:List Bool):(W.cX q is).length=is.length:=du _ _ _
theorem Wd.vA {W:Wd} {q:List (Int × Int)} {is:List Bool} {g x:Int} (h0:0≤x) (h1:x<is.length):W.cX (q ++ [(g,x)]) (is.set x.toNat true)=(W.bx is q x).1:=by
 unfold Wd.bx Wd.cX;exact vh ((fM h0 h1).2 (.inl rfl))
theorem sI {W:Wd} {is:List Bool} (hl:∀ i,ax is i=true→W.live i) {x:Int} (h0:0≤x) (h1:x<is.length) (hx:W.live x):∀ i,ax (is.set x.toNat true) i=true→W.live i:=fun i hi=>by
 rcases (fM h0 h1).1 hi with rfl | hi
 ·exact hx
 ·exact hl i hi
structure fP (W:Wd) (is:List Bool) (q:List (Int × Int)) (items:List It):Prop where
 len:is.length=W.T.length
 live:∀ i,ax is i=true→W.live i
 wv:∀ e ∈ q,W.dj e
 rg:items.map (·.1)=W.av
 cnt:q.length+cV items≤24
theorem fP.start {W:Wd} (h:W.ok) (major:Bool):fP W (W.cX W.wait (W.first major)) W.wait (bQ ax (W.cX W.wait (W.first major)) W.av):=by
 have m:=Wd.dP.start h major;have hq:=h.hq;refine ⟨m.len,m.live,h.wv,by simp [bQ,Function.comp_def],?_⟩;have:cV (bQ ax (W.cX W.wait (W.first major)) W.av)=W.av.length:=pg _ _;omega
theorem fP.sJ {W:Wd} {is:List Bool} {q:List (Int × Int)} {l:List It} (P:fP W is q l):l.length=W.av.length:=by
 have:=congrArg List.length P.rg;simpa using this
theorem fP.item {W:Wd} (h:W.ok) {is:List Bool} {q:List (Int × Int)} {a b:List It} {i:It} (P:fP W is q (a ++ i :: b)):W.dj i.1:=h.gv i.1 (by rw [←P.rg];simp)
theorem fP.sK {W:Wd} (h:W.ok) {is:List Bool} {q:List (Int × Int)} {a b:List It} {e:Int × Int} {d:Bool} (P:fP W is q (a ++ (e,d,false) :: b)) :
  fP W (W.bx is q e.2).1 (q ++ [e]) (a ++ (e,d,true) :: b):=by
 have he:W.dj e:=P.item h;have hq2:∀ f ∈ q ++ [e],W.dj f:=fun f hf=>by
  rcases List.mem_append.1 hf with hf | hf
  ·exact P.wv f hf
  ·rw [List.mem_singleton] at hf;subst hf;exact he
 have h0:=he.2.2.1;have h1:=he.2.2.2.1;have hl:=sI P.live h0 (by rw [P.len];exact h1) he.2.2;refine ⟨?_,?_,hq2,by rw [←P.rg];simp,?_⟩
 ·unfold Wd.bx;rw [Wd.vz,List.length_set];exact P.len
 ·exact Wd.yv h P.wv hl
 ·have:=P.cnt;rw [lI,nY rfl] at this;rw [lI,mZ,List.length_append];simp only [List.length_singleton];omega
theorem wT {W:Wd} {is:List Bool} {q:List (Int × Int)} {i:It} {l:List It} (hc:((i.2.1 && !i.2.2) && ax is i.1.1)=false) :
  scanM ax W.bx is q (i :: l)=((scanM ax W.bx is q l).1,(scanM ax W.bx is q l).2.1,i :: (scanM ax W.bx is q l).2.2.1,(scanM ax W.bx is q l).2.2.2):=by
 simp only [scanM,hc,if_neg (show ¬ (false=true) by decide)]
theorem wU {W:Wd} {is:List Bool} {q:List (Int × Int)} {e:Int × Int} {l:List It} (hc:ax is e.1=true) :
  scanM ax W.bx is q ((e,true,false) :: l)=((scanM ax W.bx (W.bx is q e.2).1 (q ++ [e]) l).1,(scanM ax W.bx (W.bx is q e.2).1 (q ++ [e]) l).2.1,(e,true,true) :: (scanM ax W.bx (W.bx is q e.2).1 (q ++ [e]) l).2.2.1,true):=by
 simp only [scanM,hc,Bool.not_false,Bool.and_self,if_true]
 rfl
structure ft (W:Wd) (is0:List Bool) (q0:List (Int × Int)) (items:List It) (k:Nat) (x:Bool) (is:List Bool) (q:List (Int × Int)) (all:List It):Prop where
 ok:fP W is q all
 dr:all.drop k=items.drop k
 eq:scanM ax W.bx is0 q0 items=((scanM ax W.bx is q (items.drop k)).1,(scanM ax W.bx is q (items.drop k)).2.1,all.take k ++ (scanM ax W.bx is q (items.drop k)).2.2.1,x || (scanM ax W.bx is q (items.drop k)).2.2.2)
 fl:(x=false∧all=items)∨(x=true∧cV all<cV items)
 ln:all.length=items.length
theorem ft.start {W:Wd} {is0:List Bool} {q0:List (Int × Int)} {items:List It} (P:fP W is0 q0 items):ft W is0 q0 items 0 false is0 q0 items:=
 ⟨P,rfl,by simp, .inl ⟨rfl,rfl⟩,rfl⟩
theorem jB {α:Type} {l:List α} {k:Nat} (h:k<l.length):l.drop k=l[k] :: l.drop (k+1):=List.drop_eq_getElem_cons h
theorem ft.skip {W:Wd} {is0:List Bool} {q0:List (Int × Int)} {items:List It} {k:Nat} {x:Bool} {is:List Bool} {q:List (Int × Int)} {all:List It} (S:ft W is0 q0 items k x is q all) (hk:k<all.length) {i:It} (hi:all[k]'hk=i)
  (hc:((i.2.1 && !i.2.2) && ax is i.1.1)=false):ft W is0 q0 items (k+1) x is q all:=by
 have hk2:k<items.length:=by rw [←S.ln];exact hk
 have hd:=S.dr;rw [jB hk,jB hk2,hi] at hd;obtain ⟨hi2,hd2⟩:=List.cons.inj hd;refine ⟨S.ok,hd2,?_,S.fl,S.ln⟩;rw [S.eq,jB hk2,←hi2,wT hc,←List.take_append_getElem hk,hi];simp
theorem ft.sK {W:Wd} (h:W.ok) {is0:List Bool} {q0:List (Int × Int)} {items:List It} {k:Nat} {x:Bool} {is:List Bool} {q:List (Int × Int)} {all:List It} (S:ft W is0 q0 items k x is q all) (hk:k<all.length) {e:Int × Int} (hi:all[k]'hk=(e,true,false))
  (hc:ax is e.1=true):ft W is0 q0 items (k+1) true (W.bx is q e.2).1 (q ++ [e]) (all.set k (e,true,true)):=by
 have hk2:k<items.length:=by rw [←S.ln];exact hk
 have hd:=S.dr;rw [jB hk,jB hk2,hi] at hd;obtain ⟨hi2,hd2⟩:=List.cons.inj hd;have hsp:all=all.take k ++ (e,true,false) :: all.drop (k+1):=by
  rw [←hi,←jB hk,List.take_append_drop]
 have hset:all.set k (e,true,true)=all.take k ++ (e,true,true) :: all.drop (k+1):=by
  rw [List.set_eq_take_append_cons_drop,if_pos hk]
 have P:=S.ok;rw [hsp] at P;have hlt:cV (all.set k (e,true,true))+1=cV all:=by
  rw [hset]
  conv=>rhs;rw [hsp]
  rw [lI,lI,mZ,nY rfl];omega
 refine ⟨by rw [hset];exact P.sK h,?_,?_,?_,by simp [S.ln]⟩
 ·rw [List.drop_set_of_lt (by omega)];exact hd2
 ·rw [S.eq,jB hk2,←hi2,wU hc];have ht:(all.set k (e,true,true)).take (k+1)=all.take k ++ [(e,true,true)]:=by
   rw [hset,List.take_append,List.length_take,Nat.min_eq_left (by omega),show k+1-k=1 by omega,List.take_of_length_le (by simp;omega)]
   rfl
  rw [ht];simp
 ·right;refine ⟨rfl,?_⟩;rcases S.fl with ⟨_,e2⟩ | ⟨_,h2⟩
  ·rw [e2] at hlt ⊢;omega
  ·omega
theorem ft.done {W:Wd} {is0:List Bool} {q0:List (Int × Int)} {items:List It} {x:Bool} {is:List Bool} {q:List (Int × Int)} {all:List It} (S:ft W is0 q0 items all.length x is q all):scanM ax W.bx is0 q0 items=(is,q,all,x):=by
 rw [S.eq,S.ln,List.drop_length,←S.ln,List.take_length];simp [scanM]
structure jj (W:Wd) (major:Bool) (x:Bool) (is:List Bool) (q:List (Int × Int)) (items:List It):Prop where
 ok:fP W is q items
 eq:∃ n,W.pass major=(if x then roundsM ax W.bx n is q items else (is,q,items))∧(x=true→cV items<n)
theorem jj.start {W:Wd} (h:W.ok) (major:Bool):jj W major true (W.cX W.wait (W.first major)) W.wait (bQ ax (W.cX W.wait (W.first major)) W.av):=
 ⟨fP.start h major,W.av.length+1,rfl,fun _=>by
  have:cV (bQ ax (W.cX W.wait (W.first major)) W.av)=W.av.length:=pg _ _
  omega⟩
theorem jj.next {W:Wd} {major:Bool} {is0:List Bool} {q0:List (Int × Int)} {items:List It} (P:jj W major true is0 q0 items) {x:Bool} {is:List Bool} {q:List (Int × Int)} {all:List It} (S:ft W is0 q0 items all.length x is q all):jj W major x is q all:=by
 obtain ⟨n,e,hn⟩:=P.eq;have hn:=hn rfl;obtain ⟨n,rfl⟩:∃ m,n=m+1:=⟨n-1,by omega⟩;refine ⟨S.ok,n,?_,fun hx=>?_⟩
 ·rw [e];simp only [if_true,roundsM,S.done]
 ·rcases S.fl with ⟨h1,_⟩ | ⟨_,h2⟩
  ·rw [h1] at hx;cases hx
  ·omega
theorem jj.done {W:Wd} {major:Bool} {is:List Bool} {q:List (Int × Int)} {items:List It} (P:jj W major false is q items):W.pass major=(is,q,items):=by
 obtain ⟨n,e,_⟩:=P.eq;simpa using e
theorem sL {is:List Bool} {l:List It} {k:Nat} (h:k<l.length):bz ax eR is (l.take (k+1))=bz ax eR is (l.take k) ++ (if !(l[k]).2.1 && ax is (l[k]).1.1 then [(l[k]).1] else []):=by
 unfold bz;rw [←List.take_append_getElem h,List.filter_append,List.map_append];congr 1;cases hc:(!(l[k]).2.1 && ax is (l[k]).1.1) <;> simp [hc,eR]
theorem sM {is:List Bool} {l:List (Int × Int)} {k:Nat} (h:k<l.length):bC ax eR is (l.take (k+1))=bC ax eR is (l.take k) ++ (if ax is (l[k]).1 then [l[k]] else []):=by
 unfold bC;rw [←List.take_append_getElem h,List.filter_append,List.map_append];congr 1;cases hc:ax is (l[k]).1 <;> simp [hc,eR]
theorem tU (is:List Bool) (l:List It):(bz ax eR is l).length≤l.length:=by
 unfold bz;rw [List.length_map];exact List.length_filter_le _ _
theorem tV (is:List Bool) (l:List (Int × Int)):(bC ax eR is l).length≤l.length:=by
 unfold bC;rw [List.length_map];exact List.length_filter_le _ _
def iD (is:List Bool) (l:List (Int × Int)) (k:Nat):List Bool:=l.mapIdx fun i e=>decide (i<k) && !ax is e.2
theorem nz (is:List Bool) (l:List (Int × Int)) (k:Nat):(iD is l k).length=l.length:=by simp [iD]
theorem vB (is:List Bool) (l:List (Int × Int)):iD is l 0=List.replicate l.length false:=by
 rw [List.eq_replicate_iff];refine ⟨nz _ _ _,fun b hb=>?_⟩;unfold iD at hb;obtain ⟨i,h,e⟩:=List.getElem_of_mem hb;rw [←e];simp
theorem vC (is:List Bool) (l:List (Int × Int)) {k:Nat} (h:k<l.length):(iD is l k).set k (!ax is (l.getD k (0,0)).2)=iD is l (k+1):=by
 unfold iD;apply List.ext_getElem (by simp);intro j h1 h2;simp only [List.getElem_set,List.getElem_mapIdx];by_cases e:k=j
 ·subst e;rw [if_pos rfl,Ld,Le h];simp
 ·rw [if_neg e];congr 1;simp only [decide_eq_decide];omega
theorem wV (is:List Bool) (l:List (Int × Int)):iD is l l.length=(bQ ax is l).map fun i=>i.2.1:=by
 unfold iD bQ;apply List.ext_getElem (by simp);intro j h1 h2;have:j<l.length:=by simpa using h1
 simp [this]
def gD (is:List Bool) (l:List Th) (k:Nat):List Th:=l.mapIdx fun i t=>if i<k then dv is i t else t
theorem wW (is:List Bool) (l:List Th):gD is l 0=l:=by
 unfold gD;apply List.ext_getElem (by simp);intro j h1 h2;simp
theorem yw (is:List Bool) (l:List Th):gD is l l.length=ma is l:=by
 unfold gD ma;apply List.ext_getElem (by simp);intro j h1 h2;have:j<l.length:=by simpa using h2
 simp [this]
theorem mw (is:List Bool) (l:List Th) (k:Nat):(gD is l k).length=l.length:=by simp [gD]
theorem yx (is:List Bool) (l:List Th) {k:Nat} (h:k<l.length):(gD is l k)[k]'(by rw [mw];exact h)=l[k]:=by simp [gD]
theorem wX (is:List Bool) (l:List Th) {k:Nat} (h:k<l.length):(gD is l k).set k (dv is k l[k])=gD is l (k+1):=by
 unfold gD;apply List.ext_getElem (by simp);intro j h1 h2;simp only [List.getElem_set,List.getElem_mapIdx];by_cases e:k=j
 ·subst e;simp
 ·rw [if_neg e];by_cases e2:j<k
  ·rw [if_pos e2,if_pos (by omega)]
  ·rw [if_neg e2,if_neg (by omega)]
theorem z4 {is:List Bool} {k:Nat} {t:Th} (h:is.getD k false=false):dv is k t=⟨t.k,[],t.aP,true⟩:=by unfold dv;rw [if_neg (by rw [h];decide)]
theorem yy {is:List Bool} {k:Nat} {t:Th} (h:is.getD k false=true) {u v:Vl} (hk:t.k=4) (hf:t.fs=[u,v]):dv is k t=⟨t.k,if bJ is u=false then [(2,0),(2,0)] else t.fs,true,t.dead⟩:=by
 unfold dv;rw [if_pos h,hf,hk];simp
theorem wY {is:List Bool} {k:Nat} {t:Th} (h:is.getD k false=true) {u v:Vl} (hk:t.k=3) (hf:t.fs=[u,v]):dv is k t=⟨t.k,if bJ is u=false then [(2,0),v] else t.fs,true,t.dead⟩:=by
 unfold dv;rw [if_pos h,hf,hk];simp
theorem vD {is:List Bool} {k:Nat} {t:Th} (h:is.getD k false=true) (h3:t.k≠3) (h4:t.k≠4):dv is k t=⟨t.k,t.fs,true,t.dead⟩:=by
 unfold dv;rw [if_pos h,if_neg (fun h=>h4 h.1),if_neg (fun h=>h3 h.1)]
end
end Go.Proofs.YtjifdalflepcoacGreat
