/-
  Parts of the proof, merged: what the functions do, and plain laws.
-/
import Derived.Test.YtjifdalflepcoabGGBP2
import Derived.Test.YtjifdalflepcoabGGBP1
import Derived.Test.YtjifdalflepcoabGGBP0
import Derived.Deep.MidRow
set_option maxHeartbeats 16000000
set_option maxRecDepth 100000
set_option linter.unusedVariables false
set_option linter.unusedSimpArgs false
namespace Go.Proofs.Ytjifdalflepcoab
section
open Go.RowKit
def SB (n0:Nat) (t:List Bool × List Nat):Prop:=bw t.1≤n0∧(t.2=[]∨bw t.1<n0)
theorem SB.mark {n0:Nat} {W:Wd} {t:List Bool × List Nat} (h:SB n0 t) (hl:t.1.length=W.T.length) (v:Vl) (hv:v.1=3→W.live v.2):SB n0 (a9 t v):=by
 obtain ⟨h1,h2,h3,h4⟩:=gD hl v hv;obtain ⟨h5,h6⟩:=h;refine ⟨by omega,?_⟩;rcases h3 with h3 | h3
 ·rcases h6 with h6 | h6
  ·exact .inl (by rw [h3,h6])
  ·exact .inr (by omega)
 ·exact .inr (by omega)
theorem qH {α:Type} {l:List α} (h:l.length=2):∃ a b,l=[a,b]:=by
 match l,h with
 | [a,b],_=>exact ⟨a,b,rfl⟩
theorem Sl.sU {w:World} {e:TypeId} {g o n cap:Nat} {x:Value} {xs:List Value} (h:Sl w e 1 (.slice (some ⟨g,o,none⟩) (n+1) cap) (n+1) (x :: xs)) :
  Sl w e 1 (.slice (if cap=1 then some ⟨g,o,none⟩ else some ⟨g,o+1,none⟩) n (cap-1)) n xs:=by
 obtain ⟨g',o',cap',cur,e',hb,h1,h2,h3,h4⟩:=h.laid (by omega);cases e';have hl:=h.1;refine ⟨by simp at hl ⊢;omega, .inr ?_⟩;have htl:(cur.drop (o+1)).take (n*1)=xs:=by
  have h5:((cur.drop o).take ((n+1)*1)).drop 1=xs:=by rw [h4];rfl
  rw [←h5,List.drop_take,List.drop_drop];congr 1
 by_cases hc:cap=1
 ·rw [if_pos hc];subst hc;have hn:n=0:=by omega
  subst hn;have:xs=[]:=by cases xs with | nil=>rfl | cons a l=>simp at hl
  subst this;exact ⟨g,o,0,cur,rfl,hb,Nat.le_refl _,by unfold maxLen;omega,by omega,by simp⟩
 ·rw [if_neg hc];exact ⟨g,o+1,cap-1,cur,rfl,hb,by omega,by omega,by omega,htl⟩
structure fQ (w:World) (gx:GX) (gp:Nat) (rgv wv:Value) (regs q:List (Int × Int)) (fv:Nat→Value) (W:Wd):Prop where
 S:aZ gx w gp rgv wv regs q
 T:cY w gx.l fv W.T
 F:∀ i b,ag (fv i) b→∃ c,ah w b c 78
structure LI (w wr:World) (gp lb ib:Nat) (nv nv1:Value) (W:Wd) (q:List (Int × Int)) (s0:List Bool) (E:Int→Prop) (t:List Bool × List Nat):Prop where
 L:b6 wr gp lb ib nv1 t
 K:aa (dF lb ib nv) w wr
 O:∀ k,ag nv1 k→ag nv k∨w.heap.size≤k
 G:GI W q s0 E t
section
variable {w wr w2 w':World} {gx:GX} {gp lb ib:Nat} {rgv wv nv nv1:Value} {regs q:List (Int × Int)} {fv:Nat→Value} {W:Wd} {s0:List Bool} {E E':Int→Prop} {t t2:List Bool × List Nat}
theorem fQ.lv (S:fQ w gx gp rgv wv regs q fv W) (L:b6 w gp lb ib nv t) (k:aa (dF lb ib nv) w w'):fQ w' gx gp rgv wv regs q fv W:=by
 have ne:∀ {b:Nat} {c:List Value} {T:TypeId},ah w b c T→T≠197→T≠4→T≠3→¬ dF lb ib nv b:=fun hb h1 h2 h3 e=>by
  obtain ⟨_,c',T',hc',hT⟩:=L.cO e;rcases hT with rfl | rfl | rfl
  ·exact hb.ne hc' h1 rfl
  ·exact hb.ne hc' h2 rfl
  ·exact hb.ne hc' h3 rfl
 refine ⟨S.S.ae k (fun b hb=>?_),S.T.ae k (fun b hb=>?_) (fun i b hb=>?_),fun i b hb=>?_⟩
 ·rcases hb with rfl | hb | hb
  ·exact ne S.S.hp (by decide) (by decide) (by decide)
  ·obtain ⟨_,c,hc⟩:=S.S.hr.own hb;exact ne hc (by decide) (by decide) (by decide)
  ·obtain ⟨_,c,hc⟩:=S.S.hw.own hb;exact ne hc (by decide) (by decide) (by decide)
 ·obtain ⟨cs,hs,_⟩:=S.T;obtain ⟨_,c,hc⟩:=hs.own hb;exact ne hc (by decide) (by decide) (by decide)
 ·obtain ⟨c,hc⟩:=S.F i b hb;exact ne hc (by decide) (by decide) (by decide)
 ·obtain ⟨c,hc⟩:=S.F i b hb;exact ⟨c,k.ai hc (ne hc (by decide) (by decide) (by decide))⟩
theorem LI.to (I:LI w wr gp lb ib nv nv1 W q s0 E t) (U:dV wr gp lb ib nv1 w2 t2) (G:GI W q s0 E' t2):∃ nv2,LI w w2 gp lb ib nv nv2 W q s0 E' t2:=by
 obtain ⟨nv2,L2,k2,o2⟩:=U;refine ⟨nv2,L2,I.K.then k2 (fun b hb=>?_),fun b hb=>?_,G⟩
 ·rcases hb with hb | hb | hb
  ·exact .inl (.inl hb)
  ·exact .inl (.inr (.inl hb))
  ·exact (I.O b hb).imp (fun h=>.inr (.inr h)) id
 ·rcases o2 b hb with h | h
  ·exact I.O b h
  ·exact .inr (Nat.le_trans I.K.size h)
theorem LI.same (I:LI w wr gp lb ib nv nv1 W q s0 E t) (k:aa (fun _=>False) wr w2):LI w w2 gp lb ib nv nv1 W q s0 E t:=⟨I.L.same k,I.K.trans (k.mono (fun _ _ h=>h.elim)),I.O,I.G⟩
theorem LI.iy (I:LI w wr gp lb ib nv nv1 W q s0 E t) (v:Vl) (hv:v.1=3→W.live v.2) (hT:W.T.length≤100000) :
  Calls Try.prog 137 #[.pointer (some ⟨lb,0,none⟩), .agg #[.int .i64 v.1, .int .i64 v.2]] wr fun e w'=>e=.returned (.tuple #[])∧dV wr gp lb ib nv1 w' (a9 t v):=
 jD v I.L (fun h3=>by have:=hv h3;rw [I.G.len];exact ⟨this.1,this.2.1⟩) (by rw [I.G.len];exact hT) (Nat.le_trans I.G.iw hT)
theorem fQ.nth (S:fQ w gx gp rgv wv regs q fv W) {i:Nat} (hi:i<W.T.length):∃ g o nc,gx.l=.slice (some ⟨g,o,none⟩) W.T.length nc∧g<w.heap.size ∧
  iS w (fv i) (W.th (i:Int)) (w.cell? ⟨g,o+i*4,none⟩) (w.cell? ⟨g,o+i*4+1,none⟩) (w.cell? ⟨g,o+i*4+2,none⟩) (w.cell? ⟨g,o+i*4+3,none⟩):=by
 obtain ⟨cs,hs,hr⟩:=S.T;obtain ⟨g,o,cap,cur,e,hb,h1,h2,h3,h4⟩:=hs.laid (by omega);have hl:=hs.1;have hc:∀ j,j<W.T.length*4→w.cell? ⟨g,o+j,none⟩=cs[j]? := fun j hj=>by
  rw [hb.cell,←h4,List.getElem?_take,if_pos hj,List.getElem?_drop]
 refine ⟨g,o,cap,e,hb.lt,?_⟩;have:=hr i hi;rw [Wd.dR,hc (i*4) (by omega),Nat.add_assoc o (i*4) 1,hc (i*4+1) (by omega),Nat.add_assoc o (i*4) 2,hc (i*4+2) (by omega),Nat.add_assoc o (i*4) 3,hc (i*4+3) (by omega)];exact this
theorem fQ.row (S:fQ w gx gp rgv wv regs q fv W) {i g o nc:Nat} (hi:i<W.T.length) (e:gx.l=.slice (some ⟨g,o,none⟩) W.T.length nc):g<w.heap.size ∧
  iS w (fv i) (W.th (i:Int)) (w.cell? ⟨g,o+i*4,none⟩) (w.cell? ⟨g,o+i*4+1,none⟩) (w.cell? ⟨g,o+i*4+2,none⟩) (w.cell? ⟨g,o+i*4+3,none⟩):=by
 obtain ⟨g',o',nc',e',h1,h2⟩:=S.nth hi;rw [e] at e';cases e';exact ⟨h1,h2⟩
theorem GI.lead (G:GI W q s0 E t) (hok:W.ok) {i:Int} (hi:av t.1 i=true) {v:Vl} (hv:v.1=3→W.live v.2) (h:v.1=3→ed W.nd q (fun k=>av t.1 k=true) i v.2):v.1=3→W.live v.2∧aU W.nd q (fun k=>av s0 k=true) v.2:=fun h3=>
 ⟨hv h3,aU.closed W.nd q _ i v.2 (G.al i hi) ((h h3).mono (fun k hk=>G.al k hk) (fun _ h=>h))⟩
theorem b6.pop {g o cap k:Nat} {is:List Bool} {r:List Nat} (L:b6 w gp lb ib (.slice (some ⟨g,o,none⟩) (r.length+1) cap) (is,k :: r)) :
  dV w gp lb ib (.slice (some ⟨g,o,none⟩) (r.length+1) cap) (w.setCell ⟨lb,2,none⟩ (.slice (if cap=1 then some ⟨g,o,none⟩ else some ⟨g,o+1,none⟩) r.length (cap-1))) (is,r):=by
 have K:=(aa.refl (·=lb) w).setCell (p:=⟨lb,2,none⟩) (.inl rfl) (.slice (if cap=1 then some ⟨g,o,none⟩ else some ⟨g,o+1,none⟩) r.length (cap-1));have hn:=L.hn;have hs:Sl w 3 1 (.slice (if cap=1 then some ⟨g,o,none⟩ else some ⟨g,o+1,none⟩) r.length (cap-1)) r.length (fV r):=Sl.sU hn;refine ⟨_,⟨by simpa using L.hp.aF 2 _,K.ai L.hi (fun e=>L.hi.ne L.hp (by decide) e),hs.ae K (fun b hb e=>?_)⟩,K.mono (fun b _ e=>.inl e),fun b hb=>.inl ?_⟩
 ·obtain ⟨_,c,hc⟩:=hs.own hb;exact hc.ne L.hp (by decide) e
 ·by_cases hc:cap=1
  ·rw [if_pos hc] at hb;exact hb
  ·rw [if_neg hc] at hb;exact hb
theorem fQ.tl (S:fQ w gx gp rgv wv regs q fv W):∃ no nc,gx.l=.slice no W.T.length nc:=by
 obtain ⟨cs,hs,-⟩:=S.T;obtain ⟨no,nc,e,-,-,-⟩:=hs.rd;exact ⟨no,nc,e⟩
theorem GSpread_c (S:fQ w gx gp rgv wv regs q fv W) (L:b6 w gp lb ib nv t) (hok:W.ok) (G:GI W q t.1 (fun _=>False) t) (hq:∀ e ∈ q,W.eY e) (hT:W.T.length≤100000) (hql:q.length≤1000000) :
  Calls Try.prog 139 #[.pointer (some ⟨lb,0,none⟩)] w fun e w'=>e=.returned (.tuple #[])∧dV w gp lb ib nv w' (W.b8 q t.1,[]):=by
 have SP:=Hz S;have HOK:=Hz hok;have HQ:=Hz hq;have SPK:=Hz (fun w' (k:aa (dF lb ib nv) w w')=>S.lv L k);have HI0:=Hz (show LI w w gp lb ib nv nv W q t.1 (fun _=>False) t from ⟨L,aa.refl _ _,fun k hk=>.inl hk,G⟩);have HS0:=Hz (show t.1.length=W.T.length from G.len);have HTT:=Hz hT;have HQL:=Hz hql;have lbl:=L.hp.lt;obtain ⟨s0,hs0⟩:∃ s,t.1=s:=⟨_,rfl⟩;rw [hs0] at HI0 HS0 ⊢;clear S L G hok hq hs0;go_enter Try.func139,Try.ntmps139;go_wp2_with fail;go_loopw [2] (fun b wr=>∃ (bv:Bool) (t1:List Bool × List Nat) (nv1:Value),b=.bool bv∧LI w wr gp lb ib nv nv1 W q s0 (fun _=>False) t1∧(bv=false→t1=(W.b8 q s0,[]))) (fun b wr=>2*gfalsW wr ib+(match b with | .bool true=>1 | _=>0))
 case atStart=>exact ⟨true,t,nv,rfl,HI0.out,fun h=>by cases h⟩
 case round=>
  obtain ⟨bv,t1,nv1,rfl,hI,hend⟩:=hrel;cases bv
  ·have TO:=Hz (show dV w gp lb ib nv wr (W.b8 q s0,[]) by rw [←hend rfl];exact ⟨nv1,hI.L,hI.K,hI.O⟩);clear hI hend;go_wp2_with fail;go_end0;exact ⟨rfl,TO.out⟩
  have I1:=Hz hI;clear hI hend HI0;obtain ⟨n0,hn0⟩:∃ n,gfalsW wr ib=n:=⟨_,rfl⟩;have HN0:=Hz (show bw t1.1=n0 by rw [←I1.out.L.jt];exact hn0);rw [hn0];clear hn0;go_wp2_with fail;go_loopw [3] (fun u wx=>∃ (t2:List Bool × List Nat) (nv2:Value),LI w wx gp lb ib nv nv2 W q s0 (fun _=>False) t2∧bw t2.1≤n0) (fun u wx=>2*gfalsW wx ib+lL wx lb 2)
  case atStart=>exact ⟨t1,nv1,I1.out,by have:=HN0.out;omega⟩
  case round=>
   clear I1 HN0;obtain ⟨t2,nv2,hI,hle⟩:=hrel;have I2:=Hz hI;obtain ⟨is,nx⟩:=t2;dsimp only at hle;have c0:=hI.L.hp.cell 0;have c2:=hI.L.hp.cell 2;have cl:=hI.L.hp.lt;simp only [Lz,Ls] at c0 c2;obtain ⟨no,nc,en,-,hnm,-⟩:=hI.L.hn.rd;rw [en] at c2;dsimp only at c2;have HEN:=Hz en;clear hI en hnm;cases nx with
   | nil=>
    simp only [List.length_nil] at c2;obtain ⟨no3,nc3,etl⟩:=(SPK.out _ I2.out.K).tl;have HTL:=Hz etl;have p0:=(SPK.out _ I2.out.K).S.hp.cell 0;have pl:=(SPK.out _ I2.out.K).S.hp.lt;simp only [Lz,Ls] at p0;rw [etl] at p0;have HLE:=Hz hle;clear etl hle;go_wp2_with fail;clear c0 c2 p0 pl cl;go_loopw [77] (fun u wx=>∃ (i:Nat) (t3:List Bool × List Nat) (nv3:Value),i≤W.T.length∧u=.int .i64 i∧LI w wx gp lb ib nv nv3 W q s0 (fun _=>False) t3∧SB n0 t3∧(t3.2=[]→∀ j:Nat,j<i→fU W t3.1 (j:Int))) (fun u _=>W.T.length-(intOf u).toNat)
    case atStart=>exact ⟨0,(is,[]),nv2,Nat.zero_le _,rfl,I2.out,⟨HLE.out, .inl rfl⟩,fun _ j hj=>by omega⟩
    case round=>
     clear I2 HLE HEN;obtain ⟨i,t3,nv3,hi,rfl,hI,hsb,heph⟩:=hrel;have I3:=Hz hI;have SB3:=Hz hsb;have EP3:=Hz heph;clear hI hsb heph;obtain ⟨is3,nx3⟩:=t3;have HLN:=Hz I3.out.G.len;have p0:=(SPK.out _ I3.out.K).S.hp.cell 0;have pl:=(SPK.out _ I3.out.K).S.hp.lt;have c0:=I3.out.L.hp.cell 0;have c1:=I3.out.L.hp.cell 1;have cl:=I3.out.L.hp.lt;simp only [Lz,Ls] at p0 c0 c1;rw [HTL.out] at p0;rw [HLN.out] at c1;by_cases hlt:i<W.T.length
     ·obtain ⟨gt,ot,ntc,etl,hgt,hrow⟩:=(SPK.out _ I3.out.K).nth hlt;rw [HTL.out] at etl;cases etl;have hb:=I3.out.L.bool (i:=i) (by have:=HLN.out;dsimp only at this ⊢;omega);have hbl:=I3.out.L.hi.lt;have HRW:=Hz hrow;clear hrow;have HAT:=Hz (show av is3 (i:Int)=is3.getD i false from cG is3 i);have hii:(i:Int)<W.T.length:=by omega
      have NXS:=Hz (fun (w5:World) (k:aa (fun _=>False) wr w5) (h:fU W is3 (i:Int))=>(show ∃ (i2:Nat) (t3:List Bool × List Nat) (nv3:Value),i2≤W.T.length∧Value.int .i64 ((i:Int)+1)=.int .i64 i2∧LI w w5 gp lb ib nv nv3 W q s0 (fun _=>False) t3∧SB n0 t3∧(t3.2=[]→∀ j:Nat,j<i2→fU W t3.1 (j:Int)) from
       ⟨i+1,(is3,nx3),nv3,hlt,rfl,I3.out.same k,SB3.out,fun h0 j hj=>by
        by_cases e:j=i
        ·subst e;exact h
        ·exact EP3.out h0 j (by omega)⟩))
      go_upto_region 19 with (fail);cases hbv:is3.getD i false
      ·rw [hbv] at hb;have NX:=Hz (NXS.out _ (Kz wr).drew (fun h=>by have:=HAT.out;rw [hbv,h] at this;cases this));clear hbv;refine aq (.free 0 (.free 1 (.free 2 (.free 4 (.pure 3 (.free 5 (.pure 6 (.free 7 (.free 8 (.free 9 (.free 10 (.pure 11 (.free 12 (.free 13 (.free 14 (.free 15 (.free 16 (.free 17 (.pure 18 (.free 19 (.free 20 (.pure 21 (.free 22 (.free 23 (.free 24 (.free 25 (.free 26 (.free 28 (.free 29 (.free 30 (.pure 27 (.pure 31 (.free 32 (.free 33 (.pure 34 (.free 35 (.pure 36 (.free 37 (.free 38 (.fin)))))))))))))))))))))))))))))))))))))))) [] (fun w'=>w'.cell? ⟨lb,1,none⟩=some (.slice (some ⟨ib,0,none⟩) W.T.length W.T.length)∧w'.cell? ⟨ib,i,none⟩=some (.bool false)) (by kernel_rfl) (by kernel_rfl) ⟨c1,hb⟩ ?_
       iterate 39 ((first | refine ak rfl rfl fun K hK=>?_ | refine aj rfl rfl fun K hK=>?_ | refine aB rfl rfl fun K hK=>?_ | refine aw rfl rfl fun K hK=>?_ | refine aA rfl rfl fun K hK=>?_);go_simp;refine hK _ ?_;clear hK K)
       refine aD ?_;clear c0 c1 cl p0 pl hb hbl hgt;go_wp2_with fail;go_roundw
       case rel=>
        first
        | exact NX.out
        | ((repeat apply Exists.intro);exact ⟨NX.out,rfl⟩)
       case measure=>simp [intOf];omega
      have HBV:=Hz hbv;rw [hbv] at hb;have hli:W.live (i:Int):=I3.out.G.lv _ (show av is3 (i:Int)=true by rw [HAT.out,hbv]);have HLI:=Hz hli;have hded:=hli.2.2;have t0:=HRW.out.k hded;have t1:=HRW.out.f hded;have HRS:=Hz (HRW.out.s hded);obtain ⟨fo,fc,efv,-,-,-⟩:=HRS.out.rd;have HEF:=Hz efv;rw [efv] at t1;clear efv hded hli hbv;obtain ⟨kd,hkd⟩:∃ x,(W.th (i:Int)).k=x:=⟨_,rfl⟩;rw [hkd] at t0;have HKD:=Hz hkd;clear hkd;by_cases h4:kd=4
      case neg=>
       have NX:=Hz (NXS.out _ (Kz wr).drew (fun _ hk=>by rw [HKD.out] at hk;exact absurd hk h4));have e4:(kd == 4)=false:=by simpa using h4
       clear h4 t1;refine aq (.free 0 (.free 1 (.free 2 (.free 4 (.pure 3 (.free 5 (.pure 6 (.free 7 (.free 8 (.free 9 (.free 10 (.pure 11 (.free 12 (.free 13 (.free 14 (.free 15 (.free 16 (.free 17 (.pure 18 (.free 19 (.free 20 (.pure 21 (.free 22 (.free 23 (.free 24 (.free 25 (.free 26 (.free 28 (.free 29 (.free 30 (.pure 27 (.pure 31 (.free 32 (.free 33 (.pure 34 (.free 35 (.pure 36 (.free 37 (.free 38 (.fin)))))))))))))))))))))))))))))))))))))))) [] (fun w'=>w'.cell? ⟨lb,1,none⟩=some (.slice (some ⟨ib,0,none⟩) W.T.length W.T.length)∧w'.cell? ⟨ib,i,none⟩=some (.bool true)∧w'.cell? ⟨gt,ot+i*4,none⟩=some (.int .i64 kd)) (by kernel_rfl) (by kernel_rfl) ⟨c1,hb,t0⟩ ?_
       iterate 39 ((first | refine ak rfl rfl fun K hK=>?_ | refine aj rfl rfl fun K hK=>?_ | refine aB rfl rfl fun K hK=>?_ | refine aw rfl rfl fun K hK=>?_ | refine aA rfl rfl fun K hK=>?_);go_simp;refine hK _ ?_;clear hK K)
       refine aD ?_;clear t0;clear c0 c1 cl p0 pl hb hbl hgt;go_wp2_with fail;go_roundw
       case rel=>
        first
        | exact NX.out
        | ((repeat apply Exists.intro);exact ⟨NX.out,rfl⟩)
       case measure=>simp [intOf];omega
      subst h4;obtain ⟨u,v,hfs⟩:∃ u v,(W.th (i:Int)).fs=[u,v]:=qH (by
       have:=HOK.out.tk _ HLI.out;rw [HKD.out] at this;simp [aQ] at this
       omega)
      have rd3:Rd wr fo (aC [u,v]):=by
       have:=HRS.out;rw [HEF.out,hfs] at this;obtain ⟨_,_,e',rd,-,-⟩:=this.rd;cases e';exact rd
      obtain ⟨gf,of,rfl,hgf,u0,u1⟩:=rd3.val 0 (by simp);obtain ⟨_,_,e',-,v0,v1⟩:=rd3.val 1 (by simp);cases e';have lenE:(W.th (i:Int)).fs.length=2:=by rw [hfs];rfl
      rw [lenE] at t1;simp only [List.getD_cons_zero,List.getD_cons_succ,Nat.zero_mul,Nat.add_zero,Nat.one_mul] at u0 u1 v0 v1;have HFS:=Hz hfs;have HIN:=Hz (show v.1=3→W.live v.2 from fun h3=>Wd.bp (HOK.out.tv _ HLI.out v (by rw [hfs];simp)) h3);have HIU:=Hz (show u.1=3→W.live u.2 from fun h3=>Wd.bp (HOK.out.tv _ HLI.out u (by rw [hfs];simp)) h3);obtain ⟨uk,ux⟩:=u;dsimp only at u0 u1;clear rd3 lenE hfs;by_cases h3:uk=3
      case neg=>
       have e3:(uk == 3)=false:=by simpa using h3
       have HU:=Hz (show aO is3 (uk,ux)=true by unfold aO;simp [h3]);have e3':(uk != 3)=true:=by simpa using h3
       refine aq (.free 0 (.free 1 (.free 2 (.free 4 (.pure 3 (.free 5 (.pure 6 (.free 7 (.free 8 (.free 9 (.free 10 (.pure 11 (.free 12 (.free 13 (.free 14 (.free 15 (.free 16 (.free 17 (.pure 18 (.free 19 (.free 20 (.pure 21 (.free 22 (.free 23 (.free 24 (.free 25 (.free 26 (.free 28 (.free 29 (.free 30 (.pure 27 (.pure 31 (.free 32 (.free 33 (.pure 34 (.free 35 (.pure 36 (.free 37 (.free 38 (.fin)))))))))))))))))))))))))))))))))))))))) [] (fun w'=>w'.cell? ⟨lb,1,none⟩=some (.slice (some ⟨ib,0,none⟩) W.T.length W.T.length)∧w'.cell? ⟨ib,i,none⟩=some (.bool true)∧w'.cell? ⟨gt,ot+i*4,none⟩=some (.int .i64 4)∧w'.cell? ⟨gt,ot+i*4+1,none⟩=some (.slice (some ⟨gf,of,none⟩) 2 fc)∧w'.cell? ⟨gf,of,none⟩=some (.int .i64 uk)) (by kernel_rfl) (by kernel_rfl) ⟨c1,hb,t0,t1,u0⟩ ?_
       iterate 39 ((first | refine ak rfl rfl fun K hK=>?_ | refine aj rfl rfl fun K hK=>?_ | refine aB rfl rfl fun K hK=>?_ | refine aw rfl rfl fun K hK=>?_ | refine aA rfl rfl fun K hK=>?_);go_simp;refine hK _ ?_;clear hK K)
       refine aD ?_;clear e3' h3;go_wp2_with (refine bd rfl 78 (.tmp 133) rfl (by kernel_rfl) gf _ rfl _ _ v0 v1 ?_);have I4:=Hz (I3.out.same (Kz wr).drew);refine (I4.out.iy v HIN.out HTT.out).mono ?_;rintro e w5 ⟨rfl,hU⟩;obtain ⟨nv5,i5⟩:=I4.out.to hU (I4.out.G.mark (GI.lead I4.out.G HOK.out (show av is3 (i:Int)=true by rw [HAT.out,HBV.out]) HIN.out (mm HKD.out HFS.out HU.out)));have NX:=Hz (show ∃ (i2:Nat) (t3:List Bool × List Nat) (nv3:Value),i2≤W.T.length∧Value.int .i64 ((i:Int)+1)=.int .i64 i2∧LI w w5 gp lb ib nv nv3 W q s0 (fun _=>False) t3∧SB n0 t3∧(t3.2=[]→∀ j:Nat,j<i2→fU W t3.1 (j:Int)) from
        ⟨i+1,a9 (is3,nx3) v,nv5,hlt,rfl,i5,SB3.out.mark I4.out.G.len v HIN.out,fun h0 j hj=>by
         have hin:=fP I4.out.G.len v HIN.out;rw [gC h0] at hin ⊢;by_cases e:j=i
         ·subst e;intro _ _ _ x hx h3;rw [HFS.out] at hx;simp at hx;subst hx;exact hin h3
         ·exact EP3.out (g4 h0) j (by omega)⟩)
       clear hU i5 v0 v1 hgf t0 t1 u0 u1 e3;clear c0 c1 cl p0 pl hb hbl hgt;go_wp2_with fail;go_roundw
       case rel=>
        first
        | exact NX.out
        | ((repeat apply Exists.intro);exact ⟨NX.out,rfl⟩)
       case measure=>simp [intOf];omega
      subst h3;have hlu:=HIU.out rfl;dsimp only at hlu;obtain ⟨x,rfl⟩:=Int.eq_ofNat_of_zero_le hlu.1;have hxl:x<W.T.length:=by have:=hlu.2.1;omega
      have hx:=I3.out.L.bool (i:=x) (by have:=HLN.out;dsimp only at this ⊢;omega);have HAX:=Hz (show av is3 (x:Int)=is3.getD x false from cG is3 x);have hxi:(x:Int)<W.T.length:=by omega
      clear hlu;cases hb2:is3.getD x false
      ·rw [hb2] at hx;have NX:=Hz (NXS.out _ (Kz wr).drew (fun _ _ h=>by
        rw [HFS.out] at h;have h:aO is3 (3,(x:Int))=true:=h;have e:av is3 (x:Int)=false:=by rw [HAX.out,hb2]
        unfold aO at h
        simp [e] at h))
       clear hb2;refine aq (.free 0 (.free 1 (.free 2 (.free 4 (.pure 3 (.free 5 (.pure 6 (.free 7 (.free 8 (.free 9 (.free 10 (.pure 11 (.free 12 (.free 13 (.free 14 (.free 15 (.free 16 (.free 17 (.pure 18 (.free 19 (.free 20 (.pure 21 (.free 22 (.free 23 (.free 24 (.free 25 (.free 26 (.free 28 (.free 29 (.free 30 (.pure 27 (.pure 31 (.free 32 (.free 33 (.pure 34 (.free 35 (.pure 36 (.free 37 (.free 38 (.fin)))))))))))))))))))))))))))))))))))))))) [] (fun w'=>w'.cell? ⟨lb,1,none⟩=some (.slice (some ⟨ib,0,none⟩) W.T.length W.T.length)∧w'.cell? ⟨ib,i,none⟩=some (.bool true)∧w'.cell? ⟨gt,ot+i*4,none⟩=some (.int .i64 4)∧w'.cell? ⟨gt,ot+i*4+1,none⟩=some (.slice (some ⟨gf,of,none⟩) 2 fc)∧w'.cell? ⟨gf,of,none⟩=some (.int .i64 3)∧w'.cell? ⟨gf,of+1,none⟩=some (.int .i64 (x:Int))∧w'.cell? ⟨ib,x,none⟩=some (.bool false)) (by kernel_rfl) (by kernel_rfl) ⟨c1,hb,t0,t1,u0,u1,hx⟩ ?_
       iterate 39 ((first | refine ak rfl rfl fun K hK=>?_ | refine aj rfl rfl fun K hK=>?_ | refine aB rfl rfl fun K hK=>?_ | refine aw rfl rfl fun K hK=>?_ | refine aA rfl rfl fun K hK=>?_);go_simp;refine hK _ ?_;clear hK K)
       refine aD ?_;clear t0 t1 u0 u1 hx v0 v1 hgf;clear c0 c1 cl p0 pl hb hbl hgt;go_wp2_with fail;go_roundw
       case rel=>
        first
        | exact NX.out
        | ((repeat apply Exists.intro);exact ⟨NX.out,rfl⟩)
       case measure=>simp [intOf];omega
      ·rw [hb2] at hx;have HU:=Hz (show aO is3 (3,(x:Int))=true by unfold aO;simp [show av is3 (x:Int)=true by rw [HAX.out,hb2]]);clear hb2;refine aq (.free 0 (.free 1 (.free 2 (.free 4 (.pure 3 (.free 5 (.pure 6 (.free 7 (.free 8 (.free 9 (.free 10 (.pure 11 (.free 12 (.free 13 (.free 14 (.free 15 (.free 16 (.free 17 (.pure 18 (.free 19 (.free 20 (.pure 21 (.free 22 (.free 23 (.free 24 (.free 25 (.free 26 (.free 28 (.free 29 (.free 30 (.pure 27 (.pure 31 (.free 32 (.free 33 (.pure 34 (.free 35 (.pure 36 (.free 37 (.free 38 (.fin)))))))))))))))))))))))))))))))))))))))) [] (fun w'=>w'.cell? ⟨lb,1,none⟩=some (.slice (some ⟨ib,0,none⟩) W.T.length W.T.length)∧w'.cell? ⟨ib,i,none⟩=some (.bool true)∧w'.cell? ⟨gt,ot+i*4,none⟩=some (.int .i64 4)∧w'.cell? ⟨gt,ot+i*4+1,none⟩=some (.slice (some ⟨gf,of,none⟩) 2 fc)∧w'.cell? ⟨gf,of,none⟩=some (.int .i64 3)∧w'.cell? ⟨gf,of+1,none⟩=some (.int .i64 (x:Int))∧w'.cell? ⟨ib,x,none⟩=some (.bool true)) (by kernel_rfl) (by kernel_rfl) ⟨c1,hb,t0,t1,u0,u1,hx⟩ ?_
       iterate 39 ((first | refine ak rfl rfl fun K hK=>?_ | refine aj rfl rfl fun K hK=>?_ | refine aB rfl rfl fun K hK=>?_ | refine aw rfl rfl fun K hK=>?_ | refine aA rfl rfl fun K hK=>?_);go_simp;refine hK _ ?_;clear hK K)
       refine aD ?_;go_wp2_with (refine bd rfl 78 (.tmp 133) rfl (by kernel_rfl) gf _ rfl _ _ v0 v1 ?_);have I4:=Hz (I3.out.same (Kz wr).drew);refine (I4.out.iy v HIN.out HTT.out).mono ?_;rintro e w5 ⟨rfl,hU⟩;obtain ⟨nv5,i5⟩:=I4.out.to hU (I4.out.G.mark (GI.lead I4.out.G HOK.out (show av is3 (i:Int)=true by rw [HAT.out,HBV.out]) HIN.out (mm HKD.out HFS.out HU.out)));have NX:=Hz (show ∃ (i2:Nat) (t3:List Bool × List Nat) (nv3:Value),i2≤W.T.length∧Value.int .i64 ((i:Int)+1)=.int .i64 i2∧LI w w5 gp lb ib nv nv3 W q s0 (fun _=>False) t3∧SB n0 t3∧(t3.2=[]→∀ j:Nat,j<i2→fU W t3.1 (j:Int)) from
        ⟨i+1,a9 (is3,nx3) v,nv5,hlt,rfl,i5,SB3.out.mark I4.out.G.len v HIN.out,fun h0 j hj=>by
         have hin:=fP I4.out.G.len v HIN.out;rw [gC h0] at hin ⊢;by_cases e:j=i
         ·subst e;intro _ _ _ x hx h3;rw [HFS.out] at hx;simp at hx;subst hx;exact hin h3
         ·exact EP3.out (g4 h0) j (by omega)⟩)
       clear hU i5 v0 v1 hgf t0 t1 u0 u1 hx;clear c0 c1 cl p0 pl hb hbl hgt;go_wp2_with fail;go_roundw
       case rel=>
        first
        | exact NX.out
        | ((repeat apply Exists.intro);exact ⟨NX.out,rfl⟩)
       case measure=>simp [intOf];omega
     ·have hie:=Hz (show i=W.T.length by omega);have EPA:=Hz (show nx3=[]→∀ j:Nat,j<W.T.length→fU W is3 (j:Int) from fun h j hj=>EP3.out h j (by rw [hie.out];exact hj));have w0:=(SPK.out _ I3.out.K).S.hp.cell 3;simp only [Lz,Ls] at w0;obtain ⟨wo,wc,ewv,-,-,-⟩:=(SPK.out _ I3.out.K).S.hw.rd;have HWV:=Hz ewv;rw [ewv] at w0;clear c1 ewv p0;go_wp2_with fail;clear c0 w0 cl pl;go_loopw [146] (fun u wx=>∃ (f:Nat) (t4:List Bool × List Nat) (nv4:Value),f≤q.length∧u=.int .i64 f∧LI w wx gp lb ib nv nv4 W q s0 (fun _=>False) t4∧SB n0 t4∧(t4.2=[]→(∀ j:Nat,j<W.T.length→fU W t4.1 (j:Int))∧∀ e ∈ q.take f,kB t4.1 e)) (fun u _=>q.length-(intOf u).toNat)
      case atStart=>exact ⟨0,(is3,nx3),nv3,Nat.zero_le _,rfl,I3.out,SB3.out,fun h=>⟨EPA.out h,fun e he=>by simp at he⟩⟩
      case round=>
       clear I3 SB3 EP3 EPA HLN hie hi;obtain ⟨f,t4,nv4,hf,rfl,hI,hsb,hcl⟩:=hrel;have I4:=Hz hI;have SB4:=Hz hsb;have CL4:=Hz hcl;clear hI hsb hcl;obtain ⟨is4,nx4⟩:=t4;have HLN:=Hz I4.out.G.len;by_cases hlt:f<q.length
       ·have rd3:Rd wr wo (aC q):=by
         have:=(SPK.out _ I4.out.K).S.hw;rw [HWV.out] at this;obtain ⟨_,_,e',rd,-,-⟩:=this.rd;cases e';exact rd
        obtain ⟨gf,of,rfl,hgf,v0,v1⟩:=rd3.dA f hlt;have hmem:q.getD f (0,0) ∈ q:=by rw [Ld,Le hlt];exact List.getElem_mem hlt
        have htk:=Hz (show q.take (f+1)=q.take f ++ [q.getD f (0,0)] by rw [←List.take_append_getElem hlt,Ld,Le hlt];rfl);have HMM:=Hz hmem;generalize q.getD f (0,0)=e at *;obtain ⟨eg,et⟩:=e;dsimp only at v0 v1;obtain ⟨hl1,hk5,hl2⟩:=HQ.out _ HMM.out;dsimp only at hl1 hk5 hl2;obtain ⟨g5,rfl⟩:=Int.eq_ofNat_of_zero_le hl1.1;have hgl:g5<W.T.length:=by have:=hl1.2.1;omega
        have HK5:=Hz hk5;have HL2:=Hz hl2;have hgi:(g5:Int)<W.T.length:=by omega
        clear hmem rd3 hl1 hk5 hl2;go_upto_region 25 with (refine bd rfl 170 (.tmp 148) rfl (by kernel_rfl) gf (of+f*2) rfl _ _ v0 v1 ?_)
        have B5:=Hz (show ah (wr.alloc (.cells #[.int .i64 (g5:Int), .int .i64 et] 170)) wr.heap.size [.int .i64 (g5:Int), .int .i64 et] 170 from ah.newAt _ rfl rfl);have I5:=Hz (I4.out.same ((Kz wr).alloc (.cells #[.int .i64 (g5:Int), .int .i64 et] 170)));clear v0 v1 hgf;generalize wr.alloc (.cells #[.int .i64 (g5:Int), .int .i64 et] 170)=w5 at *;generalize wr.heap.size=sb at *;have z0:=B5.out.cell 0;have z1:=B5.out.cell 1;have sl:=B5.out.lt;have c1:=I5.out.L.hp.cell 1;have cl:=I5.out.L.hp.lt;simp only [Lz,Ls] at z0 z1 c1;rw [HLN.out] at c1;have hb:=I5.out.L.bool (i:=g5) (by have:=HLN.out;dsimp only at this ⊢;omega);have hbl:=I5.out.L.hi.lt;have HAT:=Hz (show av is4 (g5:Int)=is4.getD g5 false from cG is4 g5);cases hbv:is4.getD g5 false
        ·rw [hbv] at hb;have NX:=Hz (show ∃ (f2:Nat) (t4:List Bool × List Nat) (nv4:Value),f2≤q.length∧Value.int .i64 ((f:Int)+1)=.int .i64 f2∧LI w w5.drew gp lb ib nv nv4 W q s0 (fun _=>False) t4∧SB n0 t4∧(t4.2=[]→(∀ j:Nat,j<W.T.length→fU W t4.1 (j:Int))∧∀ e ∈ q.take f2,kB t4.1 e) from
          ⟨f+1,(is4,nx4),nv4,hlt,rfl,I5.out.same (Kz w5).drew,SB4.out,fun h0=>⟨(CL4.out h0).1,fun e he=>by
           rw [htk.out] at he;rcases List.mem_append.1 he with he | he
           ·exact (CL4.out h0).2 e he
           ·rw [List.mem_singleton] at he;subst he;intro ha;have ha:av is4 (g5:Int)=true:=ha
            rw [HAT.out,hbv] at ha;cases ha⟩⟩)
         clear hbv;refine aq (.free 0 (.free 1 (.free 2 (.free 4 (.pure 3 (.pure 5 (.free 6 (.pure 7 (.fin))))))))) [] (fun w'=>w'.cell? ⟨lb,1,none⟩=some (.slice (some ⟨ib,0,none⟩) W.T.length W.T.length)∧w'.cell? ⟨ib,g5,none⟩=some (.bool false)∧w'.cell? ⟨sb,0,none⟩=some (.int .i64 (g5:Int))) (by kernel_rfl) (by kernel_rfl) ⟨c1,hb,z0⟩ ?_
         iterate 8 ((first | refine ak rfl rfl fun K hK=>?_ | refine aj rfl rfl fun K hK=>?_ | refine aB rfl rfl fun K hK=>?_ | refine aw rfl rfl fun K hK=>?_ | refine aA rfl rfl fun K hK=>?_);go_simp;refine hK _ ?_;clear hK K)
         refine aD ?_;clear c1 hb z0 z1 sl cl hbl;go_wp2_with fail;go_roundw
         case rel=>
          first
          | exact NX.out
          | ((repeat apply Exists.intro);exact ⟨NX.out,rfl⟩)
         case measure=>simp [intOf];omega
        ·rw [hbv] at hb;have HBV:=Hz hbv;clear hbv;refine aq (.free 0 (.free 1 (.free 2 (.free 4 (.pure 3 (.pure 5 (.free 6 (.pure 7 (.fin))))))))) [] (fun w'=>w'.cell? ⟨lb,1,none⟩=some (.slice (some ⟨ib,0,none⟩) W.T.length W.T.length)∧w'.cell? ⟨ib,g5,none⟩=some (.bool true)∧w'.cell? ⟨sb,0,none⟩=some (.int .i64 (g5:Int))) (by kernel_rfl) (by kernel_rfl) ⟨c1,hb,z0⟩ ?_
         iterate 8 ((first | refine ak rfl rfl fun K hK=>?_ | refine aj rfl rfl fun K hK=>?_ | refine aB rfl rfl fun K hK=>?_ | refine aw rfl rfl fun K hK=>?_ | refine aA rfl rfl fun K hK=>?_);go_simp;refine hK _ ?_;clear hK K)
         refine aD ?_;go_wp2_with fail;have I6:=Hz (I5.out.same (Kz w5).drew);refine (I6.out.iy (3,et) (fun _=>HL2.out) HTT.out).mono ?_;rintro e w6 ⟨rfl,hU⟩;obtain ⟨nv6,i6⟩:=I6.out.to hU (I6.out.G.mark (GI.lead I6.out.G HOK.out (i:=(g5:Int)) (show av is4 (g5:Int)=true by rw [HAT.out,HBV.out]) (fun _=>HL2.out) (nZ HK5.out HMM.out rfl)));have NX:=Hz (show ∃ (f2:Nat) (t4:List Bool × List Nat) (nv4:Value),f2≤q.length∧Value.int .i64 ((f:Int)+1)=.int .i64 f2∧LI w w6 gp lb ib nv nv4 W q s0 (fun _=>False) t4∧SB n0 t4∧(t4.2=[]→(∀ j:Nat,j<W.T.length→fU W t4.1 (j:Int))∧∀ e ∈ q.take f2,kB t4.1 e) from
          ⟨f+1,a9 (is4,nx4) (3,et),nv6,hlt,rfl,i6,SB4.out.mark I6.out.G.len (3,et) (fun _=>HL2.out),fun h0=>by
           have hin:=fP I6.out.G.len (3,et) (fun _=>HL2.out) rfl;rw [gC h0] at hin ⊢;refine ⟨(CL4.out (g4 h0)).1,fun e he=>?_⟩;rw [htk.out] at he;rcases List.mem_append.1 he with he | he
           ·exact (CL4.out (g4 h0)).2 e he
           ·rw [List.mem_singleton] at he;subst he
            exact fun _=>hin⟩)
         clear hU i6 c1 hb z0 z1 sl cl hbl;go_wp2_with fail;go_roundw
         case rel=>
          first
          | exact NX.out
          | ((repeat apply Exists.intro);exact ⟨NX.out,rfl⟩)
         case measure=>simp [intOf];omega
       ·have hfe:=Hz (show q.take f=q by rw [List.take_of_length_le (by omega)]);have c2:=I4.out.L.hp.cell 2;have cl:=I4.out.L.hp.lt;simp only [Lz,Ls] at c2;obtain ⟨no4,nc4,en4,-,-,-⟩:=I4.out.L.hn.rd;have HE4:=Hz en4;rw [en4] at c2;clear en4;cases nx4 with
        | nil=>
         have CE:=Hz (show is4=W.b8 q s0 from GI.closed HOK.out I4.out.G HS0.out (CL4.out rfl).1 (by have:=(CL4.out rfl).2;rw [hfe.out] at this;exact this));have FE:=Hz (show gfalsW wr ib≤n0 by rw [I4.out.L.jt];exact SB4.out.1);simp only [List.length_nil] at c2;clear hf;go_wp2_with fail;go_roundw
         case rel=>exact ⟨false,(is4,[]),nv4,rfl,I4.out,fun _=>by rw [CE.out]⟩
         case measure=>have:=FE.out;(try dsimp only);omega
        | cons k4 r4=>
         have FE:=Hz (show gfalsW wr ib<n0 by
          rw [I4.out.L.jt];rcases SB4.out.2 with h | h
          ·cases h
          ·exact h)
         simp only [List.length_cons] at c2;have hnp:(0:Int)<((r4.length+1:Nat):Int):=by omega
         clear hf;go_wp2_with fail;go_roundw
         case rel=>exact ⟨true,(is4,k4 :: r4),nv4,rfl,I4.out,fun h=>by cases h⟩
         case measure=>have:=FE.out;(try dsimp only);omega
   | cons k r=>
    have hlv:=I2.out.G.lv _ (I2.out.G.nx k (by simp));have hkT:k<W.T.length:=by have:=hlv.2.1;omega
    have S2:=Hz (SPK.out _ I2.out.K);have p0:=S2.out.S.hp.cell 0;have pl:=S2.out.S.hp.lt;simp only [Lz,Ls] at p0;obtain ⟨gt,ot,ntc,etl,hgt,hrow⟩:=S2.out.nth hkT;have hnl:=I2.out.L.hn;rw [HEN.out] at hnl;obtain ⟨gn,on,cn,cur,e',hbn,hn1,hn2,hn3,hn4⟩:=hnl.laid (by simp);cases e';have hk0:wr.cell? ⟨gn,on,none⟩=some (.int .i64 k):=by
     have:=hbn.cell on;rw [this];have h5:((cur.drop on).take ((k :: r).length*1))[0]? = some (.int .i64 k):=by rw [hn4];rfl
     rw [List.getElem?_take,if_pos (by simp),List.getElem?_drop] at h5;exact h5
    have hpop:=b6.pop (by have h:=I2.out.L;rw [HEN.out] at h;exact h);have hfx:=I2.out.L.hp.free 2;have hd:W.T.length=W.T.length:=rfl;have HLV:=Hz hlv;have hded:(W.th (k:Int)).dead=false:=hlv.2.2;have hrk:=hrow.k hded;have hrf:=hrow.f hded;have HRS:=Hz (hrow.s hded);have HLEN:=Hz (show lL wr lb 2=r.length+1 from I2.out.L.mF);have HFAL:=Hz (show gfalsW wr ib=bw is from I2.out.L.jt);have HPOP:=Hz hpop;have HFV:=Hz etl;rw [etl] at p0;simp only [List.length_cons] at c2 hn1;have hgn:=hbn.lt;have hki:(k:Int)<W.T.length:=by omega
    have hrl:(0:Int)≤(r.length:Int):=by omega
    clear hnl hbn hn2 hn3 hn4 hpop hrow etl hlv hd;have hnp:(0:Int)<((r.length+1:Nat):Int):=by omega
    go_upto_region 3 with (fail);refine aq (.free 0 (.free 1 (.free 2 (.free 7 (.free 8 (.free 9 (.pure 3 (.free 4 (.free 5 (.pure 6 (.pure 10 (.free 11 (.pure 12 (.free 13 (.free 14 (.fin)))))))))))))))) [] (fun w'=>w'.cell? ⟨lb,0,none⟩=some (.pointer (some ⟨gp,0,none⟩))∧w'.cell? ⟨gp,0,none⟩=some (.slice (some ⟨gt,ot,none⟩) W.T.length ntc)∧w'.cell? ⟨lb,2,none⟩=some (.slice (some ⟨gn,on,none⟩) (r.length+1) nc)∧w'.cell? ⟨gn,on,none⟩=some (.int .i64 k)) (by kernel_rfl) (by kernel_rfl) ⟨c0,p0,c2,hk0⟩ ?_
    iterate 15 ((first | refine ak rfl rfl fun K hK=>?_ | refine aj rfl rfl fun K hK=>?_ | refine aB rfl rfl fun K hK=>?_ | refine aw rfl rfl fun K hK=>?_ | refine aA rfl rfl fun K hK=>?_);go_simp;refine hK _ ?_;clear hK K)
    refine aD ?_;go_upto_region 5 with (fail)
    obtain ⟨nv3,I3⟩:=I2.out.to (show dV wr gp lb ib nv2 _ (is,r) by rw [HEN.out];exact HPOP.out) I2.out.G.pop;have I3h:=Hz (I3.same (Kz _).drew);clear I3;have I3:=I3h;clear I3h HPOP hk0 hgn hgt p0 pl c0 c2 cl hfx hded hrk hrf HRS S2 hnp hrl hn1;generalize (wr.setCell { block:=lb,off:=2 } (Value.slice (if nc=1 then some { block:=gn,off:=on } else some { block:=gn,off:=on+1 }) r.length (nc-1))).drew=w3 at *;generalize (if nc=1 then some (⟨gn,on,none⟩:Addr) else some ⟨gn,on+1,none⟩)=pv at *;obtain ⟨hg3,hrow⟩:=(SPK.out _ I3.out.K).row hkT HFV.out;have hded:(W.th (k:Int)).dead=false:=HLV.out.2.2;have t0:=hrow.k hded;have t1:=hrow.f hded;have HRS:=Hz (hrow.s hded);obtain ⟨fo,fc,efv,-,hfml,hfm2⟩:=HRS.out.rd;have HEF:=Hz efv;rw [efv] at t1;clear efv hrow hded;obtain ⟨kd,hkd⟩:∃ x,(W.th (k:Int)).k=x:=⟨_,rfl⟩;rw [hkd] at t0;have HKD:=Hz hkd;clear hkd;have HAK:=Hz (show av is (k:Int)=true from I2.out.G.nx k (by simp));by_cases h1:kd=1
    ·subst h1;have HKK:=Hz (show (W.th (k:Int)).k=1∨(W.th (k:Int)).k=2 by have:=HKD.out;omega);go_wp2_with fail;obtain ⟨fs,hfs⟩:∃ l,(W.th (k:Int)).fs=l:=⟨_,rfl⟩;rw [hfs] at t1 HRS HEF hfml hfm2;have HFS:=Hz hfs;rw [hfs];clear hfs t0 t1 hg3;go_loopw [51] (fun u wx=>∃ (f:Nat) (t2:List Bool × List Nat) (nv2:Value),f≤fs.length∧u=.int .i64 f∧LI w wx gp lb ib nv nv2 W q s0 (fun i=>i=(k:Int)) t2∧(2*bw t2.1+t2.2.length≤2*bw is+r.length∧bw t2.1≤bw is)∧av t2.1 (k:Int)=true∧∀ v ∈ fs.take f,v.1=3→av t2.1 v.2=true) (fun u _=>fs.length-(intOf u).toNat)
     case atStart=>exact ⟨0,(is,r),nv3,Nat.zero_le _,rfl,I3.out,⟨Nat.le_refl _,Nat.le_refl _⟩,HAK.out,fun v hv=>by simp at hv⟩
     case round=>
      obtain ⟨f,t2,nv4,hf,rfl,hI,hms,hak,hlk⟩:=hrel;have I4:=Hz hI;have MS:=Hz hms;have AK:=Hz hak;have LK:=Hz hlk;clear hI hms hak hlk;by_cases hlt:f<fs.length
      ·have rd3:Rd wr fo (aC fs):=by
        have:=((SPK.out _ I4.out.K).row hkT HFV.out).2.s HLV.out.2.2;rw [HFS.out,HEF.out] at this;obtain ⟨_,_,e',rd,-,-⟩:=this.rd;cases e';exact rd
       obtain ⟨gf,of,rfl,hgf,v0,v1⟩:=rd3.val f hlt;have hmem:fs.getD f (0,0) ∈ fs:=by rw [Ld,Le hlt];exact List.getElem_mem hlt
       have htk:=Hz (show fs.take (f+1)=fs.take f ++ [fs.getD f (0,0)] by rw [←List.take_append_getElem hlt,Ld,Le hlt];rfl);have HMM:=Hz hmem;generalize fs.getD f (0,0)=v at *;have HIN:=Hz (show v.1=3→W.live v.2 from fun h3=>Wd.bp (HOK.out.tv _ HLV.out v (by rw [HFS.out];exact hmem)) h3);have LD:=Hz (GI.lead I4.out.G HOK.out AK.out (v:=v) HIN.out (jJ HKK.out (by rw [HFS.out];exact hmem)));clear hmem rd3;go_wp2_with (refine bd rfl 78 (.tmp 53) rfl (by kernel_rfl) gf (of+f*2) rfl _ _ v0 v1 ?_);have IA:=Hz (I4.out.same ((Kz wr).alloc (.cells #[.int .i64 v.1, .int .i64 v.2] 78)));refine (IA.out.iy v HIN.out HTT.out).mono ?_;rintro e w5 ⟨rfl,hU⟩;obtain ⟨nv5,i5⟩:=IA.out.to hU (IA.out.G.mark LD.out);have I5:=Hz i5;have UP:=Hz (j0 I4.out.G.len v HIN.out);have IN:=Hz (fP I4.out.G.len v HIN.out);have MM:=Hz (gD I4.out.G.len v HIN.out);clear hU i5 v0 v1 hgf IA;have HWR:=Hz (show wrap64 ((f:Int)+1)=((f+1:Nat):Int) from by unfold maxLen at hfml;rw [IntWalk.wrap64_in _ (by omega)];omega);have NX:=Hz (show ∃ (f2:Nat) (t3:List Bool × List Nat) (nv2:Value),f2≤fs.length∧Value.int .i64 (wrap64 ((f:Int)+1))=.int .i64 f2∧LI w w5 gp lb ib nv nv2 W q s0 (fun i=>i=(k:Int)) t3∧(2*bw t3.1+t3.2.length≤2*bw is+r.length∧bw t3.1≤bw is)∧av t3.1 (k:Int)=true∧∀ v ∈ fs.take f2,v.1=3→av t3.1 v.2=true from
        ⟨f+1,a9 t2 v,nv5,hlt,by rw [HWR.out],I5.out,by have:=MS.out;have:=MM.out;omega,UP.out _ AK.out,fun u hu h3=>by
         rw [htk.out] at hu;rcases List.mem_append.1 hu with hu | hu
         ·exact UP.out _ (LK.out u hu h3)
         ·rw [List.mem_singleton] at hu;subst hu;exact IN.out h3⟩)
       go_wp2_with fail;go_roundw
       case rel=>
        first
        | exact NX.out
        | ((repeat apply Exists.intro);exact ⟨NX.out,rfl⟩)
       case measure=>rw [HWR.out];simp only [intOf];omega
      ·have hfe:=Hz (show f=fs.length by omega);have IZ:=Hz (show LI w wr gp lb ib nv nv4 W q s0 (fun _=>False) t2 from ⟨I4.out.L,I4.out.K,I4.out.O,I4.out.G.done ⟨fun _ v hv h3=>LK.out v (by rw [hfe.out,List.take_length,←HFS.out];exact hv) h3,fun h3=>by have:=HKK.out;omega⟩⟩);clear hf;go_wp2_with fail;go_roundw
       case rel=>
        first
        | exact ⟨t2,nv4,IZ.out,by have:=MS.out;omega⟩
        | ((repeat apply Exists.intro);exact ⟨⟨t2,nv4,IZ.out,by have:=MS.out;omega⟩,rfl⟩)
       case measure=>
        have e1:=IZ.out.L.jt;have e2:=IZ.out.L.mF;rw [e1,e2,HLEN.out,HFAL.out];have:=MS.out;omega
    by_cases h2:kd=2
    ·subst h2;have HKK:=Hz (show (W.th (k:Int)).k=1∨(W.th (k:Int)).k=2 by have:=HKD.out;omega);go_wp2_with fail;obtain ⟨fs,hfs⟩:∃ l,(W.th (k:Int)).fs=l:=⟨_,rfl⟩;rw [hfs] at t1 HRS HEF hfml hfm2;have HFS:=Hz hfs;rw [hfs];clear hfs t0 t1 hg3;go_loopw [51] (fun u wx=>∃ (f:Nat) (t2:List Bool × List Nat) (nv2:Value),f≤fs.length∧u=.int .i64 f∧LI w wx gp lb ib nv nv2 W q s0 (fun i=>i=(k:Int)) t2∧(2*bw t2.1+t2.2.length≤2*bw is+r.length∧bw t2.1≤bw is)∧av t2.1 (k:Int)=true∧∀ v ∈ fs.take f,v.1=3→av t2.1 v.2=true) (fun u _=>fs.length-(intOf u).toNat)
     case atStart=>exact ⟨0,(is,r),nv3,Nat.zero_le _,rfl,I3.out,⟨Nat.le_refl _,Nat.le_refl _⟩,HAK.out,fun v hv=>by simp at hv⟩
     case round=>
      obtain ⟨f,t2,nv4,hf,rfl,hI,hms,hak,hlk⟩:=hrel;have I4:=Hz hI;have MS:=Hz hms;have AK:=Hz hak;have LK:=Hz hlk;clear hI hms hak hlk;by_cases hlt:f<fs.length
      ·have rd3:Rd wr fo (aC fs):=by
        have:=((SPK.out _ I4.out.K).row hkT HFV.out).2.s HLV.out.2.2;rw [HFS.out,HEF.out] at this;obtain ⟨_,_,e',rd,-,-⟩:=this.rd;cases e';exact rd
       obtain ⟨gf,of,rfl,hgf,v0,v1⟩:=rd3.val f hlt;have hmem:fs.getD f (0,0) ∈ fs:=by rw [Ld,Le hlt];exact List.getElem_mem hlt
       have htk:=Hz (show fs.take (f+1)=fs.take f ++ [fs.getD f (0,0)] by rw [←List.take_append_getElem hlt,Ld,Le hlt];rfl);have HMM:=Hz hmem;generalize fs.getD f (0,0)=v at *;have HIN:=Hz (show v.1=3→W.live v.2 from fun h3=>Wd.bp (HOK.out.tv _ HLV.out v (by rw [HFS.out];exact hmem)) h3);have LD:=Hz (GI.lead I4.out.G HOK.out AK.out (v:=v) HIN.out (jJ HKK.out (by rw [HFS.out];exact hmem)));clear hmem rd3;go_wp2_with (refine bd rfl 78 (.tmp 53) rfl (by kernel_rfl) gf (of+f*2) rfl _ _ v0 v1 ?_);have IA:=Hz (I4.out.same ((Kz wr).alloc (.cells #[.int .i64 v.1, .int .i64 v.2] 78)));refine (IA.out.iy v HIN.out HTT.out).mono ?_;rintro e w5 ⟨rfl,hU⟩;obtain ⟨nv5,i5⟩:=IA.out.to hU (IA.out.G.mark LD.out);have I5:=Hz i5;have UP:=Hz (j0 I4.out.G.len v HIN.out);have IN:=Hz (fP I4.out.G.len v HIN.out);have MM:=Hz (gD I4.out.G.len v HIN.out);clear hU i5 v0 v1 hgf IA;have HWR:=Hz (show wrap64 ((f:Int)+1)=((f+1:Nat):Int) from by unfold maxLen at hfml;rw [IntWalk.wrap64_in _ (by omega)];omega);have NX:=Hz (show ∃ (f2:Nat) (t3:List Bool × List Nat) (nv2:Value),f2≤fs.length∧Value.int .i64 (wrap64 ((f:Int)+1))=.int .i64 f2∧LI w w5 gp lb ib nv nv2 W q s0 (fun i=>i=(k:Int)) t3∧(2*bw t3.1+t3.2.length≤2*bw is+r.length∧bw t3.1≤bw is)∧av t3.1 (k:Int)=true∧∀ v ∈ fs.take f2,v.1=3→av t3.1 v.2=true from
        ⟨f+1,a9 t2 v,nv5,hlt,by rw [HWR.out],I5.out,by have:=MS.out;have:=MM.out;omega,UP.out _ AK.out,fun u hu h3=>by
         rw [htk.out] at hu;rcases List.mem_append.1 hu with hu | hu
         ·exact UP.out _ (LK.out u hu h3)
         ·rw [List.mem_singleton] at hu;subst hu;exact IN.out h3⟩)
       go_wp2_with fail;go_roundw
       case rel=>
        first
        | exact NX.out
        | ((repeat apply Exists.intro);exact ⟨NX.out,rfl⟩)
       case measure=>rw [HWR.out];simp only [intOf];omega
      ·have hfe:=Hz (show f=fs.length by omega);have IZ:=Hz (show LI w wr gp lb ib nv nv4 W q s0 (fun _=>False) t2 from ⟨I4.out.L,I4.out.K,I4.out.O,I4.out.G.done ⟨fun _ v hv h3=>LK.out v (by rw [hfe.out,List.take_length,←HFS.out];exact hv) h3,fun h3=>by have:=HKK.out;omega⟩⟩);clear hf;go_wp2_with fail;go_roundw
       case rel=>
        first
        | exact ⟨t2,nv4,IZ.out,by have:=MS.out;omega⟩
        | ((repeat apply Exists.intro);exact ⟨⟨t2,nv4,IZ.out,by have:=MS.out;omega⟩,rfl⟩)
       case measure=>
        have e1:=IZ.out.L.jt;have e2:=IZ.out.L.mF;rw [e1,e2,HLEN.out,HFAL.out];have:=MS.out;omega
    have e1:(kd == 1)=false:=by simpa using h1
    have e2:(kd == 2)=false:=by simpa using h2
    by_cases h3:kd=3
    ·subst h3;clear e1 e2 h1 h2;obtain ⟨u,v,hfs⟩:∃ u v,(W.th (k:Int)).fs=[u,v]:=qH (by
      have:=HOK.out.tk _ HLV.out;rw [HKD.out] at this;simp [aQ] at this
      omega)
     have rd3:Rd w3 fo (aC [u,v]):=by
      have:=HRS.out;rw [HEF.out,hfs] at this;obtain ⟨_,_,e',rd,-,-⟩:=this.rd;cases e';exact rd
     obtain ⟨gf,of,rfl,hgf,v0,v1⟩:=rd3.val 1 (by simp);have lenE:(W.th (k:Int)).fs.length=2:=by rw [hfs];rfl
     rw [lenE] at t1;simp only [List.getD_cons_zero,List.getD_cons_succ,Nat.zero_mul,Nat.add_zero,Nat.one_mul] at v0 v1;have HFS:=Hz hfs;have HIN:=Hz (show v.1=3→W.live v.2 from fun h3=>Wd.bp (HOK.out.tv _ HLV.out v (by rw [hfs];simp)) h3);have LD:=Hz (GI.lead I3.out.G HOK.out HAK.out (v:=v) HIN.out (oU HKD.out hfs));clear rd3 lenE hfs;go_wp2_with (refine bd rfl 78 (.tmp 66) rfl (by kernel_rfl) gf _ rfl _ _ v0 v1 ?_);refine (I3.out.iy v HIN.out HTT.out).mono ?_;rintro e w5 ⟨rfl,hU⟩;obtain ⟨nv5,i5⟩:=I3.out.to hU (I3.out.G.mark LD.out);have MM:=Hz (gD I3.out.G.len v HIN.out);have IN:=fP I3.out.G.len v HIN.out;have IZ:=Hz (show LI w w5 gp lb ib nv nv5 W q s0 (fun _=>False) (a9 (is,r) v) from ⟨i5.L,i5.K,i5.O,i5.G.done ⟨fun hk=>by have:=HKD.out;omega,fun _ x hx h3=>by
      rw [HFS.out] at hx;simp at hx;subst hx
      exact IN h3⟩⟩)
     clear hU i5 v0 v1 hgf IN;go_wp2_with fail;go_roundw
     case rel=>
      first
      | exact ⟨a9 (is,r) v,nv5,IZ.out,by have:=MM.out;(try dsimp only at this);omega⟩
      | ((repeat apply Exists.intro);exact ⟨⟨a9 (is,r) v,nv5,IZ.out,by have:=MM.out;(try dsimp only at this);omega⟩,rfl⟩)
     case measure=>
      have e1:=IZ.out.L.jt;have e2:=IZ.out.L.mF;rw [e1,e2,HLEN.out,HFAL.out];try dsimp only
      have:=MM.out;(try dsimp only at this);omega
    have e3:(kd == 3)=false:=by simpa using h3
    have IZ:=Hz (show LI w w3 gp lb ib nv nv3 W q s0 (fun _=>False) (is,r) from ⟨I3.out.L,I3.out.K,I3.out.O,I3.out.G.done ⟨fun hk=>by have:=HKD.out;omega,fun hk=>by have:=HKD.out;omega⟩⟩);have MM:=Hz (show 2*bw (is,r).1+(is,r).2.length≤2*bw is+r.length∧bw (is,r).1≤bw is from ⟨Nat.le_refl _,Nat.le_refl _⟩);clear h1 h2 h3;go_wp2_with fail;go_roundw
    case rel=>
     first
     | exact ⟨(is,r),nv3,IZ.out,by have:=MM.out;(try dsimp only at this);omega⟩
     | ((repeat apply Exists.intro);exact ⟨⟨(is,r),nv3,IZ.out,by have:=MM.out;(try dsimp only at this);omega⟩,rfl⟩)
    case measure=>
     have e1:=IZ.out.L.jt;have e2:=IZ.out.L.mF;rw [e1,e2,HLEN.out,HFAL.out];try dsimp only
     have:=MM.out;(try dsimp only at this);omega
end
end
section
structure MI (W:Wd) (X:Int→Prop) (t:List Bool × List Nat):Prop where
 len:t.1.length=W.T.length
 eq:∀ i,av t.1 i=true↔X i
 lv:∀ i,av t.1 i=true→W.live i
 nx:∀ k ∈ t.2,av t.1 ((k:Nat):Int)=true
 nd:t.2.Nodup
 al:∀ i,av t.1 i=true→i.toNat ∈ t.2
section
variable {W:Wd} {X Y:Int→Prop} {t:List Bool × List Nat} {is:List Bool} {q:List (Int × Int)} {major:Bool}
theorem MI.congr (M:MI W X t) (h:∀ i,X i↔Y i):MI W Y t:=⟨M.len,fun i=>(M.eq i).trans (h i),M.lv,M.nx,M.nd,M.al⟩
theorem MI.mark (M:MI W X t) {v:Vl} (hv:v.1=3→W.live v.2):MI W (fun i=>X i∨(v.1=3∧i=v.2)) (a9 t v):=by
 unfold a9;split
 ·rename_i h;have hlv:=hv h.1;have hset:=fun i=>eE (is:=t.1) (x:=v.2) (i:=i) hlv.1 (by rw [M.len];exact hlv.2.1);have hnm:v.2.toNat ∉ t.2:=fun hm=>by
   have:=M.nx _ hm;rw [show ((v.2.toNat:Nat):Int)=v.2 by have:=hlv.1;omega,h.2] at this;cases this
  refine ⟨by simp [M.len],fun i=>?_,fun i hi=>?_,fun k hk=>?_,?_,fun i hi=>?_⟩
  ·rw [hset i,M.eq i];constructor
   ·rintro (h1 | h1)
    ·exact .inr ⟨h.1,h1⟩
    ·exact .inl h1
   ·rintro (h1 | h1)
    ·exact .inr h1
    ·exact .inl h1.2
  ·rcases (hset i).1 hi with rfl | h1
   ·exact hlv
   ·exact M.lv i h1
  ·rcases List.mem_append.1 hk with h1 | h1
   ·exact (hset _).2 (.inr (M.nx k h1))
   ·simp at h1;subst h1;exact (hset _).2 (.inl (by have:=hlv.1;omega))
  ·rw [List.nodup_append];exact ⟨M.nd,by simp,fun a ha b hb=>by simp at hb;subst hb;rintro rfl;exact hnm ha⟩
  ·rcases (hset i).1 hi with rfl | h1
   ·simp
   ·exact List.mem_append.2 (.inl (M.al i h1))
 ·rename_i h;refine M.congr fun i=>⟨.inl,fun h1=>?_⟩;rcases h1 with h1 | ⟨h1,rfl⟩
  ·exact h1
  ·rw [←M.eq];cases e:av t.1 v.2
   ·exact absurd ⟨h1,e⟩ h
   ·rfl
theorem MI.gi (M:MI W X t):GI W q t.1 (fun _=>False) t:=
 ⟨M.len,fun i h=>h,fun i h=>aU.base h,M.lv,M.nx,M.nd,fun i hi hn _=>absurd (M.al i hi) hn⟩
theorem MI.iw (M:MI W X t):t.2.length≤W.T.length:=(M.gi (q:=[])).iw
def X1 (W:Wd) (major:Bool) (n:Nat) (i:Int):Prop:=0≤i∧i<n∧(W.th i).aV=true∧(W.th i).dead=false∧major=false
def X2 (W:Wd) (major:Bool) (k:Nat) (i:Int):Prop:=X1 W major W.T.length i∨((3,i):Vl) ∈ W.roots.take k
theorem MI.zero:MI W (X1 W major 0) (List.replicate W.T.length false,[]):=by
 have hf:∀ i,av (List.replicate W.T.length false) i=false:=fun i=>by
  unfold av;rw [Ld,List.getElem?_replicate];split <;> simp
 refine ⟨by simp,fun i=>?_,fun i hi=>?_,fun k hk=>?_,by simp,fun i hi=>?_⟩
 ·dsimp only;rw [hf];exact ⟨fun h=>(by cases h),fun h=>by have:=h.1;have:=h.2.1;omega⟩
 ·dsimp only at hi;rw [hf] at hi;cases hi
 ·simp at hk
 ·dsimp only at hi;rw [hf] at hi;cases hi
theorem MI.aV {n:Nat} (M:MI W (X1 W major n) t) (hn:n<W.T.length) (h:(W.th (n:Int)).aV=true∧(W.th (n:Int)).dead=false∧major=false):MI W (X1 W major (n+1)) (a9 t (3,(n:Int))):=by
 refine (M.mark (v:=(3,(n:Int))) (fun _=>⟨by simp,by simpa using hn,h.2.1⟩)).congr fun i=>?_;unfold X1;constructor
 ·rintro (⟨h0,h1,h2⟩ | ⟨_,h1⟩)
  ·exact ⟨h0,by omega,h2⟩
  ·have h1:i=(n:Int):=h1;subst h1;exact ⟨by omega,by omega,h⟩
 ·rintro ⟨h0,h1,h2⟩;by_cases e:i=(n:Int)
  ·exact .inr ⟨rfl,e⟩
  ·exact .inl ⟨h0,by omega,h2⟩
theorem MI.aL {n:Nat} (M:MI W (X1 W major n) t) (h:¬ ((W.th (n:Int)).aV=true∧(W.th (n:Int)).dead=false∧major=false)):MI W (X1 W major (n+1)) t:=by
 refine M.congr fun i=>?_;unfold X1;constructor
 ·rintro ⟨h0,h1,h2⟩;exact ⟨h0,by omega,h2⟩
 ·rintro ⟨h0,h1,h2⟩;refine ⟨h0,?_,h2⟩;by_cases e:i=(n:Int)
  ·subst e;exact absurd h2 h
  ·omega
theorem MI.sd (M:MI W (X1 W major W.T.length) t):MI W (X2 W major 0) t:=M.congr fun i=>by unfold X2;simp
theorem MI.root {k:Nat} (M:MI W (X2 W major k) t) (hok:W.ok) (hk:k<W.roots.length):MI W (X2 W major (k+1)) (a9 t (W.roots.getD k (0,0))):=by
 have hm:W.roots.getD k (0,0) ∈ W.roots:=by rw [Ld,Le hk];exact List.getElem_mem hk
 refine (M.mark (v:=W.roots.getD k (0,0)) (fun h3=>Wd.bp (hok.rv _ hm) h3)).congr fun i=>?_;have e:W.roots.take (k+1)=W.roots.take k ++ [W.roots.getD k (0,0)]:=by rw [←List.take_append_getElem hk,Ld,Le hk];rfl
 unfold X2;rw [e,List.mem_append,List.mem_singleton];constructor
 ·rintro ((h | h) | ⟨h,h'⟩)
  ·exact .inl h
  ·exact .inr (.inl h)
  ·exact .inr (.inr (by rw [h',←h]))
 ·rintro (h | h | h)
  ·exact .inl (.inl h)
  ·exact .inl (.inr h)
  ·rw [←h];exact .inr ⟨rfl,rfl⟩
theorem MI.first {k:Nat} (M:MI W (X2 W major k) t) (hk:W.roots.length≤k):t.1=W.first major:=by
 refine nj (by rw [M.len,Wd.dg]) fun i h0 h1=>?_;rw [M.eq,Wd.cL];unfold X2 X1;rw [List.take_of_length_le hk];rw [M.len] at h1;constructor
 ·rintro (⟨_,_,h⟩ | h)
  ·exact ⟨h0,h1, .inl h⟩
  ·exact ⟨h0,h1, .inr h⟩
 ·rintro ⟨_,_,h | h⟩
  ·exact .inl ⟨h0,h1,h⟩
  ·exact .inr h
structure g6 (W:Wd) (is:List Bool):Prop where
 len:is.length=W.T.length
 lv:∀ i,av is i=true→W.live i
 lk:∀ i,av is i=true→eH W is i
theorem eH.of_closed (hs:eN W.nd q fun k=>av is k=true) {i:Int} (hi:av is i=true):eH W is i:=by
 refine ⟨fun hk v hv h3=>hs i v.2 hi (.inl ⟨hk,?_⟩),fun hk v hv h3=>hs i v.2 hi (.inr (.inl ⟨hk,?_⟩))⟩
 ·rw [←h3];exact hv
 ·rw [←h3];exact hv
theorem g6.b8 (hok:W.ok) (hq:∀ e ∈ q,W.eY e) (hl:is.length=W.T.length) (hv:∀ i,av is i=true→W.live i):g6 W (W.b8 q is):=by
 have hlv:∀ i,av (W.b8 q is) i=true→W.live i:=fun i hi=>(bC.1 hi).2.2.least hv (Wd.dM hok hq);refine ⟨by unfold Wd.b8;rw [eO,hl],hlv,fun i hi=>eH.of_closed (q:=q) (fun i j hi hj=>?_) hi⟩;have hlv':=Wd.dM hok hq i j (hlv i hi) (hj.mono (fun k hk=>hlv k hk) (fun _ h=>h));refine bC.2 ⟨hlv'.1,by rw [hl];exact hlv'.2.1,?_⟩;exact aU.closed _ _ _ i j (bC.1 hi).2.2 (hj.mono (fun k hk=>(bC.1 hk).2.2) (fun _ h=>h))
theorem lA:∀ {l:List Bool} {i:Nat},l.getD i false=true→l.set i true=l
 | [],i,h=>rfl
 | b :: l,0,h=>by
  have:b=true:=by simpa using h
  subst this;rfl
 | b :: l,i+1,h=>by simp [lA (l:=l) (i:=i) (by simpa using h)]
theorem g6.mark (S:g6 W is) {x:Int} (hx:W.live x):(a9 (is,[]) (3,x)).1=is.set x.toNat true∧GI W q (is.set x.toNat true) (fun _=>False) (a9 (is,[]) (3,x)):=by
 have hset:=fun i=>eE (is:=is) (x:=x) (i:=i) hx.1 (by rw [S.len];exact hx.2.1);unfold a9;dsimp only;cases h:av is x
 ·rw [if_pos ⟨rfl,rfl⟩];refine ⟨rfl,by simp [S.len],fun i h=>h,fun i h=>aU.base h,fun i hi=>?_,fun k hk=>?_,by simp,fun i hi hn _=>?_⟩
  ·rcases (hset i).1 hi with rfl | h1
   ·exact hx
   ·exact S.lv i h1
  ·simp at hk;subst hk;exact (hset _).2 (.inl (by have:=hx.1;omega))
  ·rcases (hset i).1 hi with rfl | h1
   ·simp at hn
   ·exact (S.lk i h1).mono (fun k hk=>(hset k).2 (.inr hk))
 ·rw [if_neg (fun h=>by cases h.2)];have e:is.set x.toNat true=is:=lA (by rw [cJ hx.1];exact h);rw [e];exact ⟨rfl,S.len,fun i h=>h,fun i h=>aU.base h,S.lv,fun k hk=>by simp at hk,by simp,fun i hi _ _=>S.lk i hi⟩
def dB (is:List Bool) (br:Bool) (v:Vl):Vl:=if br=true∨aO is v=false then (2,0) else v
def eI (is:List Bool) (t:Th):Bool:=decide (t.k=4∧aO is (t.fs.getD 0 (0,0))=false)
theorem qe (h:W.ok) (hs:eN W.nd q fun k=>av is k=true) {i:Int} (hi:W.live i) (hb:av is i=true) :
  bV is i.toNat (W.th i)=⟨(W.th i).k,(W.th i).fs.map (dB is (eI is (W.th i))),true,false⟩:=by
 have hF:=ia h hs hi hb;have hf:=h.tk i hi;unfold bV at hF ⊢;rw [if_pos (by rw [cJ hi.1];exact hb)] at hF ⊢;dsimp only at hF;rw [hi.2.2];congr 1;by_cases hc4:(W.th i).k=4∧aO is ((W.th i).fs.getD 0 (0,0))=false
 ·rw [if_pos hc4];have:eI is (W.th i)=true:=by unfold eI;simpa using hc4
  rw [this];rw [hc4.1] at hf;simp [aQ] at hf;obtain ⟨a,b,e⟩:∃ a b,(W.th i).fs=[a,b]:=by
   match hx:(W.th i).fs,hf with
   | [a,b],_=>exact ⟨a,b,rfl⟩
  rw [e];simp [dB]
 have hbr:eI is (W.th i)=false:=by unfold eI;simpa using hc4
 rw [if_neg hc4] at hF ⊢;rw [hbr];by_cases hc3:(W.th i).k=3∧aO is ((W.th i).fs.getD 0 (0,0))=false
 ·rw [if_pos hc3] at hF ⊢;rw [hc3.1] at hf;simp [aQ] at hf;obtain ⟨a,b,e⟩:∃ a b,(W.th i).fs=[a,b]:=by
   match hx:(W.th i).fs,hf with
   | [a,b],_=>exact ⟨a,b,rfl⟩
  have h0:=hc3.2;rw [e] at hF h0 ⊢;simp only [List.getD_cons_zero,List.getD_cons_succ] at hF h0 ⊢;have hb2:=hF b (by simp);simp only [List.map_cons,List.map_nil,dB];rw [if_pos (.inr h0)];rcases hb2 with rfl | ⟨_,hb2⟩
  ·split <;> rfl
  ·rw [if_neg (by rw [hb2];simp)]
 ·rw [if_neg hc3] at hF ⊢;have e:(W.th i).fs.map (dB is false)=(W.th i).fs.map id:=List.map_congr_left fun v hv=>by
   unfold dB;rcases hF v hv with rfl | ⟨_,h⟩
   ·split <;> rfl
   ·rw [if_neg (by rw [h];simp)];rfl
  rw [e,List.map_id]
end
end
section
open Go.RowKit
def j1 (w:World) (cb lb:Nat):Prop:=ah w cb [.pointer (some ⟨lb,0,none⟩)] 195
section
variable {w w':World} {gx:GX} {gp lb ib cb:Nat} {rgv wv nv:Value} {regs q:List (Int × Int)} {fv:Nat→Value} {W:Wd} {t:List Bool}
theorem j1.lv (h:j1 w cb lb) {t:List Bool × List Nat} (L:b6 w gp lb ib nv t) (k:aa (dF lb ib nv) w w'):j1 w' cb lb:=k.ai h (fun e=>by
 obtain ⟨_,c',T',hc',hT⟩:=L.cO e;refine h.ne hc' ?_ rfl
 rcases hT with rfl | rfl | rfl <;> decide)
theorem dV.join {w1:World} {nv1:Value} {t2:List Bool × List Nat} (k1:aa (dF lb ib nv) w w1) (o1:∀ k,ag nv1 k→ag nv k∨w.heap.size≤k) (U:dV w1 gp lb ib nv1 w' t2):dV w gp lb ib nv w' t2:=by
 obtain ⟨nv2,L2,k2,o2⟩:=U;refine ⟨nv2,L2,k1.then k2 (fun b hb=>?_),fun b hb=>?_⟩
 ·rcases hb with hb | hb | hb
  ·exact .inl (.inl hb)
  ·exact .inl (.inr (.inl hb))
  ·exact (o1 b hb).imp (fun h=>.inr (.inr h)) id
 ·rcases o2 b hb with h | h
  ·exact o1 b h
  ·exact .inr (Nat.le_trans k1.size h)
theorem rq (x:Int) (S:fQ w gx gp rgv wv regs q fv W) (L:b6 w gp lb ib nv (t,[])) (B:j1 w cb lb) (N:g6 W t) (hok:W.ok) (hx:W.live x) (hq:∀ e ∈ q,W.eY e) (hT:W.T.length≤100000) (hql:q.length≤1000000) :
  Calls Try.prog 142 #[.int .i64 x, .pointer (some ⟨cb,0,none⟩)] w fun e w'=>e=.returned (.int .i64 x)∧dV w gp lb ib nv w' (W.b8 q (t.set x.toNat true),[]):=by
 obtain ⟨e1,G1⟩:=N.mark (q:=q) hx;have HM:=Hz (jD (3,x) L (fun _=>⟨hx.1,by dsimp only;rw [N.len];exact hx.2.1⟩) (by dsimp only;rw [N.len];exact hT) (by simp));have HS:=Hz S;have HL:=Hz L;have HB:=Hz B;have HOK:=Hz hok;have HQ:=Hz hq;have HT:=Hz hT;have HQL:=Hz hql;have HE:=Hz e1;have HG:=Hz G1;have b0:=B.cell 0;have bl:=B.lt;simp only [Lz] at b0;clear S L B N hok hx hq hT hql e1 G1;go_enter Try.func142,Try.ntmps142;go_wp2_with fail;refine HM.out.mono ?_;rintro e w1 ⟨rfl,hU⟩;obtain ⟨nv1,L1,k1,o1⟩:=hU;have HL1:=Hz L1;have B1:=Hz (HB.out.lv HL.out k1);have S1:=Hz (HS.out.lv HL.out k1);have K1:=Hz k1;have O1:=Hz o1;clear b0 bl L1 k1 o1;have b0:=B1.out.cell 0;have bl:=B1.out.lt;simp only [Lz] at b0;go_wp2_with fail;refine (GSpread_c S1.out HL1.out HOK.out (by rw [HE.out];exact HG.out) HQ.out HT.out HQL.out).mono ?_;rintro e w2 ⟨rfl,h2⟩;rw [HE.out] at h2;have T2:=Hz (show dV w gp lb ib nv w2 (W.b8 q (t.set x.toNat true),[]) from dV.join K1.out O1.out h2);clear h2 b0 bl;go_wp2_with fail;go_ret;exact ⟨rfl,T2.out⟩
def GJ (gx:GX) (gp lb ib cb:Nat) (fv:Nat→Value) (W:Wd) (w:World) (t:List Bool) (F:Nat→Prop):Prop:=
 ∃ nv,b6 w gp lb ib nv (t,[])∧j1 w cb lb∧cY w gx.l fv W.T∧(∀ i b,ag (fv i) b→∃ c,ah w b c 78)∧g6 W t∧F=fun k=>dF lb ib nv k∨k=cb∨ag gx.l k∨∃ i,ag (fv i) k
theorem GJ.type {F:Nat→Prop} (J:GJ gx gp lb ib cb fv W w t F) {k:Nat} (hk:F k):k<w.heap.size∧∃ c T,ah w k c T∧T≠146∧T≠170:=by
 obtain ⟨nv,L,B,hT,hF,-,rfl⟩:=J;rcases hk with hk | rfl | hk | ⟨i,hk⟩
 ·obtain ⟨h1,c,T,h2,h3⟩:=L.cO hk;refine ⟨h1,c,T,h2,?_⟩;rcases h3 with rfl | rfl | rfl <;> exact ⟨by decide,by decide⟩
 ·exact ⟨B.lt,_,_,B,by decide,by decide⟩
 ·obtain ⟨cs,hs,_⟩:=hT;obtain ⟨h1,c,hc⟩:=hs.own hk;exact ⟨h1,c,_,hc,by decide,by decide⟩
 ·obtain ⟨c,hc⟩:=hF i k hk;exact ⟨hc.lt,c,_,hc,by decide,by decide⟩
theorem GJ.apart {F:Nat→Prop} (J:GJ gx gp lb ib cb fv W w t F) (S:aZ gx w gp rgv wv regs q):fy F gp rgv wv:=by
 rintro k ⟨h1,h2⟩;obtain ⟨_,c,T,hb,n1,n2⟩:=J.type h1;exact S.ky hb n1 n2 h2
noncomputable def j2 (gx:GX) (gp lb ib cb:Nat) (fv:Nat→Value) (W:Wd) (hok:W.ok) (hT:W.T.length≤100000):c8 gx Try.prog gp (List Bool) where
 J:=fun w t F=>GJ gx gp lb ib cb fv W w t F
 D:=fun _ x=>W.live x
 DK:=fun _ x=>W.live x
 Q:=W.eY
 alive:=av
 ae:=W.bh
 now:=fq
 fa:=140
 fk:=142
 fn:=141
 a1:=#[.pointer (some ⟨lb,0,none⟩)]
 a2:=#[]
 k1:=#[]
 k2:=#[.pointer (some ⟨cb,0,none⟩)]
 n1:=#[]
 n2:=#[]
 ea:=fun args w=>by kernel_rfl
 ek:=fun args w=>by kernel_rfl
 en:=fun args w=>by kernel_rfl
 J_keep:=fun h k hn=>by
  obtain ⟨nv,h1,h2,h3,h4,h5,rfl⟩:=h;exact ⟨nv,h1.ae k (fun b hb=>hn b (.inl hb)),k.ai h2 (hn _ (.inr (.inl rfl))),h3.ae k (fun b hb=>hn b (.inr (.inr (.inl hb)))) (fun i b hb=>hn b (.inr (.inr (.inr ⟨i,hb⟩)))),
   fun i b hb=>by obtain ⟨c,hc⟩:=h4 i b hb;exact ⟨c,k.ai hc (hn b (.inr (.inr (.inr ⟨i,hb⟩))))⟩,h5,rfl⟩
 J_lt:=fun h hk=>(GJ.type h hk).1
 alive_c:=fun w t F x hJ hx=>by
  obtain ⟨nv,h1,-,-,-,h5,-⟩:=hJ;obtain ⟨x,rfl⟩:=Int.eq_ofNat_of_zero_le hx.1;have hl:=h5.len;exact (qd x h1 (by have:=hx.2.1;dsimp only;omega) (by dsimp only;omega)).mono (by rintro e w' ⟨rfl,rfl⟩;exact ⟨rfl,aa.refl _ _⟩)
 now_c:=fun w t F x hJ _=>by
  refine (show Calls Try.prog 141 #[.int .i64 x] w fun e w'=>e=.returned (.int .i64 x)∧w=w' from ?_).mono (by rintro e w' ⟨rfl,rfl⟩;exact ⟨rfl,aa.refl _ _⟩);go_enter Try.func141,Try.ntmps141;go_wp2_with fail;go_ret;exact ⟨rfl,rfl⟩
 keep_c:=fun w t F rv qv regs wait x hJ hS hA hx hq hl=>by
  obtain ⟨nv,h1,h2,h3,h4,h5,rfl⟩:=hJ;have S:fQ w gx gp rv qv regs wait fv W:=⟨hS,h3,h4⟩;refine (rq x S h1 h2 h5 hok hx (fun e he=>(hq e he).2) hT hl).mono ?_;rintro e w' ⟨rfl,nv',L',k',o'⟩;have S':=S.lv h1 k';have J':GJ gx gp lb ib cb fv W w' (W.b8 wait (t.set x.toNat true)) _:=⟨nv',L',h2.lv h1 k',S'.T,S'.F,g6.b8 hok (fun e he=>(hq e he).2) (by rw [List.length_set];exact h5.len) (fun i hi=>by
   rcases (eE hx.1 (by rw [h5.len];exact hx.2.1)).1 hi with rfl | h
   ·exact hx
   ·exact h5.lv i h),rfl⟩
  refine ⟨rfl,_,J',S'.S,J'.apart S'.S,k'.mono (fun k _ hk=>.inl (.inl hk)),fun k hk=>?_⟩;rcases hk with (rfl | rfl | hk) | hk
  ·exact .inl (.inl (.inl rfl))
  ·exact .inl (.inl (.inr (.inl rfl)))
  ·exact (o' k hk).imp (fun h=>.inl (.inr (.inr h))) id
  ·exact .inl (.inr hk)
 DK_D:=fun h=>h
 DK_keep:=fun _ h=>h
 D_keep:=fun _ h=>h
 D_new:=fun h=>h
 D_wait:=fun _ h=>h
 Q_new:=fun _ h=>h
 Q_wait:=fun h=>h
 keep_len:=rfl
end
end
section
open Go.RowKit
theorem gh:∀ (l:List (Int × Int)) (k:Nat) (v:Int × Int),aC (l.set k v)=((aC l).set (k*2) (.int .i64 v.1)).set (k*2+1) (.int .i64 v.2)
 | [],k,v=>by simp [aC]
 | e :: l,0,v=>by rw [List.set_cons_zero,eo,eo];rfl
 | e :: l,k+1,v=>by
  rw [List.set_cons_succ,eo,eo,gh l k v];rw [show (k+1)*2=k*2+1+1 by omega]
  rfl
theorem j3 {P:Program} {ops:Array Oper} {rest:List Oper} {o:Oper} {a:Act} {w:World} {Q:Exit→Act→World→Prop} (hgd:o.guard=none) (ty:TypeId) (x y:Operand) (ho:o.op=.store ty x y) (hd:o.dst=none)
  (g off n cap k:Nat) (xs:List Value) (e:Nat) (v0 v1:Value) (hx:a.eval x=.pointer (some ⟨g,off+k*2,none⟩)) (hy:a.eval y=.agg #[v0,v1])
  (hs:Sl w e 2 (.slice (some ⟨g,off,none⟩) n cap) n xs) (hk:k<n) (hi:(P.info? ty).map (·.size)=some 2) (h0:v0.oneCell'=true) (h1:v1.oneCell'=true)
  (h:∀ w',Sl w' e 2 (.slice (some ⟨g,off,none⟩) n cap) n ((xs.set (k*2) v0).set (k*2+1) v1)→aa (·=g) w w'→w'.heap.size=w.heap.size→wpList P ops Q rest a w'):wpList P ops Q (o :: rest) a w:=by
 obtain ⟨g',o',cap',cur,e1,hb,hc1,hc2,hc3,hc4⟩:=hs.laid (by omega);cases e1;have hth:w.there g (off+k*2) 2:=fun j hj=>by
  have hl:off+k*2+j<cur.length:=by omega
  refine ⟨?_,hb.free _⟩;rw [hb.cell,Le hl];rfl
 refine wpList_store_mid hgd ty x y ho g (off+k*2) #[v0,v1] hx hy hth (by simpa using hi) (all_oneCell_toArray (cs:=[v0,v1]) (by intro v hv;simp at hv;rcases hv with rfl | rfl <;> assumption)) ?_;rw [hd];refine h _ ?_ ?_ ?_
 ·have s1:=hs.set (j:=k*2) (u:=v0) (by omega);have s2:=s1.set (j:=k*2+1) (u:=v1) (by omega);rw [←Nat.add_assoc] at s2;exact s2
 ·exact ((aa.refl (·=g) w).setCell (p:=⟨g,off+k*2,none⟩) (.inl rfl) v0).setCell (p:=⟨g,off+k*2+1,none⟩) (.inl rfl) v1
 ·show (World.setCell _ _ _).heap.size=_
  simp
theorem bD {P:Program} {o:Oper} {a:Act} {w:World} {K:Act→World→Prop} (ty:TypeId) (x y:Operand) (ho:o.op=.store ty x y) (hd:o.dst=none)
  (g off n cap k:Nat) (xs:List Value) (e:Nat) (v0 v1:Value) (hx:a.eval x=.pointer (some ⟨g,off+k*2,none⟩)) (hy:a.eval y=.agg #[v0,v1])
  (hs:Sl w e 2 (.slice (some ⟨g,off,none⟩) n cap) n xs) (hk:k<n) (hi:(P.info? ty).map (·.size)=some 2) (h0:v0.oneCell'=true) (h1:v1.oneCell'=true)
  (h:∀ w',Sl w' e 2 (.slice (some ⟨g,off,none⟩) n cap) n ((xs.set (k*2) v0).set (k*2+1) v1)→aa (·=g) w w'→w'.heap.size=w.heap.size→K a w'):aM P o a w K:=by
 obtain ⟨g',o',cap',cur,e1,hb,hc1,hc2,hc3,hc4⟩:=hs.laid (by omega);cases e1;have hth:w.there g (off+k*2) 2:=fun j hj=>by
  have hl:off+k*2+j<cur.length:=by omega
  refine ⟨?_,hb.free _⟩;rw [hb.cell,Le hl];rfl
 have hh:K a (w.setCells g (off+k*2) [v0,v1]):=by
  refine h _ ?_ ?_ ?_
  ·have s1:=hs.set (j:=k*2) (u:=v0) (by omega);have s2:=s1.set (j:=k*2+1) (u:=v1) (by omega);rw [←Nat.add_assoc] at s2;exact s2
  ·exact ((aa.refl (·=g) w).setCell (p:=⟨g,off+k*2,none⟩) (.inl rfl) v0).setCell (p:=⟨g,off+k*2+1,none⟩) (.inl rfl) v1
  ·show (World.setCell _ _ _).heap.size=_
   simp
 unfold aM execOp;simp only [ho,hx,hy,Instr.storeAt,Instr.sureAddr,Sem.run_bind,Sem.run_pure,Result.andThen_ok,run_storeVar_mid w g (off+k*2) ty #[v0,v1] hth (by simpa using hi) (all_oneCell_toArray (cs:=[v0,v1]) (by intro v hv;simp at hv;rcases hv with rfl | rfl <;> assumption))]
 first | exact hh | (show K (a.put o.dst undef) _;rw [hd];exact hh)
end
section
open Go.RowKit
theorem fB {P:Program} {w:World} {ops:Array Oper} {o:Oper} {a:Act} {rest:List Oper} {Q:Exit→Act→World→Prop} (hw:Region.wanted o (yielded ops a.tmps)=true) (t:TypeId) (x:Operand) (ho:o.op=.load t x) (hr:rowB P t 2=true) (b off:Nat) (hx:a.eval x=.pointer (some ⟨b,off,none⟩)) (v0 v1:Value)
  (h0:w.cell? ⟨b,off,none⟩=some v0) (h1:w.cell? ⟨b,off+1,none⟩=some v1) (h:wpList P ops Q rest (a.put o.dst (.agg #[v0,v1])) w):wpList P ops Q (o :: rest) a w:=by
 obtain ⟨d,hu,hd,hi⟩:=fX hr;exact wpList_step fun K hK=>by
  rw [if_pos hw];exact wp_load_mid t x ho b off hx [v0,v1] d (jO h0 h1) hu hd hi (hK _ _ h)
end
section
open Go.RowKit
section
variable {w w':World} {tv:Value} {fv:Nat→Value} {L:List Th} {i:Nat} {is:List Bool} {ib:Nat}
theorem dr {cs:List Value} {i n:Nat} (hl:cs.length=n*4) (hi:i<n) (j:Nat) (hj:j<4) (k:Nat) (hk:k<4) (v:Value) :
  (cs.set (i*4+j) v)[i*4+k]? = if j=k then some v else cs[i*4+k]? := by
 rw [List.getElem?_set];by_cases e:j=k
 ·subst e;simp;omega
 ·rw [if_neg (by omega),if_neg e]
theorem ez {cs:List Value} {i m:Nat} (h:m≠i) (j:Nat) (hj:j<4) (k:Nat) (hk:k<4) (v:Value):(cs.set (i*4+j) v)[m*4+k]? = cs[m*4+k]? := by
 rw [List.getElem?_set,if_neg (by omega)]
theorem qI {L:List Th} {i:Nat} (hi:i<L.length) (t:Th) (j:Nat):(L.set i t).getD j Th.none=if j=i then t else L.getD j Th.none:=by
 simp only [Ld,List.getElem?_set];by_cases e:i=j
 ·subst e;simp [hi]
 ·rw [if_neg e,if_neg (fun h=>e h.symm)]
theorem cY.row {g o nc:Nat} (T:cY w (.slice (some ⟨g,o,none⟩) L.length nc) fv L) (hi:i<L.length):g<w.heap.size∧(∀ j,w.frozen? ⟨g,j,none⟩=false) ∧
  iS w (fv i) (L.getD i Th.none) (w.cell? ⟨g,o+i*4,none⟩) (w.cell? ⟨g,o+i*4+1,none⟩) (w.cell? ⟨g,o+i*4+2,none⟩) (w.cell? ⟨g,o+i*4+3,none⟩):=by
 obtain ⟨cs,hs,hr⟩:=T;obtain ⟨g',o',cap,cur,e,hb,h1,h2,h3,h4⟩:=hs.laid (by omega);cases e;have hl:=hs.1;have hc:∀ j,j<L.length*4→w.cell? ⟨g,o+j,none⟩=cs[j]? := fun j hj=>by
  rw [hb.cell,←h4,List.getElem?_take,if_pos hj,List.getElem?_drop]
 refine ⟨hb.lt,hb.free,?_⟩;have:=hr i hi;rw [hc (i*4) (by omega),Nat.add_assoc o (i*4) 1,hc (i*4+1) (by omega),Nat.add_assoc o (i*4) 2,hc (i*4+2) (by omega),Nat.add_assoc o (i*4) 3,hc (i*4+3) (by omega)];exact this
theorem cY.qJ (T:cY w tv fv L) (k:aa (fun _=>False) w w'):cY w' tv fv L:=T.ae k (fun _ _ h=>h) (fun _ _ _ h=>h)
theorem se {f:Vl→Vl} {fs:List Vl} {q:Nat}:((fs.take q).map f ++ fs.drop q).getD q (0,0)=fs.getD q (0,0):=by
 simp only [Ld];by_cases h:q<fs.length
 ·rw [List.getElem?_append_right (by simp;omega)];simp [Nat.min_eq_left (Nat.le_of_lt h)]
 ·rw [List.getElem?_eq_none (by simp;omega),List.getElem?_eq_none (by omega)]
theorem sf {f:Vl→Vl} {fs:List Vl} {q:Nat} (h:q<fs.length):(fs.take (q+1)).map f ++ fs.drop (q+1)=((fs.take q).map f ++ fs.drop q).set q (f (fs.getD q (0,0))):=by
 rw [List.set_append_right _ _ (by simp;omega),←List.take_append_getElem h,List.map_append,List.append_assoc];congr 1;rw [List.length_map,List.length_take,Nat.min_eq_left (Nat.le_of_lt h),Nat.sub_self,List.drop_eq_getElem_cons h,List.set_cons_zero];rw [Ld,Le h]
 rfl
theorem ts {f:Vl→Vl} {fs:List Vl} {q:Nat} (h:q<fs.length) (e:f (fs.getD q (0,0))=fs.getD q (0,0)):(fs.take (q+1)).map f ++ fs.drop (q+1)=(fs.take q).map f ++ fs.drop q:=by
 rw [sf h,e];apply List.ext_getElem?;intro j;rw [List.getElem?_set];by_cases hj:q=j
 ·subst hj;have hl:q<((fs.take q).map f ++ fs.drop q).length:=by simp;omega
  rw [if_pos rfl,if_pos hl,←se (f:=f),Ld,Le hl];rfl
 ·rw [if_neg hj]
theorem cY.aV {g o nc:Nat} (T:cY w (.slice (some ⟨g,o,none⟩) L.length nc) fv L) (hi:i<L.length) (hf:∀ j b,ag (fv j) b→b≠g) :
  cY (w.setCell ⟨g,o+i*4+2,none⟩ (.bool true)) (.slice (some ⟨g,o,none⟩) L.length nc) fv (L.set i { L.getD i Th.none with aV:=true })∧aa (·=g) w (w.setCell ⟨g,o+i*4+2,none⟩ (.bool true)):=by
 have K:=(aa.refl (·=g) w).setCell (p:=⟨g,o+i*4+2,none⟩) (.inl rfl) (.bool true);obtain ⟨cs,hs,hr⟩:=T;have hl:=hs.1;have hs2:=hs.set (j:=i*4+2) (u:=.bool true) (by omega);rw [←Nat.add_assoc] at hs2;refine ⟨⟨_,by rw [List.length_set];exact hs2,fun j hj=>?_⟩,K⟩;rw [List.length_set] at hj;have h:=hr j hj;rw [qI hi];by_cases e:j=i
 ·subst e;rw [if_pos rfl,←Nat.add_zero (j*4),dr hl hi 2 (by decide) 0 (by decide),dr hl hi 2 (by decide) 1 (by decide),dr hl hi 2 (by decide) 2 (by decide),dr hl hi 2 (by decide) 3 (by decide)];obtain ⟨a,b,c,h0,h1,h2⟩:=h.c;exact ⟨h.d,h.k,h.f,fun _=>rfl,fun hd=>(h.s hd).ae K (fun b hb e=>hf j b hb e),a,b,true,h0,h1,rfl⟩
 ·rw [if_neg e,←Nat.add_zero (j*4),ez e 2 (by decide) 0 (by decide),ez e 2 (by decide) 1 (by decide),ez e 2 (by decide) 2 (by decide),ez e 2 (by decide) 3 (by decide)];exact ⟨h.d,h.k,h.f,h.o,fun hd=>(h.s hd).ae K (fun b hb e=>hf j b hb e),h.c⟩
theorem cY.gone {g o nc:Nat} {cs:List Value} {t:Th} (hs:Sl w 188 4 (.slice (some ⟨g,o,none⟩) L.length nc) L.length cs)
  (hr:∀ i,i<L.length→iS w (fv i) (L.getD i Th.none) cs[i*4]? cs[i*4+1]? cs[i*4+2]? cs[i*4+3]?) (hi:i<L.length) (hf:∀ j b,ag (fv j) b→b≠g) (ht:t.dead=true)
  (hs':Sl w' 188 4 (.slice (some ⟨g,o,none⟩) L.length nc) L.length ((((cs.set (i*4) (.int .i64 0)).set (i*4+1) (.slice none 0 0)).set (i*4+2) (.bool false)).set (i*4+3) (.bool true))) (K:aa (·=g) w w') :
  cY w' (.slice (some ⟨g,o,none⟩) L.length nc) (fun j=>if j=i then .slice none 0 0 else fv j) (L.set i t):=by
 have hl:=hs.1;refine ⟨_,by rw [List.length_set];exact hs',fun j hj=>?_⟩;rw [List.length_set] at hj;have h:=hr j hj;rw [qI hi];rw [←Nat.add_zero (i*4)]
 show iS w' (if j=i then Value.slice none 0 0 else fv j) _ _ _ _ _
 have l1:(cs.set (i*4+0) (.int .i64 0)).length=L.length*4:=by simpa using hl
 have l2:((cs.set (i*4+0) (.int .i64 0)).set (i*4+0+1) (.slice none 0 0)).length=L.length*4:=by simpa using hl
 have l3:(((cs.set (i*4+0) (.int .i64 0)).set (i*4+0+1) (.slice none 0 0)).set (i*4+0+2) (.bool false)).length=L.length*4:=by simpa using hl
 by_cases e:j=i
 ·subst e;rw [if_pos rfl,if_pos rfl];refine ⟨?_,fun h=>?_,fun h=>?_,fun h=>?_,fun h=>?_,0, .slice none 0 0,false,?_,?_,?_⟩
  ·simp only [Nat.add_zero] at l3 ⊢;rw [dr l3 hi 3 (by decide) 3 (by decide),if_pos rfl,ht]
  ·rw [ht] at h;cases h
  ·rw [ht] at h;cases h
  ·rw [ht] at h;cases h
  ·rw [ht] at h;cases h
  ·simp only [Nat.add_zero] at l1 l2 l3 ⊢;have e3:=dr l3 hi 3 (by decide) 0 (by decide) (.bool true);have e2:=dr l2 hi 2 (by decide) 0 (by decide) (.bool false);have e1:=dr l1 hi 1 (by decide) 0 (by decide) (.slice none 0 0);have e0:=dr hl hi 0 (by decide) 0 (by decide) (.int .i64 0);simp only [Nat.add_zero] at e0 e1 e2 e3;rw [e3,if_neg (by decide),e2,if_neg (by decide),e1,if_neg (by decide),e0];simp
  ·simp only [Nat.add_zero] at l1 l2 l3 ⊢;rw [dr l3 hi 3 (by decide) 1 (by decide),if_neg (by decide),dr l2 hi 2 (by decide) 1 (by decide),if_neg (by decide),dr l1 hi 1 (by decide) 1 (by decide),if_pos rfl]
  ·simp only [Nat.add_zero] at l1 l2 l3 ⊢;rw [dr l3 hi 3 (by decide) 2 (by decide),if_neg (by decide),dr l2 hi 2 (by decide) 2 (by decide),if_pos rfl]
 ·rw [if_neg e,if_neg e,←Nat.add_zero (j*4)];have H:∀ k,k<4→((((cs.set (i*4+0) (.int .i64 0)).set (i*4+0+1) (.slice none 0 0)).set (i*4+0+2) (.bool false)).set (i*4+0+3) (.bool true))[j*4+k]? = cs[j*4+k]? := fun k hk=>by
   simp only [Nat.add_zero];rw [ez e 3 (by decide) k hk,ez e 2 (by decide) k hk,ez e 1 (by decide) k hk];have:=ez (cs:=cs) e 0 (by decide) k hk (.int .i64 0);simpa using this
  rw [H 0 (by decide),H 1 (by decide),H 2 (by decide),H 3 (by decide)];exact ⟨h.d,h.k,h.f,h.o,fun hd=>(h.s hd).ae K (fun b hb e=>hf j b hb e),h.c⟩
theorem cY.cm {fs:List Vl} (T:cY w tv fv L) (hi:i<L.length) (hd:(L.getD i Th.none).dead=false) (K:aa (ag (fv i)) w w') (hs:Sl w' 78 2 (fv i) fs.length (aC fs))
  (ht:∀ b,ag tv b→¬ ag (fv i) b) (hf:∀ j b,ag (fv i) b→ag (fv j) b→j=i):cY w' tv fv (L.set i { L.getD i Th.none with fs:=fs }):=by
 obtain ⟨cs,hc,hr⟩:=T;refine ⟨cs,by rw [List.length_set];exact hc.ae K ht,fun j hj=>?_⟩;rw [List.length_set] at hj;have h:=hr j hj;rw [qI hi];by_cases e:j=i
 ·subst e;rw [if_pos rfl];exact ⟨h.d,h.k,h.f,h.o,fun _=>hs,h.c⟩
 ·rw [if_neg e];exact ⟨h.d,h.k,h.f,h.o,fun hd=>(h.s hd).ae K (fun b hb h2=>e (hf j b h2 hb)),h.c⟩
theorem ju {P:Program} {ops:Array Oper} {rest:List Oper} {o:Oper} {a:Act} {w:World} {Q:Exit→Act→World→Prop} (hgd:o.guard=none) (ty:TypeId) (x y:Operand) (ho:o.op=.store ty x y) (hd:o.dst=none)
  (g off n cap k:Nat) (xs:List Value) (e:Nat) (v0 v1 v2 v3:Value) (hx:a.eval x=.pointer (some ⟨g,off+k*4,none⟩)) (hy:a.eval y=.agg #[v0,v1,v2,v3])
  (hs:Sl w e 4 (.slice (some ⟨g,off,none⟩) n cap) n xs) (hk:k<n) (hi:(P.info? ty).map (·.size)=some 4) (h0:∀ v ∈ [v0,v1,v2,v3],v.oneCell'=true)
  (h:∀ w',Sl w' e 4 (.slice (some ⟨g,off,none⟩) n cap) n ((((xs.set (k*4) v0).set (k*4+1) v1).set (k*4+2) v2).set (k*4+3) v3)→aa (·=g) w w'→w'.heap.size=w.heap.size→wpList P ops Q rest a w'):wpList P ops Q (o :: rest) a w:=by
 obtain ⟨g',o',cap',cur,e1,hb,hc1,hc2,hc3,hc4⟩:=hs.laid (by omega);cases e1;have hth:w.there g (off+k*4) 4:=fun j hj=>by
  have hl:off+k*4+j<cur.length:=by omega
  refine ⟨?_,hb.free _⟩;rw [hb.cell,Le hl];rfl
 refine wpList_store_mid hgd ty x y ho g (off+k*4) #[v0,v1,v2,v3] hx hy hth (by simpa using hi) (all_oneCell_toArray (cs:=[v0,v1,v2,v3]) h0) ?_;rw [hd];refine h _ ?_ ?_ ?_
 ·have s1:=hs.set (j:=k*4) (u:=v0) (by omega);have s2:=s1.set (j:=k*4+1) (u:=v1) (by omega);have s3:=s2.set (j:=k*4+2) (u:=v2) (by omega);have s4:=s3.set (j:=k*4+3) (u:=v3) (by omega);simp only [←Nat.add_assoc] at s4;exact s4
 ·exact ((((aa.refl (·=g) w).setCell (p:=⟨g,off+k*4,none⟩) (.inl rfl) v0).setCell (p:=⟨g,off+k*4+1,none⟩) (.inl rfl) v1).setCell (p:=⟨g,off+k*4+2,none⟩) (.inl rfl) v2).setCell (p:=⟨g,off+k*4+3,none⟩) (.inl rfl) v3
 ·show (World.setCell _ _ _).heap.size=_
  simp
theorem nI (v:Vl) {bb n:Nat} (hb:ah w bb [.slice (some ⟨ib,0,none⟩) n n] 76) (hi:ah w ib (is.map Value.bool) 4) (hn:is.length=n) (hl:n≤1000000) (hv:v.1=3→0≤v.2∧v.2<n) :
  Calls Try.prog 162 #[.agg #[.int .i64 v.1, .int .i64 v.2], .pointer (some ⟨bb,0,none⟩)] w fun e w'=>e=.returned (.bool (!aO is v))∧aa (fun _=>False) w w':=by
 obtain ⟨kd,x⟩:=v;dsimp only at hv ⊢;have b0:=hb.cell 0;have bl:=hb.lt;simp only [Lz] at b0;by_cases h3:kd=3
 ·subst h3;obtain ⟨x0,x1⟩:=hv rfl;obtain ⟨x,rfl⟩:=Int.eq_ofNat_of_zero_le x0;have hxl:x<is.length:=by omega
  have hc:w.cell? ⟨ib,x,none⟩=some (.bool (is.getD x false)):=by rw [hi.cell,List.getElem?_map,Ld,Le hxl];rfl
  have hil:=hi.lt;have HE:=Hz (show (!aO is (3,(x:Int)))=!is.getD x false by unfold aO;rw [cG];simp);generalize is.getD x false=bv at *;clear hb hi hv x0;go_enter Try.func162,Try.ntmps162;go_wp2_with fail;go_ret;exact ⟨cW HE.out.symm,(aa.refl _ _).alloc _⟩
 ·have e3:(kd == 3)=false:=by simpa using h3
  have HE:=Hz (show (!aO is (kd,x))=false by unfold aO;simp [h3]);clear hb hi hv h3;go_enter Try.func162,Try.ntmps162;go_wp2_with fail;go_ret;exact ⟨cW HE.out.symm,(aa.refl _ _).alloc _⟩
end
end
section
open Go.RowKit
def g7 (is:List Bool) (i:Nat) (t:Th):Th:=if is.getD i false=true then ⟨t.k,t.fs.map (dB is (eI is t)),true,t.dead⟩ else ⟨t.k,[],t.aV,true⟩
structure sg (L:List Th) (is:List Bool) (i:Nat):Prop where
 d:is.getD i false=true→(L.getD i Th.none).dead=false
 v:is.getD i false=true→∀ v ∈ (L.getD i Th.none).fs,v.1=3→0≤v.2∧v.2<L.length
 n:is.getD i false=true→(L.getD i Th.none).fs.length≤1000
 f:is.getD i false=true→(L.getD i Th.none).k=4→0<(L.getD i Th.none).fs.length
section
variable {w w':World} {tv:Value} {fv:Nat→Value} {L:List Th} {i:Nat} {is:List Bool} {ib:Nat}
def po (w:World) (tv:Value) (fv:Nat→Value) (L:List Th) (is:List Bool) (i:Nat) (w':World):Prop:=
 ∃ fv',cY w' tv fv' (L.set i (g7 is i (L.getD i Th.none)))∧aa (fun k=>ag tv k∨ag (fv i) k) w w'∧(∀ j b,ag (fv' j) b→∃ c,ah w' b c 78) ∧
  (fv'=if is.getD i false=true then fv else fun j=>if j=i then .slice none 0 0 else fv j)
theorem pq (i:Nat) {gp:Nat} {pc:List Value} (P:ah w gp pc 146) (hpc:pc[0]? = some tv) (T:cY w tv fv L) (F:∀ j b,ag (fv j) b→∃ c,ah w b c 78) (fi:∀ i j k,ag (fv i) k→ag (fv j) k→i=j)
  (HI:ah w ib (is.map Value.bool) 4) (hn:is.length=L.length) (hL:L.length≤100000) (hi:i<L.length) (ok:sg L is i) :
  Calls Try.prog 143 #[.pointer (some ⟨gp,0,none⟩), .int .i64 i, .slice (some ⟨ib,0,none⟩) L.length L.length] w fun e w'=>e=.returned (.tuple #[])∧po w tv fv L is i w':=by
 have p0:=P.cell 0;have pl:=P.lt;rw [hpc] at p0;obtain ⟨cs,hs,hr⟩:=T;obtain ⟨g,o,nc,cur,rfl,hb,-,-,-,-⟩:=hs.laid (by omega);have hc:w.cell? ⟨ib,i,none⟩=some (.bool (is.getD i false)):=by rw [HI.cell,List.getElem?_map,Ld,Le (by omega)];rfl
 have hil:=HI.lt;have hii:(i:Int)<L.length:=by omega
 have hgl:=hb.lt;have HB:=Hz hb;have HS:=Hz hs;have HR:=Hz hr;have HF:=Hz F;have HFI:=Hz fi;have HOK:=Hz ok;have HHI:=Hz HI;have HP:=Hz P;have HNL:=Hz hn;have HLL:=Hz hi;have HFG:=Hz (show ∀ j b,ag (fv j) b→b≠g from fun j b hb' e=>by
  obtain ⟨c,hc⟩:=F j b hb'
  exact hc.ne hb (by decide) e)
 have hka:=(Kz w).alloc (.cells #[.slice (some ⟨ib,0,none⟩) L.length L.length] 76);have BB:=Hz (show ah (w.alloc (.cells #[.slice (some ⟨ib,0,none⟩) L.length L.length] 76)) w.heap.size _ 76 from ah.newAt _ rfl rfl);have KA:=Hz hka;clear hb hs hr F fi ok HI P hn hka hi;cases hbv:is.getD i false
 ·rw [hbv] at hc;have HE:=Hz hbv;clear hbv;go_enter Try.func143,Try.ntmps143;have SA:=Hz (HS.out.ae KA.out (fun _ _ h=>h));go_wp2_with (refine ju rfl 188 (.tmp 24) (.tmp 23) rfl rfl g o L.length nc i cs 188 (.int .i64 0) (.slice none 0 0) (.bool false) (.bool true) rfl rfl SA.out HLL.out (by kernel_rfl) (by intro v hv;simp at hv;rcases hv with rfl | rfl | rfl | rfl <;> rfl) ?_);intro w2 hs2 hk2 hz2;have T2:=Hz (cY.gone (t:=⟨(L.getD i Th.none).k,[],(L.getD i Th.none).aV,true⟩) SA.out (fun j hj=>by
   have h:=HR.out j hj
   exact ⟨h.d,h.k,h.f,h.o,fun hd=>(h.s hd).ae KA.out (fun _ _ h=>h),h.c⟩) HLL.out HFG.out rfl hs2 hk2)
  have K2:=Hz ((KA.out.mono (T:=fun k=>ag (.slice (some ⟨g,o,none⟩) L.length nc) k∨ag (fv i) k) (fun _ _ h=>h.elim)).trans (hk2.mono (fun k _ e=>by subst e;exact .inl rfl)));have F2:=Hz (show ∀ j b,ag ((fun j=>if j=i then Value.slice none 0 0 else fv j) j) b→∃ c,ah w2 b c 78 from fun j b hb=>by
   dsimp only at hb;split at hb
   ·exact absurd hb (by intro h;cases h)
   ·obtain ⟨c,hc⟩:=HF.out j b hb
    exact ⟨c,hk2.ai (KA.out.ai hc (fun h=>h)) (HFG.out j b hb)⟩)
  clear hs2 hk2 hz2;go_wp2_with fail
  ((try simp only [Exit.inBlock,Exit.then]);refine bodyPost_ret (results_none rfl _ _ _) rfl ?_)
  refine ⟨rfl,_,?_,K2.out,F2.out,?_⟩
  ·have:g7 is i (L.getD i Th.none)=⟨(L.getD i Th.none).k,[],(L.getD i Th.none).aV,true⟩:=by unfold g7;rw [HE.out];rfl
   rw [this];exact T2.out
  ·rw [HE.out];rfl
 ·rw [hbv] at hc;have HE:=Hz hbv;have hded:=HOK.out.d hbv;have hvv:=HOK.out.v hbv;have hvn:=HOK.out.n hbv;have hvf:=HOK.out.f hbv;have T1:=Hz (show cY w (.slice (some ⟨g,o,none⟩) L.length nc) fv L from ⟨cs,HS.out,HR.out⟩);obtain ⟨-,hfree,hrow⟩:=T1.out.row HLL.out;have t2:=hrow.o hded;have tf:=hfree (o+i*4+2);have T2:=Hz (T1.out.aV HLL.out HFG.out);have FS:=Hz (hrow.s hded);obtain ⟨fo,fc,efv,-,-,-⟩:=FS.out.rd;have HEF:=Hz efv;have HTG:Hid (∀ b,ag (.slice (some ⟨g,o,none⟩) L.length nc) b→¬ ag (fv i) b):=fun b h1 h2=>by
   have e:g=b:=by simpa [ag,Value.ownBlock] using h1
   exact HFG.out i b h2 e.symm
  have HG:=Hz (show g7 is i (L.getD i Th.none)=⟨(L.getD i Th.none).k,(L.getD i Th.none).fs.map (dB is (eI is (L.getD i Th.none))),true,false⟩ by unfold g7;rw [if_pos hbv,hded]);have HBK:=Hz (show eI is (L.getD i Th.none)=decide ((L.getD i Th.none).k=4∧aO is ((L.getD i Th.none).fs.getD 0 (0,0))=false) from rfl);have HST:=Hz (show (L.getD i Th.none).dead=false from hded);have HL2:=Hz (show (L.set i { L.getD i Th.none with aV:=true }).length=L.length by simp);have HT2:=Hz (show (L.set i { L.getD i Th.none with aV:=true }).getD i Th.none={ L.getD i Th.none with aV:=true } by rw [qI HLL.out,if_pos rfl]);clear hrow hfree hbv hded;obtain ⟨th,hth⟩:∃ t,L.getD i Th.none=t:=⟨_,rfl⟩;rw [hth] at hvv hvn hvf t2 FS HG HBK HST T2 efv HL2 HT2 HEF;have HTH:=Hz hth;clear hth efv;obtain ⟨kd,fs,od,dd⟩:=th;dsimp only at hvv hvn hvf t2 FS HG HBK HST T2 HL2 HT2 HEF;have HVV:=Hz hvv;have HVN:=Hz hvn;go_enter Try.func143,Try.ntmps143;go_upto_region 5 with fail
  have ka:=(Kz (w.setCell ⟨g,o+i*4+2,none⟩ (.bool true))).alloc (.cells #[.slice (some ⟨ib,0,none⟩) L.length L.length] 76);have T3:=Hz (T2.out.1.qJ ka);have K3:=Hz (T2.out.2.trans (ka.mono (fun _ _ h=>h.elim)));have B3:=Hz (show ah ((w.setCell ⟨g,o+i*4+2,none⟩ (.bool true)).alloc (.cells #[.slice (some ⟨ib,0,none⟩) L.length L.length] 76)) w.heap.size _ 76 from ah.newAt _ (by simp) rfl);have I3:=Hz (K3.out.ai HHI.out (fun e=>HHI.out.ne HB.out (by decide) e));have FS3:=Hz (FS.out.ae K3.out (fun b hb e=>HFG.out i b hb e));clear ka t2 tf p0 pl hc hil BB KA;generalize (w.setCell ⟨g,o+i*4+2,none⟩ (.bool true)).alloc (.cells #[.slice (some ⟨ib,0,none⟩) L.length L.length] 76)=w3 at *;generalize w.heap.size=bb at *;have hT3:=T3.out;rw [←HL2.out] at hT3;obtain ⟨hg3,-,hrow⟩:=hT3.row (i:=i) (by rw [HL2.out];exact HLL.out);rw [HT2.out] at hrow;have t0:=hrow.k HST.out;have t1:=hrow.f HST.out;rw [HEF.out] at t1;dsimp only at t0 t1;clear hrow hT3;have b0:=B3.out.cell 0;have bl:=B3.out.lt;simp only [Lz] at b0;obtain ⟨bk,hbk⟩:∃ b,eI is ⟨kd,fs,od,dd⟩=b:=⟨_,rfl⟩;rw [hbk] at HG HBK;clear hbk;go_upto_region 6 with fail
  refine dS (fun i=>Nat.blt 28 i && Nat.blt i 44 || Nat.beq i 8) (fun s' wx=>s' 8=.bool bk∧aa (fun _=>False) w3 wx) ?_ ?_
  ·intro K' hK';by_cases h4:kd=4
   ·subst h4;have h0:0<fs.length:=hvf rfl;have rd3:Rd w3 fo (aC fs):=by
     have:=FS3.out;rw [HEF.out] at this;obtain ⟨_,_,e',rd,-,-⟩:=this.rd;cases e';exact rd
    obtain ⟨gf,of,rfl,hgf,v0,v1⟩:=rd3.dA 0 h0;simp only [Nat.zero_mul,Nat.add_zero] at v0 v1;have hin:fs.getD 0 (0,0) ∈ fs:=by rw [Ld,Le h0];exact List.getElem_mem h0
    have hbk2:(!aO is (fs.getD 0 (0,0)))=bk:=by rw [HBK.out];cases aO is (fs.getD 0 (0,0)) <;> simp
    have HD:=Hz (nI (fs.getD 0 (0,0)) B3.out I3.out HNL.out (by omega) (hvv _ hin));rw [hbk2] at HD;clear hvv hvn hvf rd3 hin hbk2;generalize fs.getD 0 (0,0)=v at *;have hlf:(0:Int)<fs.length:=by omega
    go_wp2_with (refine fB (by kernel_rfl) 78 (.tmp 40) rfl (by kernel_rfl) gf of rfl _ _ v0 v1 ?_);refine HD.out.mono ?_;rintro e w4 ⟨rfl,hk⟩;go_wp2_with fail;refine ⟨by kernel_rfl,?_⟩;exact ⟨rfl,hk⟩
   ·have k4:(kd == 4)=false:=by simpa using h4
    have hbk2:bk=false:=by rw [HBK.out];simp [h4]
    subst hbk2;clear h4 hvv hvn hvf;go_wp2_with fail;refine ⟨by kernel_rfl,?_⟩;exact ⟨rfl,aa.refl _ _⟩
  intro u1 wx hR;obtain ⟨e8,hkx⟩:=hR;have e8:u1 8=.bool bk:=e8;simp (maxSteps:=2000000) only [cV,overL,List.toList_toArray,Nat.blt,Nat.beq,Nat.ble,Nat.reduceAdd,Bool.or_false,Bool.false_or,Bool.or_true,Bool.true_or,Bool.and_true,Bool.true_and,Bool.and_false,Bool.false_and,cond_true,cond_false];rw [e8];clear e8 hvv hvn hvf t0 t1 hg3 b0 bl;rename_i Kc hKc;have TX:=Hz (T3.out.qJ hkx);have BX:=Hz (hkx.ai B3.out (fun h=>h));have IX:=Hz (hkx.ai I3.out (fun h=>h));have FX:=Hz (FS3.out.ae hkx (fun _ _ h=>h));have KX:=Hz (K3.out.trans (hkx.mono (fun _ _ h=>h.elim)));clear T3 B3 I3 FS3 K3 hkx;have HTX:=Hz (show ∀ w',aa (ag (fv i)) wx w'→w'.cell? ⟨g,o+i*4+1,none⟩=some (.slice fo fs.length fc)∧g<w'.heap.size from fun w' k=>by
   have hT:=TX.out;rw [←HL2.out] at hT;obtain ⟨hg3,-,hrow⟩:=hT.row (i:=i) (by rw [HL2.out];exact HLL.out);rw [HT2.out] at hrow;have t1:=hrow.f HST.out;rw [HEF.out] at t1;refine ⟨?_,Nat.lt_of_lt_of_le hg3 k.size⟩;have:=k.block g hg3 (HTG.out g (by rfl));rw [←t1]
   simp only [World.cell?,this])
  obtain ⟨t1,hg3⟩:=HTX.out wx (aa.refl _ _);have HMX:=Hz (show ∀ v ∈ fs,v.1=3→0≤v.2∧v.2<(L.length:Int) from HVV.out);go_wp2_with fail;go_loopw [49] (fun u wr=>∃ q:Nat,q≤fs.length∧u=.int .i64 q∧Sl wr 78 2 (fv i) fs.length (aC ((fs.take q).map (dB is bk) ++ fs.drop q))∧aa (ag (fv i)) wx wr) (fun u _=>fs.length-(intOf u).toNat)
  case atStart=>exact ⟨0,Nat.zero_le _,rfl,by simpa using FX.out,aa.refl _ _⟩
  case round=>
   clear t1 hg3;obtain ⟨q,hq,rfl,hsl,hkr⟩:=hrel;have HSL:=Hz hsl;have HKR:=Hz hkr;clear hsl hkr;by_cases hlt:q<fs.length
   ·have rd3:Rd wr fo (aC ((fs.take q).map (dB is bk) ++ fs.drop q)):=by
     have:=HSL.out;rw [HEF.out] at this;obtain ⟨_,_,e',rd,-,-⟩:=this.rd;cases e';exact rd
    obtain ⟨gf,of,rfl,hgf,v0,v1⟩:=rd3.dA q (by simp;omega);rw [se] at v0 v1;have hin:fs.getD q (0,0) ∈ fs:=by rw [Ld,Le hlt];exact List.getElem_mem hlt
    have HV:=Hz (HMX.out _ hin);have MS:=Hz (sf (f:=dB is bk) hlt);have MN:=Hz (fun h=>ts (f:=dB is bk) hlt h);have HC:=Hz (show dB is bk (fs.getD q (0,0))=if (bk || !aO is (fs.getD q (0,0)))=true then (2,0) else fs.getD q (0,0) by
     unfold dB
     cases bk <;> cases aO is (fs.getD q (0,0)) <;> simp)
    clear rd3 hin;generalize fs.getD q (0,0)=v at *;obtain ⟨t1,hg3⟩:=HTX.out wr HKR.out;have hqi:(q:Int)<fs.length:=by omega
    have hvn:=HVN.out;go_upto_region 10 with (refine bd rfl 78 (.tmp 52) rfl (by kernel_rfl) gf (of+q*2) rfl _ _ v0 v1 ?_)
    have ka:=(Kz wr).alloc (.cells #[.int .i64 v.1, .int .i64 v.2] 78);have BV:=Hz (show ah (wr.alloc (.cells #[.int .i64 v.1, .int .i64 v.2] 78)) wr.heap.size _ 78 from ah.newAt _ rfl rfl);have KV:=Hz (HKR.out.trans (ka.mono (fun _ _ h=>h.elim)));have SV:=Hz (HSL.out.ae ka (fun _ _ h=>h));clear ka t1 hg3 v0 v1 hgf HSL HKR;generalize wr.alloc (.cells #[.int .i64 v.1, .int .i64 v.2] 78)=wv at *;generalize wr.heap.size=vb at *;have c0:=BV.out.cell 0;have c1:=BV.out.cell 1;have cl:=BV.out.lt;simp only [Lz,Ls] at c0 c1;have nvf:∀ b,ag (fv i) b→∃ c,ah wx b c 78:=fun b hb=>(FX.out.own hb).2;have DD:=Hz (nI v (KV.out.ai BX.out (fun h=>by obtain ⟨c,hc⟩:=nvf _ h;exact BX.out.ne hc (by decide) rfl)) (KV.out.ai IX.out (fun h=>by obtain ⟨c,hc⟩:=nvf _ h;exact IX.out.ne hc (by decide) rfl)) HNL.out (by omega) HV.out);refine dS (fun i=>Nat.blt 53 i && Nat.blt i 60) (fun s' wy=>s' 59=.bool (bk || !aO is v)∧aa (fun _=>False) wv wy) ?_ ?_
    ·intro K' hK';cases bk
     ·go_wp2_with (refine fB (by kernel_rfl) 78 (.tmp 10) rfl (by kernel_rfl) vb 0 rfl _ _ c0 c1 ?_);refine DD.out.mono ?_;rintro e w4 ⟨rfl,hk⟩;go_wp2_with fail;refine ⟨by kernel_rfl,?_⟩;exact ⟨rfl,hk⟩
     ·go_wp2_with fail;refine ⟨by kernel_rfl,?_⟩;exact ⟨rfl,aa.refl _ _⟩
    intro u2 wy hR;obtain ⟨e59,hky⟩:=hR;have e59:u2 59=.bool (bk || !aO is v):=e59;simp (maxSteps:=2000000) only [cV,overL,List.toList_toArray,Nat.blt,Nat.beq,Nat.ble,Nat.reduceAdd,Bool.or_false,Bool.false_or,Bool.or_true,Bool.true_or,Bool.and_true,Bool.true_and,Bool.and_false,Bool.false_and,cond_true,cond_false];rw [e59];rename_i Kd hKd;have KY:=Hz (KV.out.trans (hky.mono (fun _ _ h=>h.elim)));have SY:=Hz (SV.out.ae hky (fun _ _ h=>h));clear hky KV SV BV DD c0 c1 cl e59;obtain ⟨t1,hg3⟩:=HTX.out wy KY.out;generalize (bk || !aO is v)=cnd at *;cases cnd
    ·have ME:=Hz (MN.out (by rw [HC.out];rfl));go_wp2_with fail;go_roundw
     case rel=>exact ⟨q+1,hlt,by go_num,by rw [ME.out];exact SY.out,KY.out⟩
     case measure=>simp [intOf];omega
    ·have ME:=Hz (MS.out);rw [HC.out] at ME;rw [HEF.out] at SY;go_wp2_with (refine j3 rfl 78 (.tmp 66) (.tmp 65) rfl rfl gf of fs.length fc q _ 78 (.int .i64 2) (.int .i64 0) rfl rfl SY.out hlt (by kernel_rfl) rfl rfl ?_);intro w5 hs5 hk5 hz5;have S5:=Hz (show Sl w5 78 2 (fv i) fs.length (aC ((fs.take (q+1)).map (dB is bk) ++ fs.drop (q+1))) from by
      rw [ME.out,HEF.out,gh,List.map_take];exact hs5)
     have K5:=Hz (KY.out.trans (hk5.mono (T:=ag (fv i)) (fun k _ e=>by rw [HEF.out];subst e;rfl)));clear hs5 hk5 hz5;go_wp2_with fail;go_roundw
     case rel=>exact ⟨q+1,hlt,by go_num,S5.out,K5.out⟩
     case measure=>simp [intOf];omega
   ·obtain rfl:q=fs.length:=by omega
    have SE:=HSL.out;rw [List.take_length,List.drop_length,List.append_nil] at SE;have SE:=Hz SE;go_wp2_with fail;go_end0;have hT:=TX.out;have hlen:(fs.map (dB is bk)).length=fs.length:=by simp
    have hT2:=cY.cm (L:=L.set i ⟨kd,fs,true,dd⟩) (i:=i) (fs:=fs.map (dB is bk)) hT (by rw [HL2.out];exact HLL.out) (by rw [HT2.out];exact HST.out) HKR.out (by rw [hlen];exact SE.out) HTG.out (fun j b h1 h2=>HFI.out j i b h2 h1);rw [HT2.out,List.set_set] at hT2;have hd:dd=false:=HST.out;refine ⟨rfl,fv,?_,KX.out.mono (fun k _ e=>by subst e;exact .inl rfl) |>.trans (HKR.out.mono (fun k _ h=>.inr h)),fun j b hb=>?_,?_⟩
    ·rw [HTH.out,HG.out];rw [hd] at hT2;exact hT2
    ·by_cases e:ag (fv i) b
     ·exact (SE.out.own e).2
     ·obtain ⟨c,hc⟩:=HF.out j b hb;exact ⟨c,HKR.out.ai (KX.out.ai hc (HFG.out j b hb)) e⟩
    ·rw [HE.out];rfl
end
end
section
open Go.RowKit
structure gj (w:World) (gp lb ib cb:Nat) (nv:Value) (wr:World) (t:List Bool × List Nat):Prop where
 L:b6 wr gp lb ib nv t
 B:j1 wr cb lb
 K:aa (fun b=>w.heap.size≤b) w wr
 O:∀ k,dF lb ib nv k∨k=cb→w.heap.size≤k
section
variable {w wr w':World} {h:bT} {W:Wd} {gp lb ib cb:Nat} {nv:Value} {t t':List Bool × List Nat}
theorem gj.to (C:gj w gp lb ib cb nv wr t) (T:dV wr gp lb ib nv w' t'):∃ nv',gj w gp lb ib cb nv' w' t':=by
 obtain ⟨nv',L',k',o'⟩:=T;refine ⟨nv',L',C.B.lv C.L k',C.K.then k' (fun k hk=>.inl (C.O k (.inl hk))),fun k hk=>?_⟩;rcases hk with (hk | hk | hk) | hk
 ·exact C.O k (.inl (.inl hk))
 ·exact C.O k (.inl (.inr (.inl hk)))
 ·rcases o' k hk with h | h
  ·exact C.O k (.inl (.inr (.inr h)))
  ·exact Nat.le_trans C.K.size h
 ·exact C.O k (.inr hk)
theorem gj.begin {w1:World} {gp:Nat} (n:Nat) (k:aa (fun _=>False) w w1) :
  gj w gp (w1.heap.size+1) w1.heap.size (w1.heap.size+1+1) (.slice none 0 0) (((w1.alloc (.cells (Array.replicate n (.bool false)) 4)).alloc (.cells #[.pointer (some ⟨gp,0,none⟩), .slice (some ⟨w1.heap.size,0,none⟩) n n, .slice none 0 0] 197)).alloc (.cells #[.pointer (some ⟨w1.heap.size+1,0,none⟩)] 195)) (List.replicate n false,[]):=by
 have hz:=k.size;have b1:ah (w1.alloc (.cells (Array.replicate n (.bool false)) 4)) w1.heap.size (List.replicate n (.bool false)) 4:=ah.newAt _ rfl (by simp);have b2:ah ((w1.alloc (.cells (Array.replicate n (.bool false)) 4)).alloc (.cells #[.pointer (some ⟨gp,0,none⟩), .slice (some ⟨w1.heap.size,0,none⟩) n n, .slice none 0 0] 197)) (w1.heap.size+1) [.pointer (some ⟨gp,0,none⟩), .slice (some ⟨w1.heap.size,0,none⟩) n n, .slice none 0 0] 197:=ah.newAt _ (by simp) rfl;refine ⟨⟨?_,?_,Sl.nil _ _ _⟩,ah.newAt _ (by simp) rfl,?_,fun b hb=>?_⟩
 ·have:=b2.alloc (.cells #[.pointer (some ⟨w1.heap.size+1,0,none⟩)] 195);simpa using this
 ·have:=(b1.alloc (.cells #[.pointer (some ⟨gp,0,none⟩), .slice (some ⟨w1.heap.size,0,none⟩) n n, .slice none 0 0] 197)).alloc (.cells #[.pointer (some ⟨w1.heap.size+1,0,none⟩)] 195);simpa using this
 ·exact (k.mono (fun _ _ h=>h.elim)).trans ((((aa.refl _ _).alloc _).alloc _).alloc _)
 ·rcases hb with (rfl | rfl | hb) | rfl
  ·omega
  ·exact hz
  ·exact absurd hb (by intro h;cases h)
  ·omega
theorem gj.same (C:gj w gp lb ib cb nv wr t) (k:aa (fun _=>False) wr w'):gj w gp lb ib cb nv w' t:=⟨C.L.same k,k.ai C.B (fun h=>h),C.K.trans (k.mono (fun _ _ h=>h.elim)),C.O⟩
theorem gj.fC (C:gj w gp lb ib cb nv wr t) (H:aG w h W):aG wr h W:=H.ae C.K (fun b hb hk=>by have:=H.dE hb;omega)
theorem aG.sp (H:aG w h W):fQ w (h.gx W) h.p h.gv h.wv W.regs W.wait h.fv W:=⟨H.side,H.ht,fun i b hb=>(H.af i b hb).2.1⟩
structure iz (w:World) (h:bT) (W:Wd) (lb ib cb cp:Nat) (is:List Bool) (regs wait:List (Int × Int)) (nv rgv wv cr cw:Value) (tx:Nat→Value) (T:List Th) (wr:World):Prop where
 L:b6 wr h.p lb ib nv (is,[])
 B:j1 wr cb lb
 T:cY wr h.tv tx T
 F:∀ i b,ag (tx i) b→∃ c,ah wr b c 78
 fo:∀ i b,ag (tx i) b→ag (h.fv i) b
 S:aZ (h.gx W) wr h.p rgv wv regs wait
 C:cC wr cp cr cw W.regs W.wait
 R:Sl wr 78 2 h.rv W.roots.length (aC W.roots)
 K:aa h.Own w wr
 sn:∀ b,aR h.p rgv wv b→aR h.p h.gv h.wv b∨w.heap.size≤b
 cn:∀ b,aR cp cr cw b→w.heap.size≤b
 ap:∀ b,¬ (aR h.p rgv wv b∧aR cp cr cw b)
 ln:∀ b,dF lb ib nv b→w.heap.size≤b
theorem iz.begin {cp:Nat} {is0 is:List Bool} {regs wait:List (Int × Int)} {rgv wv cr cw:Value} {F':Nat→Prop} (H:aG w h W) (I:gj w h.p lb ib cb nv wr (is0,[]))
  (C:cC wr cp cr cw W.regs W.wait) (cn:∀ b,aR cp cr cw b→w.heap.size≤b) (cl:∀ b,aR cp cr cw b→¬ (dF lb ib nv b∨b=cb))
  (J:GJ (h.gx W) h.p lb ib cb h.fv W w' is F') (S:aZ (h.gx W) w' h.p rgv wv regs wait)
  (K:aa (fun b=>(dF lb ib nv b∨b=cb∨ag h.tv b∨∃ i,ag (h.fv i) b)∨aR h.p h.gv h.wv b) wr w') (fn:∀ b,F' b→(dF lb ib nv b∨b=cb∨ag h.tv b∨∃ i,ag (h.fv i) b)∨wr.heap.size≤b)
  (sn:∀ b,aR h.p rgv wv b→aR h.p h.gv h.wv b∨wr.heap.size≤b) :
  ∃ nv',iz w h W lb ib cb cp is regs wait nv' rgv wv cr cw h.fv W.T w':=by
 obtain ⟨nv',L',B',T',hF',N',rfl⟩:=J;have aV:∀ b,(ag h.tv b∨∃ i,ag (h.fv i) b)∨aR h.p h.gv h.wv b→h.Own b:=fun b hb=>by
  rcases hb with (hb | hb) | (rfl | hb | hb)
  ·exact .inr (.inl hb)
  ·exact .inr (.inr (.inr (.inr (.inr hb))))
  ·exact .inl rfl
  ·exact .inr (.inr (.inr (.inl hb)))
  ·exact .inr (.inr (.inr (.inr (.inl hb))))
 have Hr:=I.fC H;have ncp:∀ b,aR cp cr cw b→¬ ((dF lb ib nv b∨b=cb∨ag h.tv b∨∃ i,ag (h.fv i) b)∨aR h.p h.gv h.wv b):=fun b hb hk=>by
  have h1:=cn b hb;have h2:¬ h.Own b:=fun e=>by have:=H.dE e;omega
  rcases hk with (hk | hk | hk | hk) | hk
  ·exact cl b hb (.inl hk)
  ·exact cl b hb (.inr hk)
  ·exact h2 (aV b (.inl (.inl hk)))
  ·exact h2 (aV b (.inl (.inr hk)))
  ·exact h2 (aV b (.inr hk))
 have cpl:∀ b,aR cp cr cw b→b<wr.heap.size:=fun b hb=>C.lJ hb;have k0:=I.K;refine ⟨nv',L',B',T',hF',fun i b hb=>hb,S,C.ae K ncp,Hr.hr.ae K (fun b hb hk=>?_),⟨K.os.trans k0.os,K.tape.trans k0.tape,K.output.trans k0.output,Nat.le_trans k0.size K.size,fun b hb hn=>?_⟩,fun b hb=>?_,cn,fun b hb=>?_,fun b hb=>?_⟩
 ·obtain ⟨hl,c,hc⟩:=Hr.hr.own hb;have hn:b<w.heap.size:=H.dE (.inr (.inr (.inl hb)));rcases hk with (hk | hk | hk | ⟨i,hk⟩) | hk
  ·have:=I.O b (.inl hk);omega
  ·have:=I.O b (.inr hk);omega
  ·obtain ⟨cs,hs,_⟩:=Hr.ht;obtain ⟨_,c',hc'⟩:=hs.own hk;exact hc.ne hc' (by decide) rfl
  ·exact (H.af i b hk).2.2 hb
  ·exact Hr.side.ky hc (by decide) (by decide) hk
 ·rw [K.block b (Nat.lt_of_lt_of_le hb k0.size) (fun hk=>?_),k0.block b hb (by omega)];rcases hk with (hk | hk | hk | hk) | hk
  ·have:=I.O b (.inl hk);omega
  ·have:=I.O b (.inr hk);omega
  ·exact hn (aV b (.inl (.inl hk)))
  ·exact hn (aV b (.inl (.inr hk)))
  ·exact hn (aV b (.inr hk))
 ·rcases sn b hb with h1 | h1
  ·exact .inl h1
  ·exact .inr (Nat.le_trans I.K.size h1)
 ·rcases sn b hb.1 with h1 | h1
  ·exact ncp b hb.2 (.inr h1)
  ·have:=cpl b hb.2;omega
 ·rcases hb with rfl | rfl | hb
  ·exact I.O _ (.inl (.inl rfl))
  ·exact I.O _ (.inl (.inr (.inl rfl)))
  ·rcases fn b (.inl (.inr (.inr hb))) with (hk | hk | hk | ⟨i,hk⟩) | hk
   ·exact I.O _ (.inl hk)
   ·exact I.O _ (.inr hk)
   ·exfalso;obtain ⟨_,c1,T1,h1,h2⟩:=L'.cO (.inr (.inr hb));obtain ⟨cs,hs,_⟩:=T';obtain ⟨hl,c',hc'⟩:=hs.own hk;refine h1.ne hc' ?_ rfl;rcases h2 with rfl | rfl | rfl <;> decide
   ·exfalso;obtain ⟨_,c1,T1,h1,h2⟩:=L'.cO (.inr (.inr hb));obtain ⟨c',hc'⟩:=hF' i b hk;refine h1.ne hc' ?_ rfl;rcases h2 with rfl | rfl | rfl <;> decide
   ·exact Nat.le_trans I.K.size hk
theorem iz.back {cp:Nat} {is:List Bool} {regs wait:List (Int × Int)} {rgv wv cr cw:Value} (C:iz w h W lb ib cb cp is regs wait nv rgv wv cr cw h.fv W.T wr) (H:aG w h W) :
  aI w h ((wr.setCell ⟨h.p,2,none⟩ cr).setCell ⟨h.p,3,none⟩ cw) W:=by
 have K:=((aa.refl (·=h.p) wr).setCell (p:=⟨h.p,2,none⟩) (.inl rfl) cr).setCell (p:=⟨h.p,3,none⟩) (.inl rfl) cw;have ne:∀ {b:Nat} {c:List Value} {T:TypeId},ah wr b c T→T≠146→¬ b=h.p:=fun hb hT e=>hb.ne C.S.hp hT e;have hp2:ah ((wr.setCell ⟨h.p,2,none⟩ cr).setCell ⟨h.p,3,none⟩ cw) h.p [h.tv,h.rv,cr,cw, .int .i64 W.aL, .int .i64 W.bq, .int .i64 W.most, .int .i64 W.grow] 146:=by
  simpa [bT.gx] using (C.S.hp.aF 2 cr).aF 3 cw
 have cn:∀ b,ag cr b∨ag cw b→w.heap.size≤b:=fun b hb=>C.cn b (.inr hb);refine ⟨⟨h.p,h.tv,h.rv,cr,cw,h.fv⟩,⟨hp2,C.T.ae K (fun b hb=>?_) (fun i b hb=>?_),C.R.ae K (fun b hb=>?_),C.C.hr.ae K (fun b hb=>?_),C.C.hw.ae K (fun b hb=>?_),C.C.ap,fun i b hb=>?_,H.fi,H.fl,H.ok⟩,rfl,C.K.trans (K.mono (fun b _ e=>e ▸ .inl rfl)),fun b hb=>?_⟩
 ·obtain ⟨cs,hs,_⟩:=C.T;obtain ⟨_,c,hc⟩:=hs.own hb;exact ne hc (by decide)
 ·obtain ⟨c,hc⟩:=C.F i b hb;exact ne hc (by decide)
 ·obtain ⟨_,c,hc⟩:=C.R.own hb;exact ne hc (by decide)
 ·obtain ⟨_,c,hc⟩:=C.C.hr.own hb;exact ne hc (by decide)
 ·obtain ⟨_,c,hc⟩:=C.C.hw.own hb;exact ne hc (by decide)
 ·obtain ⟨h1,_,h3⟩:=H.af i b hb;obtain ⟨c,hc⟩:=C.F i b hb;exact ⟨Nat.lt_of_lt_of_le hc.lt K.size,⟨c,K.ai hc (ne hc (by decide))⟩,h3⟩
 ·rcases hb with hb | hb | hb | hb | hb | hb
  ·exact .inl (.inl hb)
  ·exact .inl (.inr (.inl hb))
  ·exact .inl (.inr (.inr (.inl hb)))
  ·exact .inr (cn b (.inl hb))
  ·exact .inr (cn b (.inr hb))
  ·exact .inl (.inr (.inr (.inr (.inr (.inr hb)))))
theorem iz.settled {cp:Nat} {is:List Bool} {regs wait:List (Int × Int)} {rgv wv cr cw:Value} {tx:Nat→Value} {i:Nat} (C:iz w h W lb ib cb cp is regs wait nv rgv wv cr cw tx (dU is W.T i) wr) (H:aG w h W)
  (hi:i<W.T.length) (T:po wr h.tv tx (dU is W.T i) is i w') (hc:g7 is i (W.T.getD i Th.none)=bV is i (W.T.getD i Th.none)) :
  ∃ tx',iz w h W lb ib cb cp is regs wait nv rgv wv cr cw tx' (dU is W.T (i+1)) w'∧∀ j k,ag (tx' j) k→ag (tx j) k∧(j=i→is.getD i false=true):=by
 obtain ⟨tx',T',K',F',e'⟩:=T;have eg:(dU is W.T i).getD i Th.none=W.T.getD i Th.none:=by
  rw [Ld,Ld,Le (by rw [ew];exact hi),Le hi,mr _ _ hi]
 have e2:W.T.getD i Th.none=W.T[i]:=by rw [Ld,Le hi];rfl
 rw [eg,hc,e2,oX _ _ hi] at T';have tl:∀ b,ag h.tv b→∃ c,ah wr b c 188:=fun b hb=>by
  obtain ⟨cs,hs,_⟩:=C.T;obtain ⟨_,c,hc⟩:=hs.own hb;exact ⟨c,hc⟩
 have ne:∀ {b:Nat} {c:List Value} {T:TypeId},ah wr b c T→T≠188→T≠78→¬ (ag h.tv b∨ag (tx i) b):=fun {b c T} hb h1 h2 e=>by
  rcases e with e | e
  ·obtain ⟨c',hc'⟩:=tl b e;exact hb.ne hc' h1 rfl
  ·obtain ⟨c',hc'⟩:=C.F i b e;exact hb.ne hc' h2 rfl
 have tn:∀ b,dF lb ib nv b→¬ (ag h.tv b∨ag (tx i) b):=fun b hb=>by
  obtain ⟨_,c,T,h1,h2⟩:=C.L.cO hb;refine ne h1 ?_ ?_
  ·rcases h2 with rfl | rfl | rfl <;> decide
  ·rcases h2 with rfl | rfl | rfl <;> decide
 have sn:∀ b,aR h.p rgv wv b→¬ (ag h.tv b∨ag (tx i) b):=fun b hb=>by
  rcases hb with rfl | hb | hb
  ·exact ne C.S.hp (by decide) (by decide)
  ·obtain ⟨_,c,hc⟩:=C.S.hr.own hb;exact ne hc (by decide) (by decide)
  ·obtain ⟨_,c,hc⟩:=C.S.hw.own hb;exact ne hc (by decide) (by decide)
 have cn:∀ b,aR cp cr cw b→¬ (ag h.tv b∨ag (tx i) b):=fun b hb=>by
  rcases hb with rfl | hb | hb
  ·exact ne C.C.hp (by decide) (by decide)
  ·obtain ⟨_,c,hc⟩:=C.C.hr.own hb;exact ne hc (by decide) (by decide)
  ·obtain ⟨_,c,hc⟩:=C.C.hw.own hb;exact ne hc (by decide) (by decide)
 have own:∀ j k,ag (tx' j) k→ag (tx j) k∧(j=i→is.getD i false=true):=fun j k hk=>by
  rw [e'] at hk;split at hk
  ·rename_i hb;exact ⟨hk,fun _=>hb⟩
  ·dsimp only at hk;split at hk
   ·exact absurd hk (by intro h;cases h)
   ·rename_i hj;exact ⟨hk,fun e=>absurd e hj⟩
 refine ⟨tx',⟨C.L.ae K' tn,K'.ai C.B (ne C.B (by decide) (by decide)),T',F',fun j b hb=>C.fo j b (own j b hb).1,C.S.ae K' sn,C.C.ae K' cn,C.R.ae K' (fun b hb e=>?_),C.K.then K' (fun k hk=>?_),C.sn,C.cn,C.ap,C.ln⟩,own⟩
 ·rcases e with e | e
  ·obtain ⟨c',hc'⟩:=tl b e;obtain ⟨_,c,hc⟩:=C.R.own hb;exact hc.ne hc' (by decide) rfl
  ·exact (H.af i b (C.fo i b e)).2.2 hb
 ·rcases hk with hk | hk
  ·exact .inl (.inr (.inl hk))
  ·exact .inl (.inr (.inr (.inr (.inr (.inr ⟨i,C.fo i k hk⟩)))))
theorem iz.done {cp:Nat} {is:List Bool} {regs wait:List (Int × Int)} {rgv wv cr cw:Value} {tx:Nat→Value} {n:Int} (C:iz w h W lb ib cb cp is regs wait nv rgv wv cr cw tx (gA is W.T) wr) (H:aG w h W)
  {W':Wd} (e:W'={ W with T:=gA is W.T,regs:=regs,wait:=wait }) (hok:W'.ok) (hy:W'.aL=0) (ho:W'.bq=n) (hl:∀ (i:Nat) k,ag (tx i) k→W'.live (i:Int)) :
  aI w h ((wr.setCell ⟨h.p,4,none⟩ (.int .i64 0)).setCell ⟨h.p,5,none⟩ (.int .i64 n)) W':=by
 have K:=((aa.refl (·=h.p) wr).setCell (p:=⟨h.p,4,none⟩) (.inl rfl) (.int .i64 0)).setCell (p:=⟨h.p,5,none⟩) (.inl rfl) (.int .i64 n);have ne:∀ {b:Nat} {c:List Value} {T:TypeId},ah wr b c T→T≠146→¬ b=h.p:=fun hb hT e=>hb.ne C.S.hp hT e;have hp2:ah ((wr.setCell ⟨h.p,4,none⟩ (.int .i64 0)).setCell ⟨h.p,5,none⟩ (.int .i64 n)) h.p [h.tv,h.rv,rgv,wv, .int .i64 0, .int .i64 n, .int .i64 W.most, .int .i64 W.grow] 146:=by
  simpa [bT.gx] using (C.S.hp.aF 4 (.int .i64 0)).aF 5 (.int .i64 n)
 subst e;refine ⟨⟨h.p,h.tv,h.rv,rgv,wv,tx⟩,⟨by rw [hy,ho];exact hp2,C.T.ae K (fun b hb=>?_) (fun i b hb=>?_),C.R.ae K (fun b hb=>?_),C.S.hr.ae K (fun b hb=>?_),C.S.hw.ae K (fun b hb=>?_),C.S.ap,fun i b hb=>?_,fun i j k h1 h2=>H.fi i j k (C.fo i k h1) (C.fo j k h2),hl,hok⟩,rfl,C.K.trans (K.mono (fun b _ e=>e ▸ .inl rfl)),fun b hb=>?_⟩
 ·obtain ⟨cs,hs,_⟩:=C.T;obtain ⟨_,c,hc⟩:=hs.own hb;exact ne hc (by decide)
 ·obtain ⟨c,hc⟩:=C.F i b hb;exact ne hc (by decide)
 ·obtain ⟨_,c,hc⟩:=C.R.own hb;exact ne hc (by decide)
 ·obtain ⟨_,c,hc⟩:=C.S.hr.own hb;exact ne hc (by decide)
 ·obtain ⟨_,c,hc⟩:=C.S.hw.own hb;exact ne hc (by decide)
 ·obtain ⟨c,hc⟩:=C.F i b hb;exact ⟨Nat.lt_of_lt_of_le hc.lt K.size,⟨c,K.ai hc (ne hc (by decide))⟩,(H.af i b (C.fo i b hb)).2.2⟩
 ·rcases hb with hb | hb | hb | hb | hb | ⟨i,hb⟩
  ·exact .inl (.inl hb)
  ·exact .inl (.inr (.inl hb))
  ·exact .inl (.inr (.inr (.inl hb)))
  ·rcases C.sn b (.inr (.inl hb)) with h1 | h1
   ·rcases h1 with h1 | h1 | h1
    ·exact .inl (.inl h1)
    ·exact .inl (.inr (.inr (.inr (.inl h1))))
    ·exact .inl (.inr (.inr (.inr (.inr (.inl h1)))))
   ·exact .inr h1
  ·rcases C.sn b (.inr (.inr hb)) with h1 | h1
   ·rcases h1 with h1 | h1 | h1
    ·exact .inl (.inl h1)
    ·exact .inl (.inr (.inr (.inr (.inl h1))))
    ·exact .inl (.inr (.inr (.inr (.inr (.inl h1)))))
   ·exact .inr h1
  ·exact .inl (.inr (.inr (.inr (.inr (.inr ⟨i,C.fo i b hb⟩)))))
theorem mG {g o n:Nat} {fo:Option Addr} {fc:Nat} (hg:g<w.heap.size) (hc:w.cell? ⟨g,o+1,none⟩=some (.slice fo n fc)) (hn:n≤1000) :
  Calls Try.prog 133 #[.pointer (some ⟨g,o,none⟩)] w fun e w'=>e=.returned (.int .i64 (1+(n:Int)))∧w=w':=by
 go_enter Try.func133,Try.ntmps133;go_wp2_with fail;go_ret;exact ⟨rfl,rfl⟩
theorem gj.copy {cp:Nat} {cr cw:Value} {regs wait:List (Int × Int)} (I:gj w gp lb ib cb nv wr t) (S:cC wr cp cr cw regs wait):∀ b,aR cp cr cw b→¬ (dF lb ib nv b∨b=cb):=fun b hb hk=>by
 rcases hk with hk | rfl
 ·obtain ⟨_,c,T,h1,h2⟩:=I.L.cO hk;refine S.ky h1 ?_ ?_ hb
  ·rcases h2 with rfl | rfl | rfl <;> decide
  ·rcases h2 with rfl | rfl | rfl <;> decide
 ·exact S.ky I.B (by decide) (by decide) hb
end
end
end Go.Proofs.Ytjifdalflepcoab
