/-
  Parts of the proof, merged: what the functions do, and plain laws.
-/
import Derived.Test.YtjifdalflepcoabGDesP4
import Derived.Test.YtjifdalflepcoabGDesP0
import Derived.Test.YtjifdalflepcoabGDesP1
import Derived.Test.YtjifdalflepcoabGDesP2
set_option maxHeartbeats 16000000
set_option maxRecDepth 100000
set_option linter.unusedVariables false
set_option linter.unusedSimpArgs false
namespace Go.Proofs.Ytjifdalflepcoab
section
open Go.RowKit
section
variable {w w':World} {g:ej} {h:RW} {W:Wd} {rv mv nv:Value} {F:Nat→Prop} {s:VS}
theorem aa.cellAt {S:Nat→Prop} {w w':World} (k:aa S w w') {b:Nat} (hb:b<w.heap.size) (hn:¬ S b) (i:Nat):w'.cell? ⟨b,i,none⟩=w.cell? ⟨b,i,none⟩:=
 World.cell?_of_block (w:=w) (a:=⟨b,i,none⟩) (k.block b hb hn)
theorem cx.rS {x:Int} {wr wa w2:World} {v':Value} (V:cx wr g h W rv mv nv F s) (ka:aa (fun _=>False) wr wa) (hs:Sl w2 3 1 v' (s.1.length+1) (s.1.map (Value.int .i64) ++ [.int .i64 x])) (hk:aa (ag mv) wa w2)
  (ho:∀ k,ag v' k→ag mv k∨wa.heap.size≤k) (h0:0≤x∧x≤1000000):eC wr g h W rv mv nv F (s.1 ++ [x],s.2) (w2.setCell ⟨g.mb,0,none⟩ v'):=by
 have k1:aa (ag mv) wr w2:=(ka.mono (fun _ _ h=>h.elim)).trans hk;have nm:∀ {b:Nat} {c:List Value} {T:TypeId},ah wr b c T→T≠3→¬ ag mv b:=fun hb hT e=>by obtain ⟨_,c',hc'⟩:=V.M.own e;exact hb.ne hc' hT rfl
 have hm2:=k1.ai V.hm (nm V.hm (by decide));have set:=(aa.refl (·=g.mb) w2).setCell (p:=⟨g.mb,0,none⟩) (.inl rfl) v';have kk:aa (fun k=>ag mv k∨k=g.mb) wr (w2.setCell ⟨g.mb,0,none⟩ v'):=(k1.mono (fun _ _ h=>.inl h)).then set (fun b hb=>.inl (.inr hb));have nb:∀ {b:Nat} {c:List Value} {T:TypeId},ah wr b c T→T≠3→T≠50→¬ (ag mv b∨b=g.mb):=fun hb h1 h2 e=>by
  rcases e with e | e
  ·exact nm hb h1 e
  ·exact hb.ne V.hm h2 e
 refine ⟨v',nv,F,⟨V.H.ae kk (fun b hb=>?_),by simpa using hm2.aF 0 v',kk.ai V.hw (nb V.hw (by decide) (by decide)),kk.ai V.hv (nb V.hv (by decide) (by decide)),kk.ai V.hf (nb V.hf (by decide) (by decide)),?_,V.N.ae kk (fun b hb _=>?_) (fun b hb=>?_),fun b hb=>?_,fun i hi=>?_⟩,kk.mono (fun b _ hb=>?_),fun k hk'=>(ho k hk').imp id (fun h=>Nat.le_trans ka.size h),fun k hk'=>.inl hk',fun k hk'=>.inl hk'⟩
 ·obtain ⟨_,c,T,hc,hT⟩:=V.H.aX hb;rcases hT with rfl | rfl | rfl | rfl <;> exact nb hc (by decide) (by decide)
 ·rw [List.length_append,List.map_append];exact hs.ae set (fun b hb e=>by obtain ⟨_,c,hc⟩:=hs.own hb;exact hc.ne hm2 (by decide) e)
 ·obtain ⟨_,c,hc⟩:=V.hF b hb;exact nb hc (by decide) (by decide)
 ·obtain ⟨_,c,hc⟩:=V.N.own hb;exact nb hc (by decide) (by decide)
 ·obtain ⟨a,c,hc⟩:=V.hF b hb;exact ⟨Nat.lt_of_lt_of_le a kk.size,c,kk.ai hc (nb hc (by decide) (by decide))⟩
 ·rcases List.mem_append.1 hi with h1 | h1
  ·exact V.bd i h1
  ·simp at h1;subst h1;exact h0
 ·rcases hb with hb | hb
  ·exact .inr (.inr (.inl hb))
  ·exact .inl hb
theorem cx.qt {kd:Int} {wr wa w2:World} {v':Value} (V:cx wr g h W rv mv nv F s) (ka:aa (fun _=>False) wr wa) (cs:List Value) (hcs:bp 2 (dc wr F) s.2 cs) (hs:Sl w2 83 2 v' (s.2.length+1) (cs ++ [.int .i64 kd, .slice none 0 0])) (hk:aa (ag nv) wa w2)
  (ho:∀ k,ag v' k→ag nv k∨wa.heap.size≤k):eC wr g h W rv mv nv F (s.1,s.2 ++ [(kd,[])]) (w2.setCell ⟨g.vb,1,none⟩ v'):=by
 have k1:aa (ag nv) wr w2:=(ka.mono (fun _ _ h=>h.elim)).trans hk;have nm:∀ {b:Nat} {c:List Value} {T:TypeId},ah wr b c T→T≠83→¬ ag nv b:=fun hb hT e=>by obtain ⟨_,c',hc'⟩:=V.N.own e;exact hb.ne hc' hT rfl
 have hv2:=k1.ai V.hv (nm V.hv (by decide));have set:=(aa.refl (·=g.vb) w2).setCell (p:=⟨g.vb,1,none⟩) (.inl rfl) v';have kk:aa (fun k=>ag nv k∨k=g.vb) wr (w2.setCell ⟨g.vb,1,none⟩ v'):=(k1.mono (fun _ _ h=>.inl h)).then set (fun b hb=>.inl (.inr hb));have nb:∀ {b:Nat} {c:List Value} {T:TypeId},ah wr b c T→T≠83→T≠72→¬ (ag nv b∨b=g.vb):=fun hb h1 h2 e=>by
  rcases e with e | e
  ·exact nm hb h1 e
  ·exact hb.ne V.hv h2 e
 refine ⟨mv,v',F,⟨V.H.ae kk (fun b hb=>?_),kk.ai V.hm (nb V.hm (by decide) (by decide)),kk.ai V.hw (nb V.hw (by decide) (by decide)),by simpa using hv2.aF 1 v',kk.ai V.hf (nb V.hf (by decide) (by decide)),V.M.ae kk (fun b hb=>?_),⟨_,by rw [List.length_append];exact hs.ae set (fun b hb e=>by obtain ⟨_,c,hc⟩:=hs.own hb;exact hc.ne hv2 (by decide) e),?_⟩,fun b hb=>?_,V.bd⟩,kk.mono (fun b _ hb=>?_),fun k hk'=>.inl hk',fun k hk'=>(ho k hk').imp id (fun h=>Nat.le_trans ka.size h),fun k hk'=>.inl hk'⟩
 ·obtain ⟨_,c,T,hc,hT⟩:=V.H.aX hb;rcases hT with rfl | rfl | rfl | rfl <;> exact nb hc (by decide) (by decide)
 ·obtain ⟨_,c,hc⟩:=V.M.own hb;exact nb hc (by decide) (by decide)
 ·refine bp.app (hcs.mono (fun a _ r hr=>hr.ae kk (fun b hb _=>?_))) rfl ⟨none,0,rfl,Rd.nil _ _,(fun a ha=>by cases ha),Nat.zero_le _⟩;obtain ⟨_,c,hc⟩:=V.hF b hb;exact nb hc (by decide) (by decide)
 ·obtain ⟨a,c,hc⟩:=V.hF b hb;exact ⟨Nat.lt_of_lt_of_le a kk.size,c,kk.ai hc (nb hc (by decide) (by decide))⟩
 ·rcases hb with hb | hb
  ·exact .inr (.inr (.inr hb))
  ·exact .inr (.inl hb)
structure eJ (w1:World) (g:ej) (h:RW) (W:Wd) (rv mv nv:Value) (F:Nat→Prop) (xb rb tb:Nat) (tc xc rc:List Value) (ao:Option Addr) (fs:List Vl) (s:VS) (lv:Value) (l:List Vl) (wr:World) (mv' nv':Value) (F':Nat→Prop):Prop where
 V:cx wr g h W rv mv' nv' F' s
 K:aa (dH g mv nv) w1 wr
 o0:∀ k,ag mv' k→ag mv k∨w1.heap.size≤k
 o1:∀ k,ag nv' k→ag nv k∨w1.heap.size≤k
 o2:∀ k,F' k→F k∨w1.heap.size≤k
 L:Sl wr 78 2 lv l.length (au l)
 o3:∀ k,ag lv k→w1.heap.size≤k∧¬ F' k
 T:ah wr tb tc 161
 X:ah wr xb xc 78
 R:ah wr rb rc 78
 xl:xb<w1.heap.size
 rl:rb<w1.heap.size
 tl:¬ h.Own tb
 ol:∀ k,h.Own k→k<w1.heap.size
 wl:g.wb<w1.heap.size
 fl:g.fb<w1.heap.size
 D:Rd wr ao (au fs)
 dF:∀ a,ao=some a→h.Own a.block
section
variable {ao:Option Addr} {fs:List Vl} {w1 wr w2 wa:World} {xb rb tb:Nat} {tc xc rc:List Value} {lv lv2 mv' nv':Value} {l:List Vl} {F':Nat→Prop} {s2:VS} {v:Vl}
theorem eJ.iE (I:eJ w1 g h W rv mv nv F xb rb tb tc xc rc ao fs s lv l wr mv' nv' F') {k:Nat} (hk:ag lv k):¬ dH g mv' nv' k:=by
 obtain ⟨_,c,hc⟩:=I.L.own hk;exact I.V.cF hc (by decide) (by decide) (by decide) (by decide)
theorem eJ.lE {mv2 nv2:Value} {F2:Nat→Prop} (I:eJ w1 g h W rv mv nv F xb rb tb tc xc rc ao fs s lv l wr mv' nv' F') (V2:cx w2 g h W rv mv2 nv2 F2 s2) (k2:aa (dH g mv' nv') wr w2) (p0:∀ k,ag mv2 k→ag mv' k∨wr.heap.size≤k) (p1:∀ k,ag nv2 k→ag nv' k∨wr.heap.size≤k) (p2:∀ k,F2 k→F' k∨wr.heap.size≤k):eJ w1 g h W rv mv nv F xb rb tb tc xc rc ao fs s2 lv l w2 mv2 nv2 F2:=by
 refine ⟨V2,I.K.then k2 (fun j hj=>dH.step I.o0 I.o1 hj),fun j hj=>?_,fun j hj=>?_,fun j hj=>?_,I.L.ae k2 (fun j hj=>I.iE hj),fun j hj=>⟨(I.o3 j hj).1,fun hf=>?_⟩,k2.ai I.T (I.V.cF I.T (by decide) (by decide) (by decide) (by decide)),k2.ai I.X (I.V.cF I.X (by decide) (by decide) (by decide) (by decide)),k2.ai I.R (I.V.cF I.R (by decide) (by decide) (by decide) (by decide)),I.xl,I.rl,I.tl,I.ol,I.wl,I.fl,I.D.ae k2 (fun a e _=>I.V.c6 (I.dF a e)),I.dF⟩
 ·rcases p0 j hj with h | h
  ·exact I.o0 j h
  ·exact .inr (Nat.le_trans I.K.size h)
 ·rcases p1 j hj with h | h
  ·exact I.o1 j h
  ·exact .inr (Nat.le_trans I.K.size h)
 ·rcases p2 j hj with h | h
  ·exact I.o2 j h
  ·exact .inr (Nat.le_trans I.K.size h)
 ·rcases p2 j hf with h | h
  ·exact (I.o3 j hj).2 h
  ·have:=(I.L.own hj).1;omega
theorem eJ.other {b:Nat} (I:eJ w1 g h W rv mv nv F xb rb tb tc xc rc ao fs s lv l wr mv' nv' F') (k:aa (·=b) wr w2) (hb:∃ c,ah wr b c 78) (h0:w1.heap.size≤b) (h1:¬ F' b) (h2:¬ ag lv b):eJ w1 g h W rv mv nv F xb rb tb tc xc rc ao fs s lv l w2 mv' nv' F':=by
 obtain ⟨c,hc⟩:=hb;have ho:¬ h.Own b:=fun e=>by have:=I.ol b e;omega
 have fp:=I.V.cF hc (by decide) (by decide) (by decide) (by decide);exact ⟨I.V.other k fp ho h1 (fun e=>by have:=I.wl;omega) (fun e=>by have:=I.fl;omega),I.K.then k (fun j hj=>.inr (by rw [hj];exact h0)),I.o0,I.o1,I.o2,I.L.ae k (fun j hj e=>h2 (e ▸ hj)),I.o3,k.ai I.T (fun e=>hc.ne I.T (by decide) e.symm),k.ai I.X (fun e=>by have:=I.xl;omega),k.ai I.R (fun e=>by have:=I.rl;omega),I.xl,I.rl,I.tl,I.ol,I.wl,I.fl,
  I.D.ae k (fun a e _ hl=>ho (hl ▸ I.dF a e)),I.dF⟩
theorem eJ.app (I:eJ w1 g h W rv mv nv F xb rb tb tc xc rc ao fs s lv l wr mv' nv' F') (ka:aa (fun _=>False) wr wa)
  (hs:Sl w2 78 2 lv2 (l.length+1) (au l ++ [.int .i64 v.1, .int .i64 v.2])) (hk:aa (ag lv) wa w2) (ho:∀ k,ag lv2 k→ag lv k∨wa.heap.size≤k):eJ w1 g h W rv mv nv F xb rb tb tc xc rc ao fs s lv2 (l ++ [v]) w2 mv' nv' F':=by
 have k2:=(ka.mono (T:=ag lv) (fun _ _ h=>h.elim)).trans hk;refine ⟨I.V.ae k2 (fun j hj hl=>I.iE hl hj) (fun j hj hl=>by have:=I.ol j hj;have:=(I.o3 j hl).1;omega) (fun j hj hl=>(I.o3 j hl).2 hj) (fun hl=>by have:=(I.o3 _ hl).1;have:=I.wl;omega) (fun hl=>by have:=(I.o3 _ hl).1;have:=I.fl;omega),I.K.then k2 (fun j hj=>.inr (I.o3 j hj).1),I.o0,I.o1,I.o2,?_,fun j hj=>?_,
  k2.ai I.T (fun hl=>by obtain ⟨_,c,hc⟩:=I.L.own hl;exact hc.ne I.T (by decide) rfl),k2.ai I.X (fun hl=>by have:=(I.o3 _ hl).1;have:=I.xl;omega),k2.ai I.R (fun hl=>by have:=(I.o3 _ hl).1;have:=I.rl;omega),I.xl,I.rl,I.tl,I.ol,I.wl,I.fl,I.D.ae k2 (fun a e _ hl=>by have:=I.ol _ (I.dF a e);have:=(I.o3 _ hl).1;omega),I.dF⟩
 ·have e:au (l ++ [v])=au l ++ [.int .i64 v.1, .int .i64 v.2]:=by simp [au]
  rw [e,List.length_append];exact hs
 ·rcases ho j hj with h1 | h1
  ·exact I.o3 j h1
  ·have h2:=ka.size;have h3:=I.K.size;refine ⟨by omega,fun hf=>?_⟩;have:=(I.V.hF j hf).1;omega
theorem eJ.same (I:eJ w1 g h W rv mv nv F xb rb tb tc xc rc ao fs s lv l wr mv' nv' F') (k:aa (fun _=>False) wr w2):eJ w1 g h W rv mv nv F xb rb tb tc xc rc ao fs s lv l w2 mv' nv' F':=
 ⟨I.V.same k,I.K.trans (k.mono (fun _ _ h=>h.elim)),I.o0,I.o1,I.o2,I.L.ae k (fun _ _ h=>h),I.o3,k.ai I.T (fun h=>h),k.ai I.X (fun h=>h),k.ai I.R (fun h=>h),I.xl,I.rl,I.tl,I.ol,I.wl,I.fl,I.D.ae k (fun _ _ _ h=>h),I.dF⟩
theorem eJ.done {kd:Int} {n gn o cap lc:Nat} {ao2:Option Addr} (hlv:lv=.slice ao2 l.length lc) (I:eJ w1 g h W rv mv nv F xb rb tb tc xc rc ao fs s lv l wr mv' nv' F')
  (hnv:nv'=.slice (some ⟨gn,o,none⟩) s.2.length cap) (hn:s.2[n]? = some (kd,[])):eC w1 g h W rv mv nv F (s.1,s.2.set n (kd,l)) (wr.setCell ⟨gn,o+n*2+1,none⟩ lv)∧ah (wr.setCell ⟨gn,o+n*2+1,none⟩ lv) rb rc 78:=by
 subst hnv hlv;have hlt:n<s.2.length:=(List.getElem?_eq_some_iff.1 hn).1;have hgo:ag (.slice (some ⟨gn,o,none⟩) s.2.length cap) gn:=rfl;have setk:=(aa.refl (·=gn) wr).setCell (p:=⟨gn,o+n*2+1,none⟩) (.inl rfl) (.slice ao2 l.length lc);have K2:aa (dH g mv nv) w1 (wr.setCell ⟨gn,o+n*2+1,none⟩ (.slice ao2 l.length lc)):=I.K.setCell (p:=⟨gn,o+n*2+1,none⟩) (by
  rcases I.o1 gn hgo with h1 | h1
  ·exact .inl (.inr (.inr (.inr h1)))
  ·exact .inr h1) _
 obtain ⟨cs,hs,hr⟩:=I.V.N;obtain ⟨_,gc,hgc⟩:=hs.own hgo;have gne:∀ {b:Nat} {c:List Value} {T:TypeId},ah wr b c T→T≠83→¬ b=gn:=fun hb hT e=>hb.ne hgc hT e;obtain ⟨ao',cap',e1,hrd,hcm,hnc⟩:=I.L.rd;cases e1;refine ⟨⟨mv', .slice (some ⟨gn,o,none⟩) s.2.length cap,fun k=>F' k∨ag (.slice ao2 l.length lc) k,⟨I.V.H.ae setk (fun b hb=>?_),setk.ai I.V.hm (gne I.V.hm (by decide)),setk.ai I.V.hw (gne I.V.hw (by decide)),setk.ai I.V.hv (gne I.V.hv (by decide)),setk.ai I.V.hf (gne I.V.hf (by decide)),I.V.M.ae setk (fun b hb=>?_),?_,fun j hj=>?_,I.V.bd⟩,K2,I.o0,I.o1,fun j hj=>?_⟩,setk.ai I.R (gne I.R (by decide))⟩
 ·obtain ⟨_,c,T,hc,hT⟩:=I.V.H.aX hb;rcases hT with rfl | rfl | rfl | rfl <;> exact gne hc (by decide)
 ·obtain ⟨_,c,hc⟩:=I.V.M.own hb;exact gne hc (by decide)
 ·have hsl:(s.2.set n (kd,l)).length=s.2.length:=by simp
  refine ⟨cs.set (n*2+1) (.slice ao2 l.length lc),?_,?_⟩
  ·rw [hsl];exact hs.set (j:=n*2+1) (by omega)
  ·have hr':bp 2 (dc (wr.setCell ⟨gn,o+n*2+1,none⟩ (.slice ao2 l.length lc)) (fun k=>F' k∨ag (.slice ao2 l.length lc) k)) s.2 cs:=
    hr.mono (fun a _ r h1=>(h1.ae setk (fun j hj _=>by obtain ⟨_,c,hc⟩:=I.V.hF j hj;exact gne hc (by decide))).more (fun j hj=>.inl hj))
   refine bp.setCell hlt (by decide) hr' (fun r h2 h3=>?_);have e2:s.2[n]=(kd,[]):=by rw [Le hlt] at hn;exact Option.some.inj hn
   rw [e2] at h3;obtain ⟨_,_,rfl,-⟩:=h3;refine ⟨ao2,lc,rfl,hrd.ae setk (fun a ha _ e=>?_),fun a ha=>.inr ?_,hcm⟩
   ·subst ha;obtain ⟨_,c,hc⟩:=I.L.own (k:=a.block) rfl;exact gne hc (by decide) e
   ·subst ha;rfl
 ·rcases hj with hj | hj
  ·obtain ⟨a,c,hc⟩:=I.V.hF j hj;exact ⟨Nat.lt_of_lt_of_le a setk.size,c,setk.ai hc (gne hc (by decide))⟩
  ·obtain ⟨a,c,hc⟩:=I.L.own hj;exact ⟨Nat.lt_of_lt_of_le a setk.size,c,setk.ai hc (gne hc (by decide))⟩
 ·rcases hj with hj | hj
  ·exact I.o2 j hj
  ·exact .inr (I.o3 j hj).1
end
def cK (l:List (Int × Int)) (g:Int) (p:Nat):Nat:=(bN (l.take p) g).length
theorem pC (l:List (Int × Int)) (g:Int):cK l g 0=0:=rfl
theorem qu (l:List (Int × Int)) (g:Int):cK l g l.length=(bN l g).length:=by unfold cK;rw [List.take_length]
theorem pD {l:List (Int × Int)} {g:Int} {p:Nat} (hp:p<l.length):cK l g (p+1)=cK l g p+if (l.getD p (0,0)).1=g then 1 else 0:=by
 unfold cK bN;rw [List.take_add_one,Ld,Le hp];simp only [Option.toList_some,Option.getD_some,List.filter_append,List.map_append,List.length_append,List.length_map,List.filter_cons,List.filter_nil];by_cases h:l[p].1=g
 ·simp [h]
 ·simp [h]
theorem rT {l:List (Int × Int)} {g:Int} {p:Nat} (hp:p<l.length) (h:(l.getD p (0,0)).1=g):(bN l g)[cK l g p]? = some (l.getD p (0,0)).2:=by
 have e:l=l.take p ++ l[p] :: l.drop (p+1):=by rw [←List.drop_eq_getElem_cons hp,List.take_append_drop]
 have h1:(l.getD p (0,0))=l[p]:=by rw [Ld,Le hp];rfl
 rw [h1] at h ⊢;have h2:bN l g=bN (l.take p) g ++ l[p].2 :: bN (l.drop (p+1)) g:=by
  conv=>lhs;rw [e]
  unfold bN;rw [List.filter_append,List.filter_cons,if_pos (by simpa using h),List.map_append,List.map_cons]
 rw [h2];unfold cK;rw [List.getElem?_append_right (Nat.le_refl _),Nat.sub_self]
 rfl
theorem rU {l:List (Int × Int)} {g:Int} (p:Nat):cK l g p≤l.length:=by
 unfold cK bN;rw [List.length_map];exact Nat.le_trans (List.length_filter_le _ _) (by rw [List.length_take];omega)
theorem aK.qx {w0:World} {wo:Option Addr} {len wc p:Nat} (H:aK w0 h W) (hp:p<W.wait.length) (e:h.wv=.slice wo len wc) :
  ∃ gw ow,wo=some ⟨gw,ow,none⟩∧h.Own gw∧∀ w',aK w' h W→gw<w'.heap.size∧w'.cell? ⟨gw,ow+p*2,none⟩=some (.int .i64 (W.wait.getD p (0,0)).1)∧w'.cell? ⟨gw,ow+p*2+1,none⟩=some (.int .i64 (W.wait.getD p (0,0)).2):=by
 obtain ⟨_,_,e',rd,-,-⟩:=H.hw.rd;rw [e] at e';cases e';obtain ⟨gw,ow,rfl,-,-,-⟩:=rd.val p hp;refine ⟨gw,ow,rfl, .inr (.inr (.inr (.inr (.inl (by rw [e];rfl))))),fun w' H'=>?_⟩;obtain ⟨_,_,e2,rd2,-,-⟩:=H'.hw.rd;rw [e] at e2;cases e2;obtain ⟨g',o',e3,hl,d0,d1⟩:=rd2.val p hp;cases e3;exact ⟨hl,d0,d1⟩
theorem pE {G:Gr} {U:List Int} (I:oX G U) {n:Nat} {x:Int} {s:VS} (hx:x ∈ U) (j:Nat) (h:cC U (s.1 ++ [x])≤n) (hc:(s.1 ++ [x]).length+cC U (s.1 ++ [x])≤5000) :
  cC U (NS G n x s j).2.1≤n∧(NS G n x s j).2.1.length+cC U (NS G n x s j).2.1≤5000:=by
 unfold NS;obtain ⟨m,hm⟩:=ic (ig G n) ((G x).2.take j) (s.1 ++ [x],s.2 ++ [((G x).1,[])]);have h1:=m5 U (s.1 ++ [x]) m;have h2:=fL (f:=valM G n) (U:=U) (kf I n) ((G x).2.take j) (s.1 ++ [x],s.2 ++ [((G x).1,[])]) (fun v hv=>I.shut x hx v (List.mem_of_mem_take hv));rw [hm] at h2 ⊢;dsimp only at h2 ⊢;exact ⟨by omega,by omega⟩
theorem rV (G:Gr) (n:Nat) (x:Int) (s:VS) (j:Nat) (hl:s.2.length=s.1.length):(NS G n x s j).2.2.length=(NS G n x s j).2.1.length:=by
 unfold NS;exact fJ (fK G n) _ _ (by simp [hl])
def sG (g:ej) (h:RW) (W:Wd) (rv:Value) (n:Nat):Prop:=∀ (v:Vl) (mv nv:Value) (F:Nat→Prop) (s:VS) (w:World),cx w g h W rv mv nv F s→(v.1=3→v.2 ∈ W.all)→cC W.all s.1≤n→s.1.length+cC W.all s.1≤5000→s.2.length=s.1.length →
 Calls Try.prog 108 #[.agg #[.int .i64 v.1, .int .i64 v.2], .pointer (some ⟨g.mb,0,none⟩), .pointer (some ⟨g.wb,0,none⟩), .pointer (some ⟨g.vb,0,none⟩), .pointer (some ⟨g.fb,0,none⟩)] w (gO w g h W rv mv nv F (valM W.gr n v s))
theorem oh (n:Nat) (ih:sG g h W rv n) (v2:Int) (V:cx w g h W rv mv nv F s) (hx:v2 ∈ W.all) (hm:¬ v2 ∈ s.1) (hu:cC W.all s.1≤n+1) (hc:s.1.length+cC W.all s.1≤5000) (hl:s.2.length=s.1.length) (hT:W.T.length≤100000) :
  Calls Try.prog 108 #[.agg #[.int .i64 3, .int .i64 v2], .pointer (some ⟨g.mb,0,none⟩), .pointer (some ⟨g.wb,0,none⟩), .pointer (some ⟨g.vb,0,none⟩), .pointer (some ⟨g.fb,0,none⟩)] w (gO w g h W rv mv nv F (valM W.gr (n+1) (3,v2) s)):=by
 have HNEW:=Hz (dt W.gr n (v:=(3,v2)) (s:=s) rfl hm);have HV:=Hz V;have HM:=Hz hm;have HIH:=Hz ih;have hlv:=Wd.di.1 hx;have HLV:=Hz hlv;have HX:=Hz hx;have hp:=fe hx hm;have HU:=Hz (show cC W.all (s.1 ++ [v2])≤n by omega);have HC:=Hz (show (s.1 ++ [v2]).length+cC W.all (s.1 ++ [v2])≤5000 by rw [List.length_append];simp;omega);have hsl:s.1.length≤5000:=by omega
 have HSL:=Hz hsl;obtain ⟨ii,hi,hz0,hz1,hz2⟩:=bB fX;have Ii:=Hz hi;have Iz0:=Hz hz0;have Iz1:=Hz hz1;have Iz2:=Hz hz2;clear hi hz0 hz1 hz2;obtain ⟨ni,hi,hz0,hz1,hz2⟩:=bB kU;have Ni:=Hz hi;have Nz0:=Hz hz0;have Nz1:=Hz hz1;have Nz2:=Hz hz2;clear hi hz0 hz1 hz2;obtain ⟨vi,hi,hz0,hz1,hz2⟩:=bB du;have Vi:=Hz hi;have Vz0:=Hz hz0;have Vz1:=Hz hz1;have Vz2:=Hz hz2;clear hi hz0 hz1 hz2;have HLL:=Hz hl;clear V hm hsl hlv hx hp hu hc ih hl;go_enter Try.func108,Try.ntmps108;go_upto_region 1 with (fail)
 have ka:=(Kz w).alloc (.cells #[.int .i64 (3), .int .i64 v2] 78);have xb1:ah (w.alloc (.cells #[.int .i64 (3), .int .i64 v2] 78)) w.heap.size [.int .i64 (3), .int .i64 v2] 78:=ah.newAt _ rfl rfl;have sz1:(w.alloc (.cells #[.int .i64 (3), .int .i64 v2] 78)).heap.size=w.heap.size+1:=by simp
 have K1:=Hz (ka.alloc (.cells #[.int .i64 0, .int .i64 0] 78));have XB:=Hz (xb1.alloc (.cells #[.int .i64 0, .int .i64 0] 78));have RB:=Hz (show ah ((w.alloc (.cells #[.int .i64 (3), .int .i64 v2] 78)).alloc (.cells #[.int .i64 0, .int .i64 0] 78)) (w.heap.size+1) [.int .i64 0, .int .i64 0] 78 from ah.newAt _ sz1.symm rfl);have V1:=Hz (HV.out.same K1.out);have RNF:Hid (¬ F (w.heap.size+1)):=fun hf=>by have:=(HV.out.hF _ hf).1;omega
 have RNO:Hid (¬ h.Own (w.heap.size+1)):=fun hf=>by have:=(HV.out.H.aX hf).1;omega
 have XNO:Hid (¬ h.Own w.heap.size):=fun hf=>by have:=(HV.out.H.aX hf).1;omega
 have XNF:Hid (¬ F w.heap.size):=fun hf=>by have:=(HV.out.hF _ hf).1;omega
 clear ka xb1 sz1;generalize (w.alloc (.cells #[.int .i64 (3), .int .i64 v2] 78)).alloc (.cells #[.int .i64 0, .int .i64 0] 78)=w1 at *;generalize hxb:w.heap.size=xb at XB RB RNF RNO XNO XNF ⊢;have HXB:=Hz hxb;clear hxb;generalize hrb:xb+1=rb at RB RNF RNO ⊢;have HRX:=Hz hrb;clear hrb;have HRB:=Hz (show w.heap.size≤rb by have:=HXB.out;have:=HRX.out;omega);have b0:=XB.out.cell 0;have b1:=XB.out.cell 1;have bl:=XB.out.lt;simp only [Lz,Ls] at b0 b1;have c0:=V1.out.hm.cell 0;have cl:=V1.out.hm.lt;simp only [Lz] at c0;obtain ⟨mo,mc,emv,-,hml,-⟩:=V1.out.M.rd;have EMV:=Hz emv;rw [emv] at c0;have hsl:=HSL.out;clear emv hml;go_wp2_with fail;go_loopw [7] (fun i wr=>∃ k:Nat,k≤s.1.length∧i=.int .i64 k∧aa (fun _=>False) w1 wr∧∀ j,j<k→s.1.getD j 0≠v2) (fun i _=>s.1.length-(intOf i).toNat)
 case atStart=>exact ⟨0,Nat.zero_le _,rfl,aa.refl _ _,fun j hj=>by omega⟩
 case round=>
  clear c0 cl b0 b1 bl;obtain ⟨k,hk,rfl,hK,hN⟩:=hrel;have KR:=Hz hK;clear hK hN;have VR:=Hz (V1.out.same KR.out);have XR:=Hz (KR.out.ai XB.out (fun h=>h));have RR:=Hz (KR.out.ai RB.out (fun h=>h));have b0:=XR.out.cell 0;have b1:=XR.out.cell 1;have bl:=XR.out.lt;have c0:=VR.out.hm.cell 0;have cl:=VR.out.hm.lt;simp only [Lz,Ls] at b0 b1 c0;rw [EMV.out] at c0;by_cases hlt:k<s.1.length
  ·obtain ⟨_,_,e',rd,-,-⟩:=VR.out.M.rd;rw [EMV.out] at e';cases e';obtain ⟨gm,om,rfl,d0⟩:=rd.int k hlt;have hgm:=((VR.out.M).own (k:=gm) (by rw [EMV.out];rfl)).1;have hne:s.1.getD k 0≠v2:=fun e=>HM.out (by rw [←e,Ld,Le hlt];exact List.getElem_mem hlt);generalize s.1.getD k 0=y at *;have hd:(y == v2)=false:=by simpa using hne
   clear rd hne;go_wp2_with fail;refine aq (.free 1 (.free 4 (.pure 0 (.free 2 (.pure 3 (.pure 5 (.free 6 (.fin)))))))) [] (fun w'=>w'.cell? ⟨g.mb,0,none⟩=some (.slice (some ⟨gm,om,none⟩) s.1.length mc)∧w'.cell? ⟨gm,om+k,none⟩=some (.int .i64 y)∧w'.cell? ⟨xb,1,none⟩=some (.int .i64 v2)) (by kernel_rfl) (by kernel_rfl) ⟨c0,d0,b1⟩ ?_
   iterate 7 ((first | refine ak rfl rfl fun K hK=>?_ | refine aj rfl rfl fun K hK=>?_ | refine ay rfl rfl fun K hK=>?_ | refine av rfl rfl fun K hK=>?_ | refine ax rfl rfl fun K hK=>?_);go_simp;refine hK _ ?_;clear hK K)
   refine aA ?_;clear b0 b1 bl c0 cl d0 hgm;go_wp2_with fail;go_roundw
   case rel=>exact ⟨k+1,hlt,by go_num,KR.out.drew,fun j hj e=>HM.out (by rw [←e,Ld,Le (by omega)];exact List.getElem_mem _)⟩
   case measure=>simp [intOf];omega
  ·obtain rfl:k=s.1.length:=by omega
   have f0:=VR.out.hm.free 0;have HSL2:=Hz (show Sl wr 3 1 (.slice mo s.1.length mc) s.1.length (s.1.map (Value.int .i64)) by have:=VR.out.M;rw [EMV.out] at this;exact this);go_wp2_with (at_builtin;refine bD rfl (.tmp 36) (.tmp 39) 50 rfl 3 ii (.int .i64 0) 1 8 Try.underlying50 Ii.out Iz0.out Iz1.out Iz2.out rfl (by decide) _ s.1.length (s.1.map (Value.int .i64)) rfl (HSL2.out.ae ((Kz wr).alloc _) (fun _ _ h=>h)) ⟨wr.heap.size,0,none⟩ 1 1 [.int .i64 v2] rfl rfl (bq wr 3 _) (by intro u hu;simp at hu;subst hu;rfl) (by have:=HSL.out;unfold maxLen;omega) (by have:=HSL.out;omega) ?_);intro v2' w2 hs2 hk2 ho2;have ka:=(Kz wr).alloc (.cells #[.int .i64 v2] 3);have HT3:=Hz (VR.out.rS ka (by simpa using hs2) (by rw [EMV.out];exact hk2) (by rw [EMV.out];simpa using ho2) ⟨HLV.out.1,by have:=HLV.out.2.1;omega⟩);have hm2:=hk2.ai (ka.ai VR.out.hm (fun h=>h)) (fun e=>by obtain ⟨_,c,hc⟩:=HSL2.out.own e;exact hc.ne VR.out.hm (by decide) rfl);obtain ⟨mo2,mc2,rfl,-,-,-⟩:=hs2.rd;have x0:=hm2.cell 0;have xl:=hm2.lt;have xf:=hm2.free 0;simp only [Lz] at x0;have b1':=(hk2.ai (ka.ai XR.out (fun h=>h)) (fun e=>by obtain ⟨_,c,hc⟩:=HSL2.out.own e;exact hc.ne XR.out (by decide) rfl)).cell 1;clear hs2 hk2 ho2 ka hm2 c0 cl b0 b1 bl f0 b1';go_wp2_with fail;clear x0 xl xf;generalize w2.setCell ⟨g.mb,0,none⟩ (.slice mo2 (s.1.length+1) mc2)=w3 at *;obtain ⟨mv3,nv3,F3,V3',k3,p0,p1,p2⟩:=HT3.out;have V3:=Hz V3';have XB3:=Hz (k3.ai XR.out (VR.out.cF XR.out (by decide) (by decide) (by decide) (by decide)));have RB3:=Hz (k3.ai RR.out (VR.out.cF RR.out (by decide) (by decide) (by decide) (by decide)));have KT3:=Hz ((KR.out.mono (T:=dH g mv nv) (fun _ _ h=>h.elim)).trans k3);have P0:=Hz (show ∀ k,ag mv3 k→ag mv k∨w1.heap.size≤k from fun k hk=>(p0 k hk).imp id (fun h=>Nat.le_trans KR.out.size h));have P1:=Hz (show ∀ k,ag nv3 k→ag nv k∨w1.heap.size≤k from fun k hk=>(p1 k hk).imp id (fun h=>Nat.le_trans KR.out.size h));have P2:=Hz (show ∀ k,F3 k→F k∨w1.heap.size≤k from fun k hk=>(p2 k hk).imp id (fun h=>Nat.le_trans KR.out.size h));clear HT3 VR XR RR V3' k3 p0 p1 p2 HSL2;obtain ⟨m,rfl,-⟩:∃ m:Nat,v2=m∧True:=⟨v2.toNat,by have:=HLV.out.1;omega,trivial⟩;have hmT:m<W.T.length:=by have:=HLV.out.2.1;omega
   obtain ⟨no,nc,etv,N⟩:=V3.out.H.ht.nth;obtain ⟨gt,ot,ao,fc,rfl,hogt,hgt,t0,t1,t2,t3,hrd,hoF,hml2⟩:=N m hmT;have HTH:=Hz (show W.th (m:Int)=W.T.getD m Th.none by unfold Wd.th;rw [Int.toNat_natCast]);generalize hth:W.T.getD m Th.none=th at *;have HRD:=Hz hrd;obtain ⟨kd,fs,aR,dead⟩:=th;dsimp only at t0 t1 t2 t3 HRD hml2;have a0:=V3.out.hw.cell 0;have al:=V3.out.hw.lt;obtain ⟨e0,-,-,-,-,-⟩:=V3.out.H.cells;have el:=V3.out.H.hp.lt;rw [etv] at e0;have b1:=XB3.out.cell 1;have bl:=XB3.out.lt;simp only [Lz,Ls] at a0 b1;have HAF:=Hz (show ∀ a,ao=some a→h.Own a.block from fun a e=>.inr (.inr (.inr (.inr (.inr (hoF a e))))));clear N hth hrd hoF;go_wp2_with fail;refine aq (.free 4 (.pure 0 (.free 1 (.free 2 (.pure 3 (.pure 5 (.free 6 (.pure 7 (.run 8 (.run 9 (.swi [] (.fin)))))))))))) [9] (fun w'=>w'.cell? ⟨g.wb,0,none⟩=some (.pointer (some ⟨h.p,0,none⟩))∧w'.cell? ⟨h.p,0,none⟩=some (.slice (some ⟨gt,ot,none⟩) W.T.length nc)∧w'.cell? ⟨xb,1,none⟩=some (.int .i64 m)∧w'.cell? ⟨gt,ot+m*4,none⟩=some (.int .i64 kd)∧w'.cell? ⟨gt,ot+m*4+1,none⟩=some (.slice ao fs.length fc)∧w'.cell? ⟨gt,ot+m*4+1+1,none⟩=some (.bool aR)∧w'.cell? ⟨gt,ot+m*4+1+1+1,none⟩=some (.bool dead)) (by kernel_rfl) (by kernel_rfl) ⟨a0,e0,b1,t0,t1,t2,t3⟩ ?_
   iterate 8 ((first | refine ak rfl rfl fun K hK=>?_ | refine aj rfl rfl fun K hK=>?_ | refine eE rfl rfl _ (fun w' hG=>by obtain ⟨a0,e0,b1,t0,t1,t2,t3⟩:=hG;exact gC (cs:=[_,_,_,_]) rfl (by decide +kernel) rfl (ab (by assumption) (ab (by assumption) (ab (by assumption) (ab (by assumption) aO))))) (fun K hK=>?_) | refine ay rfl rfl fun K hK=>?_ | refine av rfl rfl fun K hK=>?_ | refine ax rfl rfl fun K hK=>?_);go_simp;refine hK _ ?_;clear hK K)
   refine aZ rfl rfl (fun K hK=>?_);unfold aM;go_simp;have kz:aa (fun _=>False) w3 (w3.alloc (.cells #[.int .i64 0, .slice none 0 0, .bool false, .bool false] 161)).drew:=((Kz w3).alloc _).drew;have tz:ah (w3.alloc (.cells #[.int .i64 0, .slice none 0 0, .bool false, .bool false] 161)).drew w3.heap.size [.int .i64 0, .slice none 0 0, .bool false, .bool false] 161:=(ah.new w3 [.int .i64 0, .slice none 0 0, .bool false, .bool false] 161).drew;refine hK _ _ (fun _=>⟨(kz.cellAt al (fun h=>h) _).trans a0,(kz.cellAt el (fun h=>h) _).trans e0,(kz.cellAt bl (fun h=>h) _).trans b1,(kz.cellAt hgt (fun h=>h) _).trans t0,(kz.cellAt hgt (fun h=>h) _).trans t1,(kz.cellAt hgt (fun h=>h) _).trans t2,(kz.cellAt hgt (fun h=>h) _).trans t3⟩) ?_;clear hK K;have KZ:=Hz kz;have TZ:=Hz tz;have z0:=tz.cell 0;have z1:=tz.cell 1;have z2:=tz.cell 2;have z3:=tz.cell 3;have zl:=tz.lt;have zf:=tz.free 0;have zf1:=tz.free 1;have zf2:=tz.free 2;have zf3:=tz.free 3;simp only [Lz,Ls] at z0 z1 z2 z3;clear kz tz a0 e0 b1 t0 t1 t2 t3 al el bl hgt;have HTN:=Hz (show w3.heap.size=w3.heap.size from rfl);refine aG rfl rfl rfl (fun K hK=>?_);unfold aM;go_simp;refine hK _ _ ?_;clear hK K TZ KZ z0 z1 z2 z3 zl zf zf1 zf2 zf3 HTN;refine aE (fun _=>True) trivial (aA ?_);have kt:aa (fun _=>False) w3 (w3.alloc (.cells #[.int .i64 kd, .slice ao fs.length fc, .bool aR, .bool dead] 161)).drew:=((Kz w3).alloc _).drew;have htb:ah (w3.alloc (.cells #[.int .i64 kd, .slice ao fs.length fc, .bool aR, .bool dead] 161)).drew w3.heap.size [.int .i64 kd, .slice ao fs.length fc, .bool aR, .bool dead] 161:=(ah.new w3 [.int .i64 kd, .slice ao fs.length fc, .bool aR, .bool dead] 161).drew;have TB:=Hz htb;have V4:=Hz (V3.out.same kt);have XB4:=Hz (kt.ai XB3.out (fun h=>h));have RB4:=Hz (kt.ai RB3.out (fun h=>h));have KT4:=Hz (KT3.out.trans (kt.mono (fun _ _ h=>h.elim)));have HRD4:=Hz (HRD.out.ae kt (fun _ _ _ h=>h));have TNO:=Hz (show ¬ h.Own w3.heap.size from fun e=>by have:=(V3.out.H.aX e).1;omega);have TLE:=Hz (show w1.heap.size≤w3.heap.size from KT3.out.size);clear kt htb V3 XB3 RB3 KT3 HRD;generalize (w3.alloc (.cells #[.int .i64 kd, .slice ao fs.length fc, .bool aR, .bool dead] 161)).drew=w4 at *;generalize w3.heap.size=tb at *;obtain ⟨cs,hns,hcs⟩:=V4.out.N;obtain ⟨nno,nnc,rfl,-,hnm,-⟩:=hns.rd;have HNS:=Hz hns;have HCS:=Hz hcs;have hs5:s.2.length≤5000:=by have:=HLL.out;have:=HSL.out;omega
   have v1:=V4.out.hv.cell 1;have vl:=V4.out.hv.lt;have vf:=V4.out.hv.free 1;have t0:=TB.out.cell 0;have tl:=TB.out.lt;simp only [Lz,Ls] at v1 t0;clear hns hcs hnm;go_wp2_with (at_builtin;refine bD rfl (.tmp 50) (.tmp 54) 70 rfl 83 ni (.agg #[.int .i64 0, .slice none 0 0]) 2 32 Try.underlying70 Ni.out Nz0.out Nz1.out Nz2.out rfl (by decide) _ s.2.length cs rfl (HNS.out.ae ((Kz w4).alloc _) (fun _ _ h=>h)) ⟨w4.heap.size,0,none⟩ 1 1 [.int .i64 kd, .slice none 0 0] rfl rfl (bq w4 83 _) (by intro u hu;simp at hu;rcases hu with rfl | rfl <;> rfl) (by unfold maxLen;omega) (by omega) ?_);intro v5' w5 hs5' hk5 ho5;have ka:=(Kz w4).alloc (.cells #[.int .i64 kd, .slice none 0 0] 83);have HT6:=Hz (V4.out.qt (kd:=kd) ka cs HCS.out (by simpa using hs5') hk5 (by simpa using ho5));have hv5:=hk5.ai (ka.ai V4.out.hv (fun h=>h)) (fun e=>by obtain ⟨_,c,hc⟩:=HNS.out.own e;exact hc.ne V4.out.hv (by decide) rfl);obtain ⟨no5,nc5,rfl,-,-,-⟩:=hs5'.rd;have x1:=hv5.cell 1;have xl:=hv5.lt;have xf:=hv5.free 1;simp only [Lz,Ls] at x1;clear hs5' hk5 ho5 ka hv5 v1 vl vf t0 tl;go_wp2_with fail;clear x1 xl xf;have HI0:=Hz (show ∃ mv' nv' F',eJ w1 g h W rv mv nv F xb rb tb [.int .i64 kd, .slice ao fs.length fc, .bool aR, .bool dead] [.int .i64 3, .int .i64 m] [.int .i64 0, .int .i64 0] ao fs (s.1 ++ [(m:Int)],s.2 ++ [(kd,[])]) (.slice none 0 0) [] (w5.setCell ⟨g.vb,1,none⟩ (.slice no5 (s.2.length+1) nc5)) mv' nv' F' by
    obtain ⟨mv6,nv6,F6,V6,k6,q0,q1,q2⟩:=HT6.out;have nf:∀ {b:Nat} {c:List Value} {T:TypeId},ah w4 b c T→T≠50→T≠72→T≠3→T≠83→_:=fun hb h1 h2 h3 h4=>V4.out.cF hb h1 h2 h3 h4;refine ⟨mv6,nv6,F6,V6,KT4.out.then k6 (fun j hj=>dH.step P0.out P1.out hj),fun k hk=>?_,fun k hk=>?_,fun k hk=>?_,Sl.nil _ _ _,fun k hk=>(bJ hk).elim,k6.ai TB.out (nf TB.out (by decide) (by decide) (by decide) (by decide)),k6.ai XB4.out (nf XB4.out (by decide) (by decide) (by decide) (by decide)),k6.ai RB4.out (nf RB4.out (by decide) (by decide) (by decide) (by decide)),XB.out.lt,RB.out.lt,TNO.out,fun k hk=>(V1.out.H.aX hk).1,V1.out.hw.lt,V1.out.hf.lt,HRD4.out.ae k6 (fun a e _=>V4.out.c6 (HAF.out a e)),HAF.out⟩
    ·rcases q0 k hk with h | h
     ·exact P0.out k h
     ·exact .inr (Nat.le_trans KT4.out.size h)
    ·rcases q1 k hk with h | h
     ·exact P1.out k h
     ·exact .inr (Nat.le_trans KT4.out.size h)
    ·rcases q2 k hk with h | h
     ·exact P2.out k h
     ·exact .inr (Nat.le_trans KT4.out.size h))
   clear HT6 V4 XB4 RB4 TB HNS HCS;generalize w5.setCell ⟨g.vb,1,none⟩ (.slice no5 (s.2.length+1) nc5)=w6 at *;have hgr1:(W.gr m).1=kd:=by show (W.th m).k=kd;rw [HTH.out]
   have HGR1:=Hz hgr1;have HGF:=Hz (show ∀ j:Nat,(hj:j<fs.length)→(W.gr m).2[j]? = some (fs.getD j (0,0)) from fun j hj=>by
    unfold Wd.gr;dsimp only
    rw [HTH.out,List.getElem?_append_left (by exact hj),Ld,Le hj];rfl)
   have HGL:=Hz (show (W.gr m).2.length=fs.length+if kd=5 then (bN W.wait m).length else 0 by
    unfold Wd.gr;dsimp only;rw [HTH.out,List.length_append];dsimp only
    split <;> simp)
   have HFL:=Hz (show fs.length≤12 by have:=Wd.iy HV.out.H.ok HLV.out;rw [HTH.out] at this;exact this);have HI1:=Hz (show ∃ mv' nv' F',eJ w1 g h W rv mv nv F xb rb tb [.int .i64 kd, .slice ao fs.length fc, .bool aR, .bool dead] [.int .i64 3, .int .i64 m] [.int .i64 0, .int .i64 0] ao fs (NS W.gr n m s 0).2 (.slice none 0 0) (NS W.gr n m s 0).1 w6 mv' nv' F' by rw [m7,hgr1];exact HI0.out);clear HI0 hgr1;have HUN:=Hz (fun j=>pE (Wd.q3 HV.out.H.ok) (n:=n) (s:=s) HX.out j HU.out HC.out);have HNL:=Hz (fun j=>rV W.gr n (m:Int) s j HLL.out);go_loopw [10,11] (fun lv i wr=>∃ (j:Nat) (mv' nv':Value) (F':Nat→Prop),j≤fs.length∧i=.int .i64 j∧eJ w1 g h W rv mv nv F xb rb tb [.int .i64 kd, .slice ao fs.length fc, .bool aR, .bool dead] [.int .i64 3, .int .i64 m] [.int .i64 0, .int .i64 0] ao fs (NS W.gr n m s j).2 lv (NS W.gr n m s j).1 wr mv' nv' F') (fun _ i _=>fs.length-(intOf i).toNat)
   case atStart=>
    obtain ⟨mv',nv',F',hI⟩:=HI1.out;exact ⟨0,mv',nv',F',Nat.zero_le _,rfl,hI⟩
   case round=>
    clear HI1;obtain ⟨j,mv7,nv7,F7,hj,rfl,hI⟩:=hrel;have HI:=Hz hI;have t1:=hI.T.cell 1;have t0:=hI.T.cell 0;have tl:=hI.T.lt;simp only [Lz,Ls] at t0 t1;by_cases hlt:j<fs.length
    ·have HST:=Hz (jl W.gr n m s (HGF.out j hlt));have hjl:=kg W.gr n m s (j:=j) (by rw [HGL.out];omega);have HJL:=Hz hjl;obtain ⟨gf,of,rfl,hgf,d0,d1⟩:=hI.D.val j hlt;have a0:=hI.V.hf.cell 0;have al:=hI.V.hf.lt;simp only [Lz] at a0;generalize hfv:fs.getD j (0,0)=fv at *;have HFA:=Hz (show fv.1=3→fv.2 ∈ W.all from fun h3=>Wd.di.2 (Wd.bg (hI.V.H.ok.tv m HLV.out fv (by rw [HTH.out,←hfv];dsimp only;rw [Ld,Le hlt];exact List.getElem_mem hlt)) h3));obtain ⟨f1,f2⟩:=fv;dsimp only at d0 d1;obtain ⟨lo,lc,rfl,-,-,-⟩:=hI.L.rd;rw [hjl] at HI ⊢;clear hI hjl;unfold ej.fn at a0;go_wp2_with fail;refine aq (.free 1 (.free 3 (.pure 0 (.pure 2 (.free 4 (.pure 5 (.two 6 (.run 7 (.run 8 (.swi [] (.fin)))) 7 (.run 6 (.swi [8] (.run 8 (.swi [] (.fin)))))))))))) [8] (fun w'=>w'.cell? ⟨g.fb,0,none⟩=some (.func (.func 108) #[] #[.pointer (some ⟨g.mb,0,none⟩), .pointer (some ⟨g.wb,0,none⟩), .pointer (some ⟨g.vb,0,none⟩), .pointer (some ⟨g.fb,0,none⟩)])∧w'.cell? ⟨tb,1,none⟩=some (.slice (some ⟨gf,of,none⟩) fs.length fc)∧w'.cell? ⟨gf,of+j*2,none⟩=some (.int .i64 f1)∧w'.cell? ⟨gf,of+j*2+1,none⟩=some (.int .i64 f2)) (by kernel_rfl) (by kernel_rfl) ⟨a0,t1,d0,d1⟩ ?_
     iterate 6 ((first | refine ak rfl rfl fun K hK=>?_ | refine aj rfl rfl fun K hK=>?_ | refine ay rfl rfl fun K hK=>?_ | refine av rfl rfl fun K hK=>?_ | refine ax rfl rfl fun K hK=>?_);go_simp;refine hK _ ?_;clear hK K)
     refine jH rfl rfl rfl rfl (fun K hK=>?_) (fun K hK=>?_)
     ·unfold aM;go_simp;refine (HIH.out (f1,f2) mv7 nv7 F7 _ _ (HI.out.V.same ((Kz wr).drew)) (HFA.out) (HUN.out j).1 (HUN.out j).2 (HNL.out j)).mono ?_;rintro e w8 ⟨rfl,mv8,nv8,F8,V8,k8,p0,p1,p2⟩;have HI8:=Hz ((HI.out.same ((Kz wr).drew)).lE V8 k8 p0 p1 p2);obtain ⟨⟨⟨r1,r2⟩,sr⟩,hr⟩:∃ t,valM W.gr n (f1,f2) (NS W.gr n m s j).2=t:=⟨_,rfl⟩;rw [hr] at HI8 HST ⊢;dsimp only at HI8 HST ⊢;have hgf8:=Nat.lt_of_lt_of_le hgf k8.size;have d8:=(k8.cellAt hgf (HI.out.V.c6 (HI.out.dF _ rfl)) _).trans d0;have d9:=(k8.cellAt hgf (HI.out.V.c6 (HI.out.dF _ rfl)) _).trans d1;refine hK _ _ (fun h=>h) (fun _ _=>⟨HI8.out.V.hf.cell 0,HI8.out.T.cell 1,d8,d9⟩) ?_;clear hK K V8 k8 p0 p1 p2 hr a0 t1 d0 d1 hgf al tl t0 HI;refine aZ rfl rfl (fun K hK=>?_);unfold aM;go_simp;have kz:aa (fun _=>False) w8 (w8.alloc (.cells #[.int .i64 0, .int .i64 0] 78)).drew:=((Kz w8).alloc _).drew;have tz:ah (w8.alloc (.cells #[.int .i64 0, .int .i64 0] 78)).drew w8.heap.size [.int .i64 0, .int .i64 0] 78:=(ah.new w8 [.int .i64 0, .int .i64 0] 78).drew;have HI9:=Hz (HI8.out.same kz);refine hK _ _ (fun _=>⟨HI9.out.V.hf.cell 0,HI9.out.T.cell 1,(kz.cellAt hgf8 (fun h=>h) _).trans d8,(kz.cellAt hgf8 (fun h=>h) _).trans d9⟩) ?_;clear hK K d8 d9 hgf8;have z0:=tz.cell 0;have z1:=tz.cell 1;have zl:=tz.lt;have zf:=tz.free 0;have zf1:=tz.free 1;simp only [Lz,Ls] at z0 z1;clear kz tz;refine aG rfl rfl rfl (fun K hK=>?_);unfold aM;go_simp;refine hK _ _ ?_;clear hK K z0 z1 zl zf zf1 HI9;refine aE (fun _=>True) trivial (aA ?_);have kz:aa (fun _=>False) w8 (w8.alloc (.cells #[.int .i64 r1, .int .i64 r2] 78)):=((Kz w8).alloc _);have tz:ah (w8.alloc (.cells #[.int .i64 r1, .int .i64 r2] 78)) w8.heap.size [.int .i64 r1, .int .i64 r2] 78:=(ah.new w8 [.int .i64 r1, .int .i64 r2] 78);have HI2:=Hz (HI8.out.same kz);clear HI8 kz;generalize w8.alloc (.cells #[.int .i64 r1, .int .i64 r2] 78)=w9 at *;have HL2:=Hz (show Sl w9 78 2 (.slice lo j lc) j (au (NS W.gr n m s j).1) by have:=HI2.out.L;rw [HJL.out] at this;exact this);have z0:=tz.cell 0;have z1:=tz.cell 1;have zl:=tz.lt;simp only [Lz,Ls] at z0 z1;generalize w8.heap.size=tv at *;clear tz;go_wp2_with (at_builtin;refine bD rfl (.tmp 71) (.tmp 73) 69 rfl 78 vi (.agg #[.int .i64 0, .int .i64 0]) 2 16 Try.underlying69 Vi.out Vz0.out Vz1.out Vz2.out rfl (by decide) _ j (au (NS W.gr n m s j).1) rfl (HL2.out.ae ((Kz w9).alloc _) (fun _ _ h=>h)) ⟨w9.heap.size,0,none⟩ 1 1 [.int .i64 r1, .int .i64 r2] rfl rfl (bq w9 78 #[.int .i64 r1, .int .i64 r2]) (by intro u hu;simp at hu;rcases hu with rfl | rfl <;> rfl) (by have:=HFL.out;unfold maxLen;omega) (by have:=HFL.out;omega) ?_);intro v10 w10 hs10 hk10 ho10;have HI10:=Hz (HI2.out.app (v:=(r1,r2)) ((Kz w9).alloc _) (by rw [HJL.out];exact hs10) hk10 (by simpa using ho10));clear hs10 hk10 ho10 HL2 HI2 z0 z1 zl;have hfl:=HFL.out;go_wp2_with fail;go_roundw
      case rel=>exact ⟨j+1,_,_,_,by omega,by go_num,by rw [HST.out];exact HI10.out⟩
      case measure=>simp [intOf];omega
     ·unfold aM;go_simp;have kz:aa (fun _=>False) wr (wr.alloc (.cells #[.int .i64 0, .int .i64 0] 78)).drew:=((Kz wr).alloc _).drew;have tz:ah (wr.alloc (.cells #[.int .i64 0, .int .i64 0] 78)).drew wr.heap.size [.int .i64 0, .int .i64 0] 78:=(ah.new wr [.int .i64 0, .int .i64 0] 78).drew;have HIA:=Hz (HI.out.same kz);have TF:=Hz (show ¬ F7 wr.heap.size from fun hf=>by have:=(HI.out.V.hF _ hf).1;omega);have TL:=Hz (show ¬ ag (.slice lo j lc) wr.heap.size from fun hf=>by have:=(HI.out.L.own hf).1;omega);have T1:=Hz (show w1.heap.size≤wr.heap.size from HI.out.K.size);have TZ:=Hz tz;have d8:=(kz.cellAt hgf (fun h=>h) _).trans d0;have d9:=(kz.cellAt hgf (fun h=>h) _).trans d1;have hgf8:=Nat.lt_of_lt_of_le hgf kz.size;refine hK _ _ (fun h=>h) (fun _ _=>⟨HIA.out.V.hf.cell 0,HIA.out.T.cell 1,d8,d9⟩) ?_;clear hK K kz tz HI hgf d0 d1 a0 t1 al tl t0;generalize (wr.alloc (.cells #[.int .i64 0, .int .i64 0] 78)).drew=wa at *;generalize wr.heap.size=zb at *;refine aZ rfl rfl (fun K hK=>?_);unfold aM;go_simp;refine (HIH.out (f1,f2) mv7 nv7 F7 _ _ HIA.out.V (HFA.out) (HUN.out j).1 (HUN.out j).2 (HNL.out j)).mono ?_;rintro e w8 ⟨rfl,mv8,nv8,F8,V8,k8,p0,p1,p2⟩;have HI8:=Hz (HIA.out.lE V8 k8 p0 p1 p2);obtain ⟨⟨⟨r1,r2⟩,sr⟩,hr⟩:∃ t,valM W.gr n (f1,f2) (NS W.gr n m s j).2=t:=⟨_,rfl⟩;rw [hr] at HI8 HST ⊢;dsimp only at HI8 HST ⊢;have TF8:=Hz (show ¬ F8 zb from fun hf=>by rcases p2 _ hf with h | h;exact TF.out h;exact absurd h (Nat.not_le.2 TZ.out.lt));have tz8:=k8.ai TZ.out (HIA.out.V.cF TZ.out (by decide) (by decide) (by decide) (by decide));refine hK _ _ (fun _=>⟨HI8.out.V.hf.cell 0,HI8.out.T.cell 1,(k8.cellAt hgf8 (HIA.out.V.c6 (HIA.out.dF _ rfl)) _).trans d8,(k8.cellAt hgf8 (HIA.out.V.c6 (HIA.out.dF _ rfl)) _).trans d9⟩) ?_;clear hK K V8 k8 p0 p1 p2 hr d8 d9 hgf8 TZ TF HIA;refine aE (fun _=>True) trivial ?_;have TZ:=Hz tz8;have z0:=tz8.cell 0;have z1:=tz8.cell 1;have zl:=tz8.lt;have zf:=tz8.free 0;have zf1:=tz8.free 1;simp only [Lz,Ls] at z0 z1;clear tz8;refine aG rfl rfl rfl (fun K hK=>?_);unfold aM;go_simp;refine hK _ _ ?_;clear hK K z0 z1 zl zf zf1;refine aE (fun _=>True) trivial (aA ?_);have kz:aa (·=zb) w8 ((w8.setCell ⟨zb,0,none⟩ (.int .i64 r1)).setCell ⟨zb,1,none⟩ (.int .i64 r2)):=((aa.refl (·=zb) w8).setCell (.inl rfl) _).setCell (.inl rfl) _;have HI2:=Hz (HI8.out.other kz ⟨_,TZ.out⟩ T1.out TF8.out TL.out);have tz:ah ((w8.setCell ⟨zb,0,none⟩ (.int .i64 r1)).setCell ⟨zb,1,none⟩ (.int .i64 r2)) zb [.int .i64 r1, .int .i64 r2] 78:=(TZ.out.aF 0 (.int .i64 r1)).aF 1 (.int .i64 r2);clear HI8 kz TZ TF8 T1 TL;generalize (w8.setCell ⟨zb,0,none⟩ (.int .i64 r1)).setCell ⟨zb,1,none⟩ (.int .i64 r2)=w9 at *;have HL2:=Hz (show Sl w9 78 2 (.slice lo j lc) j (au (NS W.gr n m s j).1) by have:=HI2.out.L;rw [HJL.out] at this;exact this);have z0:=tz.cell 0;have z1:=tz.cell 1;have zl:=tz.lt;simp only [Lz,Ls] at z0 z1;generalize zb=tv at *;clear tz;go_wp2_with (at_builtin;refine bD rfl (.tmp 71) (.tmp 73) 69 rfl 78 vi (.agg #[.int .i64 0, .int .i64 0]) 2 16 Try.underlying69 Vi.out Vz0.out Vz1.out Vz2.out rfl (by decide) _ j (au (NS W.gr n m s j).1) rfl (HL2.out.ae ((Kz w9).alloc _) (fun _ _ h=>h)) ⟨w9.heap.size,0,none⟩ 1 1 [.int .i64 r1, .int .i64 r2] rfl rfl (bq w9 78 #[.int .i64 r1, .int .i64 r2]) (by intro u hu;simp at hu;rcases hu with rfl | rfl <;> rfl) (by have:=HFL.out;unfold maxLen;omega) (by have:=HFL.out;omega) ?_)
      intro v10 w10 hs10 hk10 ho10;have HI10:=Hz (HI2.out.app (v:=(r1,r2)) ((Kz w9).alloc _) (by rw [HJL.out];exact hs10) hk10 (by simpa using ho10));clear hs10 hk10 ho10 HL2 HI2 z0 z1 zl;have hfl:=HFL.out;go_wp2_with fail;go_roundw
      case rel=>exact ⟨j+1,_,_,_,by omega,by go_num,by rw [HST.out];exact HI10.out⟩
      case measure=>simp [intOf];omega
    ·obtain rfl:j=fs.length:=by omega
     clear hlt hj;obtain ⟨wo,wc,ewv,-,-,-⟩:=hI.V.H.hw.rd;have EWV:=Hz ewv;have hwn:W.wait.length≤24:=by have:=hI.V.H.ok.hq;omega
     have HWN:=Hz hwn;have e3:=hI.V.H.cells.2.2.2.1;have el:=hI.V.H.hp.lt;rw [ewv] at e3;have a0:=hI.V.hw.cell 0;have al:=hI.V.hw.lt;simp only [Lz] at a0;have HGW:=Hz (show ∀ p,p<W.wait.length→kd=5→(W.wait.getD p (0,0)).1=(m:Int)→(W.gr m).2[fs.length+cK W.wait m p]? = some (3,(W.wait.getD p (0,0)).2) from fun p hp h5 he=>by
      unfold Wd.gr;dsimp only;rw [HTH.out,List.getElem?_append_right (by dsimp only;omega)];dsimp only;rw [Nat.add_sub_cancel_left,if_pos h5,List.getElem?_map,rT hp he]
      rfl)
     have HKP:=Hz (fun q=>m8 W.gr n (m:Int) s q HLL.out);have HFULL:=Hz (show ∀ p,(p=W.wait.length∨kd≠5)→(kd≠5→p=0)→NS W.gr n m s (fs.length+cK W.wait m p)=fldM (valM W.gr n) (W.gr m).2 (s.1 ++ [(m:Int)],s.2 ++ [((W.gr m).1,[])]) from fun p h1 h2=>by
      unfold NS;rw [List.take_of_length_le];rw [HGL.out];by_cases h5:kd=5
      ·rw [if_pos h5];rcases h1 with rfl | h1
       ·rw [qu];exact Nat.le_refl _
       ·exact absurd h5 h1
      ·rw [if_neg h5];omega)
     clear hI;go_wp2_with fail;clear a0 al e3 el t0 tl t1;go_loopw [10,13] (fun lv i wx=>∃ (p:Nat) (mv' nv':Value) (F':Nat→Prop),p≤W.wait.length∧(kd≠5→p=0)∧i=.int .i64 p∧eJ w1 g h W rv mv nv F xb rb tb [.int .i64 kd, .slice ao fs.length fc, .bool aR, .bool dead] [.int .i64 3, .int .i64 m] [.int .i64 0, .int .i64 0] ao fs (NS W.gr n m s (fs.length+cK W.wait m p)).2 lv (NS W.gr n m s (fs.length+cK W.wait m p)).1 wx mv' nv' F') (fun _ i _=>W.wait.length-(intOf i).toNat)
     case atStart=>
      exact ⟨0,_,_,_,Nat.zero_le _,fun _=>rfl,rfl,by rw [pC,Nat.add_zero];exact HI.out⟩
     case round=>
      clear HI;obtain ⟨p,mv9,nv9,F9,hp,hp5,rfl,hI⟩:=hrel;have HI:=Hz hI;have t0:=hI.T.cell 0;have tl:=hI.T.lt;have e3:=hI.V.H.cells.2.2.2.1;have el:=hI.V.H.hp.lt;rw [EWV.out] at e3;have a0:=hI.V.hw.cell 0;have al:=hI.V.hw.lt;simp only [Lz] at a0 t0;by_cases hlt:p<W.wait.length
      ·by_cases hk5:kd=5
       ·have hkb:(kd == 5)=true:=by simpa using hk5
        have HK5:=Hz hk5;obtain ⟨gw,ow,hwo,hown,hcell⟩:=HI.out.V.H.qx hlt EWV.out;subst hwo;have HCW:=Hz hcell;have HOW:=Hz hown;have HXW:=Hz (show (W.wait.getD p (0,0)).2 ∈ W.all from Wd.di.2 (HI.out.V.H.ok.wv _ (by rw [Ld,Le hlt];exact List.getElem_mem hlt)).2.2);have HGP:=Hz (HGW.out p hlt hk5);have HSTP:=Hz (pD (g:=(m:Int)) hlt);obtain ⟨gwl,d0,d1⟩:=hcell _ HI.out.V.H;have b1:=HI.out.X.cell 1;have bl:=HI.out.X.lt;simp only [Lz,Ls] at b1;clear hI hcell hown hk5 hp5;generalize W.wait.getD p (0,0)=dM at *;obtain ⟨x1,x2⟩:=dM;dsimp only at d0 d1 HXW HGP HSTP;have hwn:=HWN.out;go_wp2_with fail;refine aq (.free 4 (.free 8 (.pure 0 (.free 1 (.free 2 (.pure 3 (.free 5 (.free 6 (.pure 7 (.pure 9 (.free 10 (.fin)))))))))))) [] (fun w'=>w'.cell? ⟨g.wb,0,none⟩=some (.pointer (some ⟨h.p,0,none⟩))∧w'.cell? ⟨h.p,3,none⟩=some (.slice (some ⟨gw,ow,none⟩) W.wait.length wc)∧w'.cell? ⟨gw,ow+p*2,none⟩=some (.int .i64 x1)∧w'.cell? ⟨xb,1,none⟩=some (.int .i64 m)) (by kernel_rfl) (by kernel_rfl) ⟨a0,e3,d0,b1⟩ ?_
        iterate 11 ((first | refine ak rfl rfl fun K hK=>?_ | refine aj rfl rfl fun K hK=>?_ | refine ay rfl rfl fun K hK=>?_ | refine av rfl rfl fun K hK=>?_ | refine ax rfl rfl fun K hK=>?_);go_simp;refine hK _ ?_;clear hK K)
        refine aA ?_;have HI:=Hz (HI.out.same ((Kz wr).drew));clear a0 al e3 el t0 tl b1 bl gwl d0 d1;by_cases he:x1=m
        ·subst he;have hgp:=HGP.out rfl;have hjl0:fs.length+cK W.wait m p<(W.gr m).2.length:=(List.getElem?_eq_some_iff.1 hgp).1;have HFL:=Hz (show fs.length+cK W.wait m p≤40 by have h1:=HFL.out;have h2:=rU (l:=W.wait) (g:=(m:Int)) p;omega);obtain ⟨j,hj⟩:∃ j,fs.length+cK W.wait m p=j:=⟨_,rfl⟩;have HJQ:=Hz hj;rw [hj] at HI HFL hgp hjl0;clear hj;have HST:=Hz (jl W.gr n m s hgp);have hjl:=kg W.gr n m s (j:=j) (by omega);have HJL:=Hz hjl;obtain ⟨lo,lc,rfl,-,-,-⟩:=HI.out.L.rd;rw [hjl] at HI ⊢;clear hgp hjl0 hjl;generalize wr.drew=wr at *;have a0:=HI.out.V.hw.cell 0;have al:=HI.out.V.hw.lt;have e3:=HI.out.V.H.cells.2.2.2.1;have el:=HI.out.V.H.hp.lt;rw [EWV.out] at e3;have c0:=HI.out.V.hf.cell 0;have cl:=HI.out.V.hf.lt;simp only [Lz] at a0 c0;obtain ⟨gwl,-,d1⟩:=HCW.out _ HI.out.V.H;unfold ej.fn at c0;have hwn:=HWN.out;go_wp2_with fail;refine aq (.free 5 (.pure 0 (.pure 1 (.free 2 (.free 3 (.pure 4 (.free 6 (.free 7 (.pure 8 (.free 9 (.two 10 (.run 11 (.run 12 (.swi [] (.fin)))) 11 (.run 10 (.swi [12] (.run 12 (.swi [] (.fin)))))))))))))))) [12] (fun w'=>w'.cell? ⟨g.fb,0,none⟩=some (.func (.func 108) #[] #[.pointer (some ⟨g.mb,0,none⟩), .pointer (some ⟨g.wb,0,none⟩), .pointer (some ⟨g.vb,0,none⟩), .pointer (some ⟨g.fb,0,none⟩)])∧w'.cell? ⟨g.wb,0,none⟩=some (.pointer (some ⟨h.p,0,none⟩))∧w'.cell? ⟨h.p,3,none⟩=some (.slice (some ⟨gw,ow,none⟩) W.wait.length wc)∧w'.cell? ⟨gw,ow+p*2+1,none⟩=some (.int .i64 x2)) (by kernel_rfl) (by kernel_rfl) ⟨c0,a0,e3,d1⟩ ?_
         iterate 10 ((first | refine ak rfl rfl fun K hK=>?_ | refine aj rfl rfl fun K hK=>?_ | refine ay rfl rfl fun K hK=>?_ | refine av rfl rfl fun K hK=>?_ | refine ax rfl rfl fun K hK=>?_);go_simp;refine hK _ ?_;clear hK K)
         refine jH rfl rfl rfl rfl (fun K hK=>?_) (fun K hK=>?_)
         ·unfold aM;go_simp;refine (HIH.out (3,x2) mv9 nv9 F9 _ _ (HI.out.V.same ((Kz wr).drew)) (fun _=>HXW.out) (HUN.out j).1 (HUN.out j).2 (HNL.out j)).mono ?_;rintro e w8 ⟨rfl,mv8,nv8,F8,V8,k8,p0,p1,p2⟩;have HI8:=Hz ((HI.out.same ((Kz wr).drew)).lE V8 k8 p0 p1 p2);obtain ⟨⟨⟨r1,r2⟩,sr⟩,hr⟩:∃ t,valM W.gr n (3,x2) (NS W.gr n m s j).2=t:=⟨_,rfl⟩;rw [hr] at HI8 HST ⊢;dsimp only at HI8 HST ⊢;refine hK _ _ (fun h=>h) (fun _ _=>⟨HI8.out.V.hf.cell 0,HI8.out.V.hw.cell 0,by have:=HI8.out.V.H.cells.2.2.2.1;rw [EWV.out] at this;exact this,(HCW.out _ HI8.out.V.H).2.2⟩) ?_;clear hK K V8 k8 p0 p1 p2 hr a0 al e3 el c0 cl gwl d1 HI;refine aZ rfl rfl (fun K hK=>?_);unfold aM;go_simp;have kz:aa (fun _=>False) w8 (w8.alloc (.cells #[.int .i64 0, .int .i64 0] 78)).drew:=((Kz w8).alloc _).drew;have tz:ah (w8.alloc (.cells #[.int .i64 0, .int .i64 0] 78)).drew w8.heap.size [.int .i64 0, .int .i64 0] 78:=(ah.new w8 [.int .i64 0, .int .i64 0] 78).drew;have HI9:=Hz (HI8.out.same kz);refine hK _ _ (fun _=>⟨HI9.out.V.hf.cell 0,HI9.out.V.hw.cell 0,by have:=HI9.out.V.H.cells.2.2.2.1;rw [EWV.out] at this;exact this,(HCW.out _ HI9.out.V.H).2.2⟩) ?_;clear hK K;have z0:=tz.cell 0;have z1:=tz.cell 1;have zl:=tz.lt;have zf:=tz.free 0;have zf1:=tz.free 1;simp only [Lz,Ls] at z0 z1;clear kz tz;refine aG rfl rfl rfl (fun K hK=>?_);unfold aM;go_simp;refine hK _ _ ?_;clear hK K z0 z1 zl zf zf1 HI9;refine aE (fun _=>True) trivial (aA ?_);have kz:aa (fun _=>False) w8 (w8.alloc (.cells #[.int .i64 r1, .int .i64 r2] 78)):=((Kz w8).alloc _);have tz:ah (w8.alloc (.cells #[.int .i64 r1, .int .i64 r2] 78)) w8.heap.size [.int .i64 r1, .int .i64 r2] 78:=(ah.new w8 [.int .i64 r1, .int .i64 r2] 78);have HI2:=Hz (HI8.out.same kz);clear HI8 kz;generalize w8.alloc (.cells #[.int .i64 r1, .int .i64 r2] 78)=w9 at *;have HL2:=Hz (show Sl w9 78 2 (.slice lo j lc) j (au (NS W.gr n m s j).1) by have:=HI2.out.L;rw [HJL.out] at this;exact this);have z0:=tz.cell 0;have z1:=tz.cell 1;have zl:=tz.lt;simp only [Lz,Ls] at z0 z1;generalize w8.heap.size=tv at *;clear tz;go_wp2_with (at_builtin;refine bD rfl (.tmp 111) (.tmp 113) 69 rfl 78 vi (.agg #[.int .i64 0, .int .i64 0]) 2 16 Try.underlying69 Vi.out Vz0.out Vz1.out Vz2.out rfl (by decide) _ j (au (NS W.gr n m s j).1) rfl (HL2.out.ae ((Kz w9).alloc _) (fun _ _ h=>h)) ⟨w9.heap.size,0,none⟩ 1 1 [.int .i64 r1, .int .i64 r2] rfl rfl (bq w9 78 #[.int .i64 r1, .int .i64 r2]) (by intro u hu;simp at hu;rcases hu with rfl | rfl <;> rfl) (by have:=HFL.out;unfold maxLen;omega) (by have:=HFL.out;omega) ?_);intro v10 w10 hs10 hk10 ho10;have HI10:=Hz (HI2.out.app (v:=(r1,r2)) ((Kz w9).alloc _) (by rw [HJL.out];exact hs10) hk10 (by simpa using ho10));clear hs10 hk10 ho10 HL2 HI2 z0 z1 zl;have hfl:=HFL.out;have hwn:=HWN.out;go_wp2_with fail;go_roundw
          case rel=>exact ⟨p+1,_,_,_,hlt,fun h=>absurd HK5.out h,by go_num,by rw [HSTP.out,if_pos (by trivial),←Nat.add_assoc,HJQ.out,HST.out];exact HI10.out⟩
          case measure=>simp [intOf];omega
         ·unfold aM;go_simp;have kz:aa (fun _=>False) wr (wr.alloc (.cells #[.int .i64 0, .int .i64 0] 78)).drew:=((Kz wr).alloc _).drew;have tz:ah (wr.alloc (.cells #[.int .i64 0, .int .i64 0] 78)).drew wr.heap.size [.int .i64 0, .int .i64 0] 78:=(ah.new wr [.int .i64 0, .int .i64 0] 78).drew;have HIA:=Hz (HI.out.same kz);have TF:=Hz (show ¬ F9 wr.heap.size from fun hf=>by have:=(HI.out.V.hF _ hf).1;omega);have TL:=Hz (show ¬ ag (.slice lo j lc) wr.heap.size from fun hf=>by have:=(HI.out.L.own hf).1;omega);have T1:=Hz (show w1.heap.size≤wr.heap.size from HI.out.K.size);have TZ:=Hz tz;refine hK _ _ (fun h=>h) (fun _ _=>⟨HIA.out.V.hf.cell 0,HIA.out.V.hw.cell 0,by have:=HIA.out.V.H.cells.2.2.2.1;rw [EWV.out] at this;exact this,(HCW.out _ HIA.out.V.H).2.2⟩) ?_;clear hK K kz tz HI a0 al e3 el c0 cl gwl d1;generalize (wr.alloc (.cells #[.int .i64 0, .int .i64 0] 78)).drew=wa at *;generalize wr.heap.size=zb at *;refine aZ rfl rfl (fun K hK=>?_);unfold aM;go_simp;refine (HIH.out (3,x2) mv9 nv9 F9 _ _ HIA.out.V (fun _=>HXW.out) (HUN.out j).1 (HUN.out j).2 (HNL.out j)).mono ?_;rintro e w8 ⟨rfl,mv8,nv8,F8,V8,k8,p0,p1,p2⟩;have HI8:=Hz (HIA.out.lE V8 k8 p0 p1 p2);obtain ⟨⟨⟨r1,r2⟩,sr⟩,hr⟩:∃ t,valM W.gr n (3,x2) (NS W.gr n m s j).2=t:=⟨_,rfl⟩;rw [hr] at HI8 HST ⊢;dsimp only at HI8 HST ⊢;have TF8:=Hz (show ¬ F8 zb from fun hf=>by rcases p2 _ hf with h | h;exact TF.out h;exact absurd h (Nat.not_le.2 TZ.out.lt));have tz8:=k8.ai TZ.out (HIA.out.V.cF TZ.out (by decide) (by decide) (by decide) (by decide));refine hK _ _ (fun _=>⟨HI8.out.V.hf.cell 0,HI8.out.V.hw.cell 0,by have:=HI8.out.V.H.cells.2.2.2.1;rw [EWV.out] at this;exact this,(HCW.out _ HI8.out.V.H).2.2⟩) ?_;clear hK K V8 k8 p0 p1 p2 hr TZ TF HIA;refine aE (fun _=>True) trivial ?_;have TZ:=Hz tz8;have z0:=tz8.cell 0;have z1:=tz8.cell 1;have zl:=tz8.lt;have zf:=tz8.free 0;have zf1:=tz8.free 1;simp only [Lz,Ls] at z0 z1;clear tz8;refine aG rfl rfl rfl (fun K hK=>?_);unfold aM;go_simp;refine hK _ _ ?_;clear hK K z0 z1 zl zf zf1;refine aE (fun _=>True) trivial (aA ?_);have kz:aa (·=zb) w8 ((w8.setCell ⟨zb,0,none⟩ (.int .i64 r1)).setCell ⟨zb,1,none⟩ (.int .i64 r2)):=((aa.refl (·=zb) w8).setCell (.inl rfl) _).setCell (.inl rfl) _;have HI2:=Hz (HI8.out.other kz ⟨_,TZ.out⟩ T1.out TF8.out TL.out);have tz:ah ((w8.setCell ⟨zb,0,none⟩ (.int .i64 r1)).setCell ⟨zb,1,none⟩ (.int .i64 r2)) zb [.int .i64 r1, .int .i64 r2] 78:=(TZ.out.aF 0 (.int .i64 r1)).aF 1 (.int .i64 r2);clear HI8 kz TZ TF8 T1 TL;generalize (w8.setCell ⟨zb,0,none⟩ (.int .i64 r1)).setCell ⟨zb,1,none⟩ (.int .i64 r2)=w9 at *;have HL2:=Hz (show Sl w9 78 2 (.slice lo j lc) j (au (NS W.gr n m s j).1) by have:=HI2.out.L;rw [HJL.out] at this;exact this);have z0:=tz.cell 0;have z1:=tz.cell 1;have zl:=tz.lt;simp only [Lz,Ls] at z0 z1;generalize zb=tv at *;clear tz;go_wp2_with (at_builtin;refine bD rfl (.tmp 111) (.tmp 113) 69 rfl 78 vi (.agg #[.int .i64 0, .int .i64 0]) 2 16 Try.underlying69 Vi.out Vz0.out Vz1.out Vz2.out rfl (by decide) _ j (au (NS W.gr n m s j).1) rfl (HL2.out.ae ((Kz w9).alloc _) (fun _ _ h=>h)) ⟨w9.heap.size,0,none⟩ 1 1 [.int .i64 r1, .int .i64 r2] rfl rfl (bq w9 78 #[.int .i64 r1, .int .i64 r2]) (by intro u hu;simp at hu;rcases hu with rfl | rfl <;> rfl) (by have:=HFL.out;unfold maxLen;omega) (by have:=HFL.out;omega) ?_)
          intro v10 w10 hs10 hk10 ho10;have HI10:=Hz (HI2.out.app (v:=(r1,r2)) ((Kz w9).alloc _) (by rw [HJL.out];exact hs10) hk10 (by simpa using ho10));clear hs10 hk10 ho10 HL2 HI2 z0 z1 zl;have hfl:=HFL.out;have hwn:=HWN.out;go_wp2_with fail;go_roundw
          case rel=>exact ⟨p+1,_,_,_,hlt,fun h=>absurd HK5.out h,by go_num,by rw [HSTP.out,if_pos (by trivial),←Nat.add_assoc,HJQ.out,HST.out];exact HI10.out⟩
          case measure=>simp [intOf];omega
        ·have hd:(x1 == (m:Int))=false:=by simpa using he
         have HSTP:=Hz (show cK W.wait m (p+1)=cK W.wait m p by rw [HSTP.out,if_neg he];rfl);clear he;go_wp2_with fail;go_roundw
         case rel=>exact ⟨p+1,_,_,_,hlt,fun h=>absurd HK5.out h,by go_num,by rw [HSTP.out];exact HI.out⟩
         case measure=>simp [intOf];omega
       ·have hkb:(kd == 5)=false:=by simpa using hk5
        obtain rfl:p=0:=hp5 hk5;have HEN:=Hz (HFULL.out 0 (.inr hk5) hp5);have HI9:=Hz hI;obtain ⟨cs9,hs9,hr9⟩:=hI.V.N;have hkp:=HKP.out (fs.length+cK W.wait m 0);have hlt9:s.1.length<(NS W.gr n m s (fs.length+cK W.wait m 0)).2.2.length:=(List.getElem?_eq_some_iff.1 hkp).1;have HKP9:=Hz hkp;obtain ⟨g9,o9,cap9,cur,rfl,hb9,h91,h92,h93,h94⟩:=hs9.laid (by omega);have c1:=hI.V.hv.cell 1;have cl:=hI.V.hv.lt;have g1:=hb9.cell (o9+s.1.length*2+1);have gl:=hb9.lt;have gf9:=hb9.free (o9+s.1.length*2+1);obtain ⟨u9,hu9⟩:∃ u,cur[o9+s.1.length*2+1]? = some u:=⟨_,Le (by omega)⟩;simp only [Lz,Ls] at c1;rw [hu9] at g1;obtain ⟨lo9,lc9,rfl,-,-,-⟩:=hI.L.rd;have hs9m:(NS W.gr n m s (fs.length+cK W.wait m 0)).2.2.length≤cap9:=h91;clear hI hr9 hs9 hb9 h92 h93 h94 h91 hu9 hkp;go_upto_region 25 with (fail)
        obtain ⟨hd1,rd9⟩:=HI9.out.done (kd:=kd) (n:=s.1.length) rfl rfl (by have hkp:=HKP9.out;rw [HGR1.out] at hkp;exact hkp);have HD9:=Hz hd1;have RD9:=Hz rd9;clear c1 cl g1 gl gf9 HI9 hd1 rd9;generalize wr.setCell ⟨g9,o9+s.1.length*2+1,none⟩ _=w9 at *;have r0:=RD9.out.cell 0;have r1:=RD9.out.cell 1;have rl:=RD9.out.lt;have f0:=RD9.out.free 0;have f1:=RD9.out.free 1;simp only [Lz,Ls] at r0 r1;go_wp2_with fail;have hb3:=(RD9.out.aF 0 (.int .i64 3)).aF 1 (.int .i64 s.1.length);have x0':=hb3.cell 0;have x1':=hb3.cell 1;simp only [List.set_cons_zero,List.set_cons_succ,Lz,Ls] at x0' x1';refine bodyPost_ret (v:=.agg #[.int .i64 3, .int .i64 s.1.length]) (by simp [results,Try.results108,go_sem,x0',x1']) rfl ?_;unfold gO;rw [HNEW.out];dsimp only;refine ⟨rfl,?_⟩;have set:=((aa.refl (·=rb) w9).setCell (p:=⟨rb,0,none⟩) (.inl rfl) (.int .i64 3)).setCell (p:=⟨rb,1,none⟩) (.inl rfl) (.int .i64 s.1.length);rw [←HEN.out,HGR1.out];exact eC.done K1.out HD9.out HRB.out RB.out.lt RNF.out RNO.out ⟨_,RD9.out⟩ set
      ·obtain rfl:p=W.wait.length:=by omega
       have HEN:=Hz (HFULL.out W.wait.length (.inl rfl) hp5);have HI9:=Hz hI;obtain ⟨cs9,hs9,hr9⟩:=hI.V.N;have hkp:=HKP.out (fs.length+cK W.wait m W.wait.length);have hlt9:s.1.length<(NS W.gr n m s (fs.length+cK W.wait m W.wait.length)).2.2.length:=(List.getElem?_eq_some_iff.1 hkp).1;have HKP9:=Hz hkp;obtain ⟨g9,o9,cap9,cur,rfl,hb9,h91,h92,h93,h94⟩:=hs9.laid (by omega);have c1:=hI.V.hv.cell 1;have cl:=hI.V.hv.lt;have g1:=hb9.cell (o9+s.1.length*2+1);have gl:=hb9.lt;have gf9:=hb9.free (o9+s.1.length*2+1);obtain ⟨u9,hu9⟩:∃ u,cur[o9+s.1.length*2+1]? = some u:=⟨_,Le (by omega)⟩;simp only [Lz,Ls] at c1;rw [hu9] at g1;obtain ⟨lo9,lc9,rfl,-,-,-⟩:=hI.L.rd;have hs9m:(NS W.gr n m s (fs.length+cK W.wait m W.wait.length)).2.2.length≤cap9:=h91;clear hI hr9 hs9 hb9 h92 h93 h94 h91 hu9 hkp;go_upto_region 25 with (fail)
       obtain ⟨hd1,rd9⟩:=HI9.out.done (kd:=kd) (n:=s.1.length) rfl rfl (by have hkp:=HKP9.out;rw [HGR1.out] at hkp;exact hkp);have HD9:=Hz hd1;have RD9:=Hz rd9;clear c1 cl g1 gl gf9 HI9 hd1 rd9;generalize wr.setCell ⟨g9,o9+s.1.length*2+1,none⟩ _=w9 at *;have r0:=RD9.out.cell 0;have r1:=RD9.out.cell 1;have rl:=RD9.out.lt;have f0:=RD9.out.free 0;have f1:=RD9.out.free 1;simp only [Lz,Ls] at r0 r1;go_wp2_with fail;have hb3:=(RD9.out.aF 0 (.int .i64 3)).aF 1 (.int .i64 s.1.length);have x0':=hb3.cell 0;have x1':=hb3.cell 1;simp only [List.set_cons_zero,List.set_cons_succ,Lz,Ls] at x0' x1';refine bodyPost_ret (v:=.agg #[.int .i64 3, .int .i64 s.1.length]) (by simp [results,Try.results108,go_sem,x0',x1']) rfl ?_;unfold gO;rw [HNEW.out];dsimp only;refine ⟨rfl,?_⟩;have set:=((aa.refl (·=rb) w9).setCell (p:=⟨rb,0,none⟩) (.inl rfl) (.int .i64 3)).setCell (p:=⟨rb,1,none⟩) (.inl rfl) (.int .i64 s.1.length);rw [←HEN.out,HGR1.out];exact eC.done K1.out HD9.out HRB.out RB.out.lt RNF.out RNO.out ⟨_,RD9.out⟩ set
end
end
section
open Go.RowKit
section
variable {w w':World} {h:bZ} {W:Wd} {q b:Nat} {rv nv:Value} {F:Nat→Prop} {s:VS}
def mG (h:bZ) (W:Wd) (q b:Nat) (rv:Value) (n:Nat):Prop:=∀ (v:Vl) (nv:Value) (F:Nat→Prop) (s:VS) (w:World),bX w q h W b rv nv F s→(v.1=3→W.live v.2)→cC W.all s.1≤n→s.1.length+cC W.all s.1≤5000 →
 Calls Try.prog 107 #[.pointer (some ⟨q,0,none⟩), .agg #[.int .i64 v.1, .int .i64 v.2]] w fun e w'=>kN w q h W b rv nv F (valM W.gr n v s) e w'
theorem pF {x:Int} {j:Nat} (hj:j<(W.th x).fs.length):(W.gr x).2[j]? = some ((W.th x).fs.getD j (0,0)):=by
 show ((W.th x).fs ++ _)[j]? = _
 rw [List.getElem?_append_left hj,Ld,Le hj];rfl
theorem qy {x:Int} {j:Nat} (hk:(W.th x).k=5) (h0:(W.th x).fs.length=0) (hj:j<(bN W.wait x).length):(W.gr x).2[j]? = some (3,(bN W.wait x).getD j 0):=by
 show ((W.th x).fs ++ (if (W.th x).k=5 then (bN W.wait x).map fun y=>((3,y):Vl) else []))[j]? = _
 rw [if_pos hk,List.length_eq_zero_iff.1 h0,List.nil_append,List.getElem?_map,Le hj,Ld,Le hj];rfl
theorem rW {x:Int}:(W.gr x).2.length=(W.th x).fs.length+if (W.th x).k=5 then (bN W.wait x).length else 0:=by
 show ((W.th x).fs ++ (if (W.th x).k=5 then (bN W.wait x).map fun y=>((3,y):Vl) else [])).length=_
 rw [List.length_append];split <;> simp
theorem rX (n:Nat) (ih:mG h W q b rv n) (x:Nat) (nv:Value) (F:Nat→Prop) (s:VS) (w:World) (V:bX w q h W b rv nv F s) (hlv:W.live (x:Int)) (hm:¬ (x:Int) ∈ s.1) (hT:W.T.length≤100000)
  (hu:cC W.all s.1≤n+1) (hc:s.1.length+cC W.all s.1≤5000) :
  Calls Try.prog 144 #[.pointer (some ⟨q,0,none⟩), .int .i64 x] w fun e w'=>e=.returned (.tuple #[])∧iD w q h W b rv nv F (valM W.gr (n+1) (3,(x:Int)) s).2 w':=by
 have HV:=Hz V;have HLV:=Hz hlv;have HOK:=Hz V.hw.ok;have hx:=Wd.di.2 hlv;have HNEW:=Hz (dt W.gr n (v:=(3,(x:Int))) rfl hm);have HM:=Hz hm;have HX:=Hz hx;have hp:=fe hx hm;have HU:=Hz (show cC W.all (s.1 ++ [(x:Int)])≤n by omega);have HC:=Hz (show (s.1 ++ [(x:Int)]).length+cC W.all (s.1 ++ [(x:Int)])≤5000 by rw [List.length_append];simp;omega);have hl5:s.1.length≤5000:=by omega
 obtain ⟨ni,hi,hz0,hz1,hz2⟩:=bB kU;have Ni:=Hz hi;have Nz0:=Hz hz0;have Nz1:=Hz hz1;have Nz2:=Hz hz2;clear hi hz0 hz1 hz2;obtain ⟨vi,hi,hz0,hz1,hz2⟩:=bB du;have Vi:=Hz hi;have Vz0:=Hz hz0;have Vz1:=Hz hz1;have Vz2:=Hz hz2;clear hi hz0 hz1 hz2;obtain ⟨cs,hsl,hcs⟩:=V.hn;obtain ⟨no,nc,rfl,-,hnm,-⟩:=hsl.rd;have HSL:=Hz hsl;have HCS:=Hz hcs;have HLL:=Hz V.hl;have hs5:s.2.length≤5000:=by rw [V.hl];exact hl5
 have hxl:x<W.T.length:=by have:=hlv.2.1;omega
 have hxi:(x:Int)<W.T.length:=hlv.2.1;have hx0:=V.seen hxl;rw [if_neg hm] at hx0;have hbf:=V.hm.free x;have hbl:=V.hm.lt;obtain ⟨c0,c1,-,c3,cl⟩:=V.cells;obtain ⟨gt,ot,ntc,fo,fc,etl,hgt,t0,t1,efv,hfs⟩:=V.hw.rowAt hlv;rw [Int.toNat_natCast] at t0 t1 efv;obtain ⟨p0,-⟩:=V.hw.cells;rw [etl] at p0;have pl:=V.hw.hp.lt;have hwr:IntKind.i64.wrap ((s.2.length:Int)+1)=(s.2.length:Int)+1:=IntWalk.i64_in _ (by omega);have HTV:=Hz etl;clear hm hp hu hc hsl hcs hnm hfs efv etl V hx hlv;go_enter Try.func144,Try.ntmps144;go_upto_region 2 with fail
 have hset:=HV.out.hm.aF x (.int .i64 ((s.2.length:Int)+1));rw [HV.out.hl,oe hxl HM.out,←HV.out.hl] at hset;have KM:=Hz ((aa.refl (·=b) w).setCell (p:=⟨b,x,none⟩) (.inl rfl) (.int .i64 ((s.2.length:Int)+1)));have HSEE:=Hz (show eI _ b W.T.length (s.1 ++ [(x:Int)]) from hset);have Wm:=Hz (HV.out.hw.ae KM.out (fun j hj e=>HV.out.fR hj (.inr (.inl e))));have HQM:=Hz (KM.out.ai HV.out.hq (fun e=>HV.out.hq.ne HV.out.hm (by decide) e));clear hset hx0 hbf hbl c0 c1 c3 cl t0 t1 p0 pl hgt hwr;generalize w.setCell ⟨b,x,none⟩ (.int .i64 ((s.2.length:Int)+1))=wm at *;have c0:=HQM.out.cell 0;have c3:=HQM.out.cell 3;have cl:=HQM.out.lt;simp only [Lz,Ls] at c0 c3;obtain ⟨gt',ot',ntc',fo,fc,etl,hgt,t0,t1,efv,hfs⟩:=Wm.out.rowAt HLV.out;rw [HTV.out] at etl;cases etl;rw [Int.toNat_natCast] at t0 t1 efv;obtain ⟨p0,-⟩:=Wm.out.cells;rw [HTV.out] at p0;have pl:=Wm.out.hp.lt;have HFS:=Hz hfs;have HEF:=Hz efv;have hfl:=(bs (HOK.out.tk _ HLV.out)).2.2.2;have HFT:=Hz (HOK.out.tk _ HLV.out);have HFV:=Hz (fun j (hj:j<(W.th (x:Int)).fs.length)=>pF (W:=W) (x:=(x:Int)) hj);have HLEN:=Hz (rW (W:=W) (x:=(x:Int)));have HWT:=Hz (fun j hk h0 hj=>qy (W:=W) (x:=(x:Int)) (j:=j) hk h0 hj);have HTVV:=Hz (HOK.out.tv _ HLV.out);clear efv hfs;go_upto_region 3 with fail
 obtain ⟨kd,hkd⟩:∃ k,(W.th (x:Int)).k=k:=⟨_,rfl⟩;have HKT:=Hz hkd;rw [hkd] at t0;clear hkd;refine aq (.free 0 (.free 1 (.free 2 (.free 3 (.free 4 (.free 6 (.free 7 (.free 8 (.pure 5 (.pure 9 (.free 10 (.run 11 (.run 12 (.swi [16] (.free 13 (.free 14 (.free 15 (.run 16 (.swi [] (.fin)))))))))))))))))))) [12,13,14,15,16] (fun w'=>w'.cell? ⟨q,3,none⟩=some (.slice no s.2.length nc)∧w'.cell? ⟨gt,ot+x*4,none⟩=some (.int .i64 kd)) (by kernel_rfl) (by kernel_rfl) ⟨c3,t0⟩ ?_
 iterate 11 ((first | refine ak rfl rfl fun K hK=>?_ | refine aj rfl rfl fun K hK=>?_ | refine ay rfl rfl fun K hK=>?_ | refine av rfl rfl fun K hK=>?_ | refine ax rfl rfl fun K hK=>?_);go_simp;refine hK _ ?_;clear hK K)
 refine aZ rfl rfl (fun K hK=>?_);unfold aM;go_simp;have hka:aa (fun _=>False) wm ((wm.alloc (.cells #[.int .i64 kd, .slice none 0 0] 83)).drew):=((Kz wm).alloc (.cells #[.int .i64 kd, .slice none 0 0] 83)).drew;refine hK _ _ (fun _=>⟨(World.cell?_of_block (w:=wm) (a:=⟨q,3,none⟩) (hka.block _ cl (fun h=>h))).trans c3,(World.cell?_of_block (w:=wm) (a:=⟨gt,ot+x*4,none⟩) (hka.block _ hgt (fun h=>h))).trans t0⟩) ?_;clear hK K;refine aG rfl rfl rfl (fun K hK=>?_);refine cy (.tmp 39) (.tmp 45) 70 rfl 83 ni (.agg #[.int .i64 0, .slice none 0 0]) 2 32 Try.underlying70 Ni.out Nz0.out Nz1.out Nz2.out rfl (by decide) _ s.2.length cs rfl ((HSL.out.ae KM.out (fun j hj e=>by subst e;obtain ⟨_,c,hc⟩:=HSL.out.own hj;exact HV.out.hm.ne hc (by decide) rfl)).ae hka (fun _ _ h=>h)) ⟨wm.heap.size,0,none⟩ 1 1 [.int .i64 kd, .slice none 0 0] rfl rfl (bq wm 83 #[.int .i64 kd, .slice none 0 0]) (by intro u hu;simp at hu;rcases hu with rfl | rfl <;> rfl) (by unfold maxLen;omega) (by omega) ?_;intro v2 w2 hs2 hk2 ho2;refine hK _ _ ?_;clear hK K;have HT2:=Hz (HV.out.push (x:=(x:Int)) (kd:=kd) HSEE.out KM.out hka cs HCS.out hs2 hk2 ho2);have nq:¬ ag (.slice no s.2.length nc) q:=fun hq=>by obtain ⟨_,c,hc⟩:=HSL.out.own hq;exact HV.out.hq.ne hc (by decide) rfl
 have hq2:=hk2.ai (hka.ai HQM.out (fun h=>h)) nq;have x3:=hq2.cell 3;have xl:=hq2.lt;have xf:=hq2.free 3;simp only [Lz,Ls] at x3;obtain ⟨vo2,vc2,rfl,-,-,-⟩:=hs2.rd;clear hs2 hk2 ho2 hka nq hq2 c3 c0 cl t0 t1 p0 pl hgt;refine aE (fun _=>True) trivial ?_
 iterate 3 ((first | refine ak rfl rfl fun K hK=>?_ | refine aj rfl rfl fun K hK=>?_);go_simp;refine hK _ ?_;clear hK K)
 refine aG rfl rfl rfl (fun K hK=>?_);unfold aM;go_simp;refine hK _ _ ?_;clear hK K;refine aE (fun _=>True) trivial (aA ?_);clear x3 xl xf;have HI:=Hz (show ∃ nv1 F1,bY w q h W b rv (.slice no s.2.length nc) F (s.1 ++ [(x:Int)],s.2 ++ [(kd,[])]) (.slice none 0 0) [] (w2.setCell ⟨q,3,none⟩ (.slice vo2 (s.2.length+1) vc2)) nv1 F1 by
  obtain ⟨nv1,F1,V1,k1,p1,p2⟩:=HT2.out
  exact ⟨nv1,F1,V1,k1,p1,p2,Sl.nil _ _ _,fun k hk=>(bJ hk).elim,fun k hk=>HV.out.hw.cR hk⟩)
 clear HT2;generalize w2.setCell ⟨q,3,none⟩ (.slice vo2 (s.2.length+1) vc2)=w3 at *;have hkd:(W.gr (x:Int)).1=kd:=HKT.out;have HKP:=Hz (fun j=>m8 W.gr n (x:Int) s j HLL.out);have HUN:=Hz (fun j=>pE (Wd.q3 HOK.out) (n:=n) (s:=s) HX.out j HU.out HC.out);have HI0:=Hz (show ∃ nv1 F1,bY w q h W b rv (.slice no s.2.length nc) F (NS W.gr n (x:Int) s 0).2 (.slice none 0 0) (NS W.gr n (x:Int) s 0).1 w3 nv1 F1 by rw [m7,hkd];exact HI.out);have HKD:=Hz hkd;clear HI hkd;have ih':=Hz ih;obtain ⟨f,hff⟩:∃ f,(W.th (x:Int)).fs.length=f:=⟨_,rfl⟩;have HFF:=Hz hff;rw [hff] at HFV HLEN HEF hfl;rw [HKT.out] at HLEN;have ROW:=Hz (fun (wx:World) (G:aJ wx h W)=>(show gt<wx.heap.size∧wx.cell? ⟨gt,ot+x*4,none⟩=some (.int .i64 kd)∧wx.cell? ⟨gt,ot+x*4+1,none⟩=some (.slice fo f fc)∧Sl wx 78 2 (.slice fo f fc) f (au (W.th (x:Int)).fs) from by
  obtain ⟨gt',ot',ntc',fo',fc',etl,hgt,t0,t1,efv,hfs⟩:=G.rowAt HLV.out;rw [HTV.out] at etl;cases etl;rw [Int.toNat_natCast] at t0 t1 efv;rw [HEF.out,hff] at efv;cases efv;rw [hff] at t1 hfs;rw [HKT.out] at t0
  exact ⟨hgt,t0,t1,hfs⟩))
 clear hff HFS;obtain ⟨hgt,t0,t1,-⟩:=ROW.out w3 HI0.out.choose_spec.choose_spec.V.hw;go_wp2_with fail;clear hgt t0 t1;go_loopw [6,55] (fun lv i wr=>∃ (j:Nat) (nv1:Value) (F1:Nat→Prop),j≤f∧i=.int .i64 j∧bY w q h W b rv (.slice no s.2.length nc) F (NS W.gr n (x:Int) s j).2 lv (NS W.gr n (x:Int) s j).1 wr nv1 F1) (fun _ i _=>f-(intOf i).toNat)
 case atStart=>
  obtain ⟨nv1,F1,hI⟩:=HI0.out;exact ⟨0,nv1,F1,Nat.zero_le _,rfl,hI⟩
 case round=>
  clear HI0;obtain ⟨j,nv1,F1,hj,rfl,hI⟩:=hrel;have HI:=Hz hI;by_cases hlt:j<f
  ·have HST:=Hz (jl W.gr n (x:Int) s (HFV.out j hlt));have hjl:=kg W.gr n (x:Int) s (j:=j) (by rw [HLEN.out];omega);have HJL:=Hz hjl;obtain ⟨hgt,-,-,hfs⟩:=ROW.out wr hI.V.hw;obtain ⟨_,_,e',hrd,-,-⟩:=hfs.rd;cases e';obtain ⟨gf,of,rfl,hgf,u0,u1⟩:=hrd.dM j (by rw [HFF.out];exact hlt);obtain ⟨lo,lc,rfl,-,-,-⟩:=hI.L.rd;rw [hjl] at HI ⊢;have hin:(W.th (x:Int)).fs.getD j (0,0) ∈ (W.th (x:Int)).fs:=by rw [Ld,Le (by rw [HFF.out];exact hlt)];exact List.getElem_mem _
   have HVL:=Hz (fun h3=>Wd.bg (HTVV.out _ hin) h3);clear hI hjl hfs hrd hin;generalize (W.th (x:Int)).fs.getD j (0,0)=v at *;have hji:(j:Int)<f:=by omega
   go_upto_region 8 with (refine aQ rfl 78 (.tmp 57) rfl (by kernel_rfl) gf (of+j*2) rfl _ _ u0 u1 ?_);have ka:=(Kz wr).alloc (.cells #[.int .i64 v.1, .int .i64 v.2] 78);have BV:=Hz (show ah (wr.alloc (.cells #[.int .i64 v.1, .int .i64 v.2] 78)) wr.heap.size _ 78 from ah.newAt _ rfl rfl);have HI1:=Hz (HI.out.same ka);clear ka u0 u1 hgf hgt HI;generalize wr.alloc (.cells #[.int .i64 v.1, .int .i64 v.2] 78)=wv at *;generalize wr.heap.size=vb at *;have c0:=BV.out.cell 0;have c1:=BV.out.cell 1;have cl:=BV.out.lt;simp only [Lz,Ls] at c0 c1;go_wp2_with (refine aQ rfl 78 (.tmp 8) rfl (by kernel_rfl) vb 0 rfl _ _ c0 c1 ?_);refine (ih'.out v nv1 F1 _ _ HI1.out.V HVL.out (HUN.out j).1 (HUN.out j).2).mono ?_;rintro e w4 ⟨rfl,ht⟩;obtain ⟨nv2,F2,hI2⟩:=HI1.out.told ht;obtain ⟨⟨⟨r1,r2⟩,sr⟩,hr⟩:∃ t,valM W.gr n v (NS W.gr n (x:Int) s j).2=t:=⟨_,rfl⟩;rw [hr] at hI2 HST ⊢;dsimp only at hI2 HST ⊢;have HI2:=Hz hI2;have HL2:=Hz (show Sl w4 78 2 (.slice lo j lc) j (au (NS W.gr n (x:Int) s j).1) by have:=hI2.L;rw [HJL.out] at this;exact this);clear hI2 ht c0 c1 cl hr HI1 BV;go_wp2_with (at_builtin;refine bD rfl (.tmp 59) (.tmp 63) 69 rfl 78 vi (.agg #[.int .i64 0, .int .i64 0]) 2 16 Try.underlying69 Vi.out Vz0.out Vz1.out Vz2.out rfl (by decide) _ j (au (NS W.gr n (x:Int) s j).1) rfl (HL2.out.ae ((Kz w4).alloc _) (fun _ _ h=>h)) ⟨(w4).heap.size,0,none⟩ 1 1 [.int .i64 r1, .int .i64 r2] rfl rfl (bq w4 78 #[.int .i64 r1, .int .i64 r2]) (by intro u hu;simp at hu;rcases hu with rfl | rfl <;> rfl) (by unfold maxLen;omega) (by omega) ?_);intro v6 w6 hs6 hk6 ho6;have HI5:=Hz (HI2.out.app (v:=(r1,r2)) ((Kz w4).alloc _) (by rw [HJL.out];exact hs6) hk6 (by simpa using ho6));clear hs6 hk6 ho6;go_wp2_with fail;go_roundw
   case rel=>exact ⟨j+1,nv2,F2,by omega,by go_num,by rw [HST.out];exact HI5.out⟩
   case measure=>simp [intOf];omega
  ·obtain rfl:j=f:=by omega
   clear hlt hj;obtain ⟨hgt,t0,t1,-⟩:=ROW.out wr hI.V.hw;by_cases hk5:kd=5
   ·subst hk5;have hj0:j=0:=by
     have:=HFT.out;rw [HKT.out,HFF.out] at this;simp [aW] at this;omega
    subst hj0;rw [if_pos rfl] at HLEN;have HGW:=Hz (fun (j:Nat) (hj:j<(bN W.wait (x:Int)).length)=>HWT.out j HKT.out HFF.out hj);have hwl:(bN W.wait (x:Int)).length≤24:=by have h1:=oF (x:Int) W.wait;have h2:=HOK.out.hq;unfold bN;unfold fU at h1;omega
    have hwl2:W.wait.length≤1000000:=by have h2:=HOK.out.hq;omega
    have c0:=hI.V.hq.cell 0;have cl:=hI.V.hq.lt;have pl:=hI.V.hw.hp.lt;simp only [Lz,Ls] at c0;have HAT:=Hz (sL h.p h.gv h.wv W.regs W.wait (x:Int) wr hI.V.hw.side hwl2);clear hI;go_wp2_with fail;refine HAT.out.mono ?_;rintro e w4 ⟨ao,ac,rfl,hs4,hk4,ho4⟩;have hI4:=HI.out.same hk4;have HI4:=Hz hI4;have HS4:=Hz hs4;have HO4:Hid (∀ k,ag (.slice ao (fU (x:Int) W.wait).length ac) k→wr.heap.size≤k):=fun k hk=>ho4 k hk;clear hs4 hk4 ho4 hI4 c0 cl pl HAT hgt t0 t1;have hLW:fU (x:Int) W.wait=bN W.wait (x:Int):=rfl;rw [hLW] at HS4 HO4 ⊢;have HRU:=Hz (show ∀ y ∈ bN W.wait (x:Int),W.live y from fun y hy=>by
     unfold bN at hy;obtain ⟨e,he,rfl⟩:=List.mem_map.1 hy
     exact (HOK.out.wv e (List.mem_filter.1 he).1).2.2)
    clear hLW;generalize bN W.wait (x:Int)=L at *;simp only [Nat.zero_add] at HLEN;go_wp2_with fail;go_loopw [6,80] (fun lv i wx=>∃ (j:Nat) (nv1:Value) (F1:Nat→Prop),j≤L.length∧i=.int .i64 j∧bY w q h W b rv (.slice no s.2.length nc) F (NS W.gr n (x:Int) s j).2 lv (NS W.gr n (x:Int) s j).1 wx nv1 F1∧Sl wx 2 1 (.slice ao L.length ac) L.length (L.map (Value.int .i64))) (fun _ i _=>L.length-(intOf i).toNat)
    case atStart=>
     exact ⟨0,nv1,F1,Nat.zero_le _,rfl,HI4.out,HS4.out⟩
    case round=>
     clear HI HI4 HS4 HO4;rename_i nv0 F0 _ _ _;obtain ⟨j,nv1,F1,hj,rfl,hI,hsr⟩:=hrel;have HI:=Hz hI;have HSR:=Hz hsr;obtain ⟨_,_,e',hrd,-,-⟩:=hsr.rd;cases e';clear hsr;by_cases hlt:j<L.length
     ·have HST:=Hz (jl W.gr n (x:Int) s (HGW.out j hlt));have hjl:=kg W.gr n (x:Int) s (j:=j) (by rw [HLEN.out];omega);have HJL:=Hz hjl;obtain ⟨lo,lc,rfl,-,-,-⟩:=hI.L.rd;rw [hjl] at HI ⊢;obtain ⟨gg,go,rfl,ggl,g0⟩:=hrd.int64 j hlt;have HLU:=Hz (HRU.out (L.getD j 0) (by rw [Ld,Le hlt];exact List.getElem_mem hlt));clear hI hjl hrd;generalize L.getD j 0=y at *;go_wp2_with fail;refine (ih'.out (3,y) nv1 F1 _ _ HI.out.V (fun _=>HLU.out) (HUN.out j).1 (HUN.out j).2).mono ?_;rintro e w5 ⟨rfl,ht⟩;have HSR5:=Hz (HSR.out.ae ht.choose_spec.choose_spec.2.1 (fun k hk=>by obtain ⟨_,c,hc⟩:=HSR.out.own hk;exact HI.out.V.cF hc (by decide) (by decide) (by decide)));obtain ⟨nv2,F2,hI2⟩:=HI.out.told ht;obtain ⟨⟨⟨r1,r2⟩,sr⟩,hr⟩:∃ t,valM W.gr n (3,y) (NS W.gr n (x:Int) s j).2=t:=⟨_,rfl⟩;rw [hr] at hI2 HST ⊢;dsimp only at hI2 HST ⊢;have HI2:=Hz hI2;have HL2:=Hz (show Sl w5 78 2 (.slice lo j lc) j (au (NS W.gr n (x:Int) s j).1) by have:=hI2.L;rw [HJL.out] at this;exact this);clear hI2 ht g0 ggl hr;go_wp2_with (at_builtin;refine bD rfl (.tmp 84) (.tmp 89) 69 rfl 78 vi (.agg #[.int .i64 0, .int .i64 0]) 2 16 Try.underlying69 Vi.out Vz0.out Vz1.out Vz2.out rfl (by decide) _ j (au (NS W.gr n (x:Int) s j).1) rfl (HL2.out.ae ((Kz w5).alloc _) (fun _ _ h=>h)) ⟨(w5).heap.size,0,none⟩ 1 1 [.int .i64 r1, .int .i64 r2] rfl rfl (bq w5 78 #[.int .i64 r1, .int .i64 r2]) (by intro u hu;simp at hu;rcases hu with rfl | rfl <;> rfl) (by unfold maxLen;omega) (by omega) ?_);intro v6 w6 hs6 hk6 ho6;have HI5:=Hz (HI2.out.app (v:=(r1,r2)) ((Kz w5).alloc _) (by rw [HJL.out];exact hs6) hk6 (by simpa using ho6));have hka6:=(Kz w5).alloc (.cells #[.int .i64 r1, .int .i64 r2] 78);have HSR6:=Hz ((HSR5.out.ae hka6 (fun _ _ h=>h)).ae hk6 (fun k hk hk2=>by
       obtain ⟨_,c,hc⟩:=(HSR5.out.ae hka6 (fun _ _ h=>h)).own hk;obtain ⟨_,c',hc'⟩:=(HL2.out.ae hka6 (fun _ _ h=>h)).own hk2
       exact hc.ne hc' (by decide) rfl))
      clear hs6 hk6 ho6 hka6;go_wp2_with fail;go_roundw
      case rel=>exact ⟨j+1,nv2,F2,by omega,by go_num,by rw [HST.out];exact HI5.out,HSR6.out⟩
      case measure=>simp [intOf];omega
     ·obtain rfl:j=L.length:=by omega
      clear hlt hj;have HI9:=Hz hI;obtain ⟨cs9,hs9,hr9⟩:=hI.V.hn;have hlt9:s.1.length<(NS W.gr n (x:Int) s L.length).2.2.length:=(List.getElem?_eq_some_iff.1 (HKP.out L.length)).1;obtain ⟨g,o,cap9,cur,rfl,hb9,h91,h92,h93,h94⟩:=hs9.laid (by omega);have c3:=hI.V.hq.cell 3;have cl:=hI.V.hq.lt;have g1:=hb9.cell (o+s.2.length*2+1);have gl:=hb9.lt;have gf:=hb9.free (o+s.2.length*2+1);have hs9l:s.2.length<(NS W.gr n (x:Int) s L.length).2.2.length:=by rw [HLL.out];exact hlt9
      have hs9i:(s.2.length:Int)<((NS W.gr n (x:Int) s L.length).2.2.length:Int):=by omega
      obtain ⟨u9,hu9⟩:∃ u,cur[o+s.2.length*2+1]? = some u:=⟨_,Le (by omega)⟩;simp only [Lz,Ls] at c3;rw [hu9] at g1;obtain ⟨lo9,lc9,rfl,-,-,-⟩:=hI.L.rd;have hs9m:(NS W.gr n (x:Int) s L.length).2.2.length≤cap9:=h91;clear hI hr9 hs9 hb9 h92 h93 h94 hlt9 h91 hu9;go_wp2_with fail;go_end0;have hd:=bY.done (kd:=5) (n:=s.1.length) rfl HI9.out rfl (by have hkp:=HKP.out L.length;rw [HKD.out] at hkp;exact hkp);refine ⟨rfl,?_⟩;rw [HNEW.out];have hfull:NS W.gr n (x:Int) s L.length=fldM (valM W.gr n) (W.gr (x:Int)).2 (s.1 ++ [(x:Int)],s.2 ++ [((W.gr (x:Int)).1,[])]):=by
       unfold NS;rw [List.take_of_length_le (by rw [HLEN.out];simp)]
      rw [←hfull,HKD.out];rw [←HLL.out] at hd ⊢;exact hd
   ·have hkb:(kd == 5)=false:=by simpa using hk5
    rw [if_neg hk5] at HLEN;clear hk5;have HI9:=Hz hI;obtain ⟨cs9,hs9,hr9⟩:=hI.V.hn;have hlt9:s.1.length<(NS W.gr n (x:Int) s j).2.2.length:=(List.getElem?_eq_some_iff.1 (HKP.out j)).1;obtain ⟨g,o,cap9,cur,rfl,hb9,h91,h92,h93,h94⟩:=hs9.laid (by omega);have c3:=hI.V.hq.cell 3;have cl:=hI.V.hq.lt;have g1:=hb9.cell (o+s.2.length*2+1);have gl:=hb9.lt;have gf:=hb9.free (o+s.2.length*2+1);have hs9l:s.2.length<(NS W.gr n (x:Int) s j).2.2.length:=by rw [HLL.out];exact hlt9
    have hs9i:(s.2.length:Int)<((NS W.gr n (x:Int) s j).2.2.length:Int):=by omega
    obtain ⟨u9,hu9⟩:∃ u,cur[o+s.2.length*2+1]? = some u:=⟨_,Le (by omega)⟩;simp only [Lz,Ls] at c3;rw [hu9] at g1;obtain ⟨lo9,lc9,rfl,-,-,-⟩:=hI.L.rd;have hs9m:(NS W.gr n (x:Int) s j).2.2.length≤cap9:=h91;clear hI hr9 hs9 hb9 h92 h93 h94 hlt9 h91 hu9;go_wp2_with fail;go_end0;have hd:=bY.done (kd:=kd) (n:=s.1.length) rfl HI9.out rfl (by have hkp:=HKP.out j;rw [HKD.out] at hkp;exact hkp);refine ⟨rfl,?_⟩;rw [HNEW.out];have hfull:NS W.gr n (x:Int) s j=fldM (valM W.gr n) (W.gr (x:Int)).2 (s.1 ++ [(x:Int)],s.2 ++ [((W.gr (x:Int)).1,[])]):=by
     unfold NS;rw [List.take_of_length_le (by rw [HLEN.out];simp)]
    rw [←hfull,HKD.out];rw [←HLL.out] at hd ⊢;exact hd
end
end
section
open Go.RowKit
theorem qz {G:Gr} {n:Nat} {x:Int} {s:VS} (hm:¬ x ∈ s.1):x ∈ (valM G (n+1) (3,x) s).2.1∧(valM G (n+1) (3,x) s).2.1.idxOf x=s.1.length:=by
 rw [dt G n (v:=(3,x)) rfl hm];dsimp only;obtain ⟨m,hm2⟩:=ic (ig G n) (G x).2 (s.1 ++ [x],s.2 ++ [((G x).1,[])]);rw [hm2];dsimp only;refine ⟨by simp,?_⟩;rw [List.append_assoc,List.idxOf_append,if_neg hm];simp
section
variable {w w':World} {h:bZ} {W:Wd} {q b:Nat} {rv nv:Value} {F:Nat→Prop} {s:VS}
theorem ou (n:Nat) (ih:mG h W q b rv n) (x:Nat) (V:bX w q h W b rv nv F s) (hlv:W.live (x:Int)) (hm:¬ (x:Int) ∈ s.1) (hT:W.T.length≤100000)
  (hu:cC W.all s.1≤n+1) (hc:s.1.length+cC W.all s.1≤5000) :
  Calls Try.prog 107 #[.pointer (some ⟨q,0,none⟩), .agg #[.int .i64 3, .int .i64 x]] w fun e w'=>kN w q h W b rv nv F (valM W.gr (n+1) (3,(x:Int)) s) e w':=by
 have HV:=Hz V;have ka:=(Kz w).alloc (.cells #[.int .i64 3, .int .i64 x] 78);have hb1:ah (w.alloc (.cells #[.int .i64 3, .int .i64 x] 78)) w.heap.size [.int .i64 3, .int .i64 x] 78:=ah.newAt _ rfl rfl;have ka2:=ka.alloc (.cells #[.int .i64 0, .int .i64 0] 78);have hb2:ah ((w.alloc (.cells #[.int .i64 3, .int .i64 x] 78)).alloc (.cells #[.int .i64 0, .int .i64 0] 78)) (w.heap.size+1) [.int .i64 0, .int .i64 0] 78:=ah.newAt _ (by simp) rfl;have B1:=Hz (hb1.alloc (.cells #[.int .i64 0, .int .i64 0] 78));have B2:=Hz hb2;have V1:=Hz (V.same ka2);have KA:=Hz ka2;have hz1:((w.alloc (.cells #[.int .i64 3, .int .i64 x] 78)).alloc (.cells #[.int .i64 0, .int .i64 0] 78)).heap.size=w.heap.size+2:=by simp
 have HE:=Hz (show (valM W.gr (n+1) (3,(x:Int)) s).1=eB s.1.length by rw [dt W.gr n (v:=(3,(x:Int))) rfl hm]);have HMN:=Hz (qz (G:=W.gr) (n:=n) hm);have HND:=Hz (fun w' (V':bX w' q h W b rv nv F s)=>rX n ih x nv F s w' V' hlv hm hT hu hc);have hxl:x<W.T.length:=by have:=hlv.2.1;omega
 have hxi:(x:Int)<W.T.length:=hlv.2.1;have hl5:s.1.length≤5000:=by omega
 have HM:=Hz hm;clear ka hb1 hb2 ka2 V hm hu hc ih hlv;go_enter Try.func107,Try.ntmps107;go_upto_region 1 with fail
 generalize (w.alloc (.cells #[.int .i64 3, .int .i64 x] 78)).alloc (.cells #[.int .i64 0, .int .i64 0] 78)=w1 at *;obtain ⟨sb,hsb⟩:∃ k,w.heap.size=k:=⟨_,rfl⟩;rw [hsb] at B1 B2 hz1;rw [hsb];have HSB:=Hz hsb;have HZ1:=Hz hz1;clear hsb hz1;have s0:=B1.out.cell 0;have s1:=B1.out.cell 1;have sl:=B1.out.lt;simp only [Lz,Ls] at s0 s1;have hx0:=V1.out.seen hxl;rw [if_neg HM.out] at hx0;obtain ⟨-,q1,-,-,ql⟩:=V1.out.cells;have hbl:=V1.out.hm.lt;go_wp2_with fail;refine aq (.free 0 (.free 1 (.free 2 (.free 4 (.pure 3 (.pure 5 (.free 6 (.pure 7 (.free 8 (.fin)))))))))) [] (fun w'=>w'.cell? ⟨q,1,none⟩=some (.slice (some ⟨b,0,none⟩) W.T.length W.T.length)∧w'.cell? ⟨sb,1,none⟩=some (.int .i64 x)∧w'.cell? ⟨b,x,none⟩=some (.int .i64 0)) (by kernel_rfl) (by kernel_rfl) ⟨q1,s1,hx0⟩ ?_
 iterate 9 ((first | refine ak rfl rfl fun K hK=>?_ | refine aj rfl rfl fun K hK=>?_ | refine ay rfl rfl fun K hK=>?_ | refine av rfl rfl fun K hK=>?_ | refine ax rfl rfl fun K hK=>?_);go_simp;refine hK _ ?_;clear hK K)
 refine aA ?_;go_wp2_with fail;refine (HND.out _ (V1.out.same (Kz w1).drew)).mono ?_;rintro e w2 ⟨rfl,ht⟩;obtain ⟨nv1,F1,V2,kk,p1,p2⟩:=ht;have V2:=Hz V2;have K2:=Hz kk;have P1:=Hz p1;have P2:=Hz p2;have fpn:∀ j,sb≤j→j<sb+2→¬ eW q b nv j:=fun j h1 h2 hj=>by have:=HV.out.lt hj;rw [HSB.out] at this;omega
 have C1:=Hz (kk.ai B1.out.drew (fpn sb (Nat.le_refl _) (by omega)));have C2:=Hz (kk.ai B2.out.drew (fpn (sb+1) (by omega) (by omega)));clear kk p1 p2 fpn s0 s1 sl q1 ql hbl hx0;have s1:=C1.out.cell 1;have sl:=C1.out.lt;have l0:=C2.out.cell 0;have l1:=C2.out.cell 1;have ll:=C2.out.lt;have f0:=C2.out.free 0;have f1:=C2.out.free 1;simp only [Lz,Ls] at s1 l0 l1;have hx0:=V2.out.seen hxl;rw [if_pos HMN.out.1,HMN.out.2] at hx0;obtain ⟨-,q1,-,-,ql⟩:=V2.out.cells;have hbl:=V2.out.hm.lt;generalize hix:s.1.length=ix at *;have hwr:IntKind.i64.wrap (ix:Int)=(ix:Int):=IntWalk.i64_in _ (by omega);go_wp2_with fail;refine aq (.free 0 (.free 1 (.free 2 (.free 4 (.pure 3 (.pure 5 (.free 6 (.pure 7 (.free 8 (.free 9 (.run 10 (.swi [] (.fin))))))))))))) [10] (fun w'=>w'.cell? ⟨q,1,none⟩=some (.slice (some ⟨b,0,none⟩) W.T.length W.T.length)∧w'.cell? ⟨sb,1,none⟩=some (.int .i64 x)∧w'.cell? ⟨b,x,none⟩=some (.int .i64 ((ix:Int)+1))) (by kernel_rfl) (by kernel_rfl) ⟨q1,s1,hx0⟩ ?_
 iterate 10 ((first | refine ak rfl rfl fun K hK=>?_ | refine aj rfl rfl fun K hK=>?_ | refine ay rfl rfl fun K hK=>?_ | refine av rfl rfl fun K hK=>?_ | refine ax rfl rfl fun K hK=>?_);go_simp;refine hK _ ?_;clear hK K)
 refine aG rfl rfl rfl (fun K hK=>?_);unfold aM;go_simp;refine hK _ _ ?_;clear hK K;refine aE (fun _=>True) trivial (aA ?_);go_wp2_with fail;have hb2:=((C2.out.aF 0 (.int .i64 3)).aF 1 (.int .i64 ix)).drew;have x0:=hb2.cell 0;have x1:=hb2.cell 1;simp only [List.set_cons_zero,List.set_cons_succ,Lz,Ls] at x0 x1;refine bodyPost_ret (v:=.agg #[.int .i64 3, .int .i64 ix]) (by simp [results,Try.results107,go_sem,x0,x1]) rfl ?_;refine ⟨by rw [HE.out];rfl,?_⟩;have V2:=V2.out;have k2:=K2.out;have p1:=P1.out;have p2:=P2.out;have ke:=(((aa.refl (·=sb+1) w2).setCell (p:=⟨sb+1,0,none⟩) (.inl rfl) (.int .i64 3)).setCell (p:=⟨sb+1,1,none⟩) (.inl rfl) (.int .i64 ix)).drew;have hz:=HZ1.out;have hd1:w1.drew.heap.size=w1.heap.size:=rfl;refine ⟨nv1,F1,V2.ae ke (fun j hj e=>?_) (fun j hj e=>?_) (fun j hj e=>?_),((KA.out.drew.mono (fun _ _ h=>h.elim)).trans k2).then ke (fun j hj=>.inr (by rw [HSB.out];omega)),fun j hj=>?_,fun j hj=>?_⟩
 ·subst e;exact V2.cF C2.out (by decide) (by decide) (by decide) hj
 ·have:=HV.out.hw.cR hj;rw [HSB.out] at this;omega
 ·subst e;rcases p2 _ hj with h1 | h1
  ·have:=(HV.out.hF _ h1).1;rw [HSB.out] at this;omega
  ·omega
 ·rcases p1 j hj with h1 | h1
  ·exact .inl h1
  ·exact .inr (by rw [HSB.out];omega)
 ·rcases p2 j hj with h1 | h1
  ·exact .inl h1
  ·exact .inr (by rw [HSB.out];omega)
theorem qA (hT:W.T.length≤100000):∀ n:Nat,n≤5000→mG h W q b rv n:=by
 intro n
 induction n with
 | zero=>
  intro _ v nv F s w V hv hu hc;exact kv v 0 V hv (fun h3=>lY (Nat.le_zero.1 hu) (Wd.di.2 (hv h3))) (by omega)
 | succ n ih=>
  intro hn v nv F s w V hv hu hc;by_cases hm:v.1=3→v.2 ∈ s.1
  ·exact kv v (n+1) V hv hm (by omega)
  ·obtain ⟨h1,h2⟩:=Classical.not_imp.1 hm;obtain ⟨kd,x⟩:=v;dsimp only at h1 h2 hv ⊢;subst h1;have hl:=hv rfl;obtain ⟨x,rfl⟩:=Int.eq_ofNat_of_zero_le hl.1;exact ou n (ih (by omega)) x V hl h2 hT hu hc
end
end
section
theorem tA {g:ej} {h:RW} {W:Wd} {rv:Value} (hT:W.T.length≤100000) (n:Nat):sG g h W rv n:=by
 induction n with
 | zero=>
  intro v mv nv F s w V hx hu hc hl;by_cases h3:v.1=3
  ·obtain ⟨v1,v2⟩:=v;dsimp only at h3 hx;subst h3;by_cases hm:v2 ∈ s.1
   ·exact kx v2 0 V hm (by omega)
   ·have:=fe (hx rfl) hm;omega
  ·exact jh v 0 V h3
 | succ n ih=>
  intro v mv nv F s w V hx hu hc hl;by_cases h3:v.1=3
  ·obtain ⟨v1,v2⟩:=v;dsimp only at h3 hx;subst h3;by_cases hm:v2 ∈ s.1
   ·exact kx v2 (n+1) V hm (by omega)
   ·exact oh n ih v2 V (hx rfl) hm hu hc hl hT
  ·exact jh v (n+1) V h3
end
section
open Go.RowKit
section
variable {w:World} {g:ej} {h:RW} {W:Wd} {tb:Nat}
structure dI (w:World) (g:ej) (h:RW) (W:Wd) (tb:Nat) (wr:World) (rv mv nv:Value) (F:Nat→Prop) (s:VS) (l:List Vl):Prop where
 V:cx wr g h W rv mv nv F s
 K:aa (fun _=>False) w wr
 o0:∀ k,ag mv k→w.heap.size≤k
 o1:∀ k,ag nv k→w.heap.size≤k
 o2:∀ k,F k→w.heap.size≤k
 L:Sl wr 78 2 rv l.length (au l)
 o3:∀ k,ag rv k→w.heap.size≤k∧¬ F k
 om:w.heap.size≤g.mb
 ov:w.heap.size≤g.vb
 ot:w.heap.size≤tb
 nt:tb≠g.vb
 ol:∀ k,h.Own k→k<w.heap.size
 B:ah wr tb [.slice none 0 0, .slice none 0 0] 72
variable {wr w2:World} {rv mv nv:Value} {F:Nat→Prop} {s s2:VS} {l:List Vl}
theorem dI.ky (I:dI w g h W tb wr rv mv nv F s l) {k:Nat} (hk:ag rv k):¬ dH g mv nv k:=by
 obtain ⟨_,c,hc⟩:=I.L.own hk;exact I.V.cF hc (by decide) (by decide) (by decide) (by decide)
theorem dI.sY (I:dI w g h W tb wr rv mv nv F s l):¬ dH g mv nv tb:=fun e=>by
 rcases e with e | e | e | e
 ·exact I.B.ne I.V.hm (by decide) e
 ·exact I.nt e
 ·obtain ⟨_,c,hc⟩:=I.V.M.own e;exact I.B.ne hc (by decide) rfl
 ·obtain ⟨_,c,hc⟩:=I.V.N.own e;exact I.B.ne hc (by decide) rfl
theorem dI.told {mv2 nv2:Value} {F2:Nat→Prop} (I:dI w g h W tb wr rv mv nv F s l) (V2:cx w2 g h W rv mv2 nv2 F2 s2) (k2:aa (dH g mv nv) wr w2) (p0:∀ k,ag mv2 k→ag mv k∨wr.heap.size≤k) (p1:∀ k,ag nv2 k→ag nv k∨wr.heap.size≤k) (p2:∀ k,F2 k→F k∨wr.heap.size≤k) :
  dI w g h W tb w2 rv mv2 nv2 F2 s2 l:=by
 have hz:=I.K.size;refine ⟨V2,I.K.then k2 (fun j hj=>?_),fun j hj=>?_,fun j hj=>?_,fun j hj=>?_,I.L.ae k2 (fun j hj=>I.ky hj),fun j hj=>⟨(I.o3 j hj).1,fun hf=>?_⟩,I.om,I.ov,I.ot,I.nt,I.ol,k2.ai I.B I.sY⟩
 ·rcases hj with rfl | rfl | hj | hj
  ·exact .inr I.om
  ·exact .inr I.ov
  ·exact .inr (I.o0 j hj)
  ·exact .inr (I.o1 j hj)
 ·rcases p0 j hj with h | h
  ·exact I.o0 j h
  ·omega
 ·rcases p1 j hj with h | h
  ·exact I.o1 j h
  ·omega
 ·rcases p2 j hj with h | h
  ·exact I.o2 j h
  ·omega
 ·rcases p2 j hf with h | h
  ·exact (I.o3 j hj).2 h
  ·have:=(I.L.own hj).1;omega
theorem dI.same (I:dI w g h W tb wr rv mv nv F s l) (k:aa (fun _=>False) wr w2):dI w g h W tb w2 rv mv nv F s l:=
 ⟨I.V.same k,I.K.trans k,I.o0,I.o1,I.o2,I.L.ae k (fun _ _ h=>h),I.o3,I.om,I.ov,I.ot,I.nt,I.ol,k.ai I.B (fun h=>h)⟩
theorem dI.app {v:Vl} {v2:Value} {wa:World} (I:dI w g h W tb wr rv mv nv F s l) (ka:aa (fun _=>False) wr wa) (hs:Sl w2 78 2 v2 (l.length+1) (au l ++ [.int .i64 v.1, .int .i64 v.2])) (hk:aa (ag rv) wa w2)
  (ho:∀ k,ag v2 k→ag rv k∨wa.heap.size≤k):dI w g h W tb (w2.setCell ⟨g.vb,0,none⟩ v2) v2 mv nv F s (l ++ [v]):=by
 have k2:=(ka.mono (T:=ag rv) (fun _ _ h=>h.elim)).trans hk;have hz:=ka.size;have hz2:=I.K.size;have nr:∀ {b:Nat} {c:List Value} {T:TypeId},ah wr b c T→T≠78→¬ ag rv b:=fun hb hT e=>by obtain ⟨_,c',hc'⟩:=I.L.own e;exact hb.ne hc' hT rfl
 have hv2:=k2.ai I.V.hv (nr I.V.hv (by decide));have set:=(aa.refl (·=g.vb) w2).setCell (p:=⟨g.vb,0,none⟩) (.inl rfl) v2;have kk:aa (fun k=>ag rv k∨k=g.vb) wr (w2.setCell ⟨g.vb,0,none⟩ v2):=(k2.mono (fun _ _ h=>.inl h)).then set (fun b hb=>.inl (.inr hb));have nb:∀ {b:Nat} {c:List Value} {T:TypeId},ah wr b c T→T≠78→T≠72→¬ (ag rv b∨b=g.vb):=fun hb h1 h2 e=>by
  rcases e with e | e
  ·exact nr hb h1 e
  ·exact hb.ne I.V.hv h2 e
 have nF:∀ b,F b→¬ (ag rv b∨b=g.vb):=fun b hb e=>by
  rcases e with e | e
  ·exact (I.o3 b e).2 hb
  ·obtain ⟨_,c,hc⟩:=I.V.hF b hb;exact hc.ne I.V.hv (by decide) e
 refine ⟨⟨I.V.H.ae kk (fun b hb e=>?_),kk.ai I.V.hm (nb I.V.hm (by decide) (by decide)),kk.ai I.V.hw (nb I.V.hw (by decide) (by decide)),by simpa using hv2.aF 0 v2,kk.ai I.V.hf (nb I.V.hf (by decide) (by decide)),I.V.M.ae kk (fun b hb=>?_),I.V.N.ae kk (fun b hb _=>nF b hb) (fun b hb=>?_),fun b hb=>?_,I.V.bd⟩,I.K.then kk (fun j hj=>?_),I.o0,I.o1,I.o2,?_,fun j hj=>?_,I.om,I.ov,I.ot,I.nt,I.ol,kk.ai I.B (fun e=>?_)⟩
 ·have h1:=I.ol b hb;rcases e with e | e
  ·have:=(I.o3 b e).1;omega
  ·have:=I.ov;omega
 ·obtain ⟨_,c,hc⟩:=I.V.M.own hb;exact nb hc (by decide) (by decide)
 ·obtain ⟨_,c,hc⟩:=I.V.N.own hb;exact nb hc (by decide) (by decide)
 ·obtain ⟨a,c,hc⟩:=I.V.hF b hb;exact ⟨Nat.lt_of_lt_of_le a kk.size,c,kk.ai hc (nF b hb)⟩
 ·rcases hj with hj | hj
  ·exact .inr (I.o3 j hj).1
  ·exact .inr (by rw [hj];exact I.ov)
 ·have e:au (l ++ [v])=au l ++ [.int .i64 v.1, .int .i64 v.2]:=by simp [au]
  rw [e,List.length_append];exact hs.ae set (fun b hb e=>by obtain ⟨_,c,hc⟩:=hs.own hb;exact hc.ne hv2 (by decide) e)
 ·rcases ho j hj with h1 | h1
  ·exact I.o3 j h1
  ·exact ⟨by omega,fun hf=>by have:=(I.V.hF j hf).1;omega⟩
 ·rcases e with e | e
  ·exact nr I.B (by decide) e
  ·exact I.nt e
end
def TR (W:Wd) (k:Nat):List Vl × VS:=fldM (valM W.gr 5000) (W.roots.take k) ([],[])
theorem ny {W:Wd} {k:Nat} (h:k<W.roots.length):TR W (k+1)=((TR W k).1 ++ [(valM W.gr 5000 (W.roots.getD k (0,0)) (TR W k).2).1],(valM W.gr 5000 (W.roots.getD k (0,0)) (TR W k).2).2):=by
 unfold TR;have e:W.roots[k]? = some (W.roots.getD k (0,0)):=by rw [Le h];simp [List.getD,h]
 rw [List.take_add_one,e,Option.toList_some,jJ]
 rfl
theorem pG {W:Wd} {k:Nat} (h:k≤W.roots.length):(TR W k).1.length=k:=by
 unfold TR;rw [jK,List.length_take];omega
theorem qB {W:Wd} (k:Nat):(TR W k).2.2.length=(TR W k).2.1.length:=by
 unfold TR;exact fJ (fK W.gr 5000) _ _ rfl
theorem oy {W:Wd} (h:W.ok) (k:Nat):cC W.all (TR W k).2.1≤5000∧(TR W k).2.1.length+cC W.all (TR W k).2.1≤5000:=by
 have I:=Wd.q3 h;unfold TR;have h1:=Wd.kL h;have h2:=m6 W.all;have h3:=fL (f:=valM W.gr 5000) (U:=W.all) (kf I 5000) (W.roots.take k) ([],[]) (fun v hv h3=>Wd.di.2 (Wd.bg (h.rv v (List.mem_of_mem_take hv)) h3));simp only [List.length_nil] at h3;exact ⟨by omega,by omega⟩
end
section
open Go.RowKit
section
variable {w w':World} {h:bZ} {W:Wd} {q b:Nat}
structure dj (w:World) (q:Nat) (h:bZ) (W:Wd) (b:Nat) (wr:World) (rv nv:Value) (F:Nat→Prop) (s:VS) (l:List Vl):Prop where
 V:bX wr q h W b rv nv F s
 K:aa (fun _=>False) w wr
 o1:∀ k,ag nv k→w.heap.size≤k
 o2:∀ k,F k→w.heap.size<k
 L:Sl wr 78 2 rv l.length (au l)
 o3:∀ k,ag rv k→w.heap.size≤k∧¬ F k
 oq:w.heap.size≤q
 ob:w.heap.size≤b
 B:ah wr w.heap.size [.slice none 0 0, .slice none 0 0] 72
 ol:∀ k,h.Own k→k<w.heap.size
theorem dj.ky {w wr:World} {rv nv:Value} {F:Nat→Prop} {s:VS} {l:List Vl} (I:dj w q h W b wr rv nv F s l) {k:Nat} (hk:ag rv k):¬ eW q b nv k∧¬ h.Own k:=by
 obtain ⟨_,c,hc⟩:=I.L.own hk;exact ⟨I.V.cF hc (by decide) (by decide) (by decide),fun h1=>by have:=I.ol k h1;have:=(I.o3 k hk).1;omega⟩
theorem dj.told {w wr w2:World} {rv nv:Value} {F:Nat→Prop} {s s2:VS} {l:List Vl} (I:dj w q h W b wr rv nv F s l) (t:iD wr q h W b rv nv F s2 w2):∃ nv2 F2,dj w q h W b w2 rv nv2 F2 s2 l:=by
 obtain ⟨nv2,F2,V2,k2,p1,p2⟩:=t;have hz:=I.K.size;refine ⟨nv2,F2,V2,I.K.then k2 (fun j hj=>?_),fun j hj=>?_,fun j hj=>?_,I.L.ae k2 (fun j hj=>(I.ky hj).1),fun j hj=>⟨(I.o3 j hj).1,fun hf=>?_⟩,I.oq,I.ob,k2.ai I.B (I.V.cF I.B (by decide) (by decide) (by decide)),I.ol⟩
 ·rcases hj with rfl | rfl | hj
  ·exact .inr I.oq
  ·exact .inr I.ob
  ·exact .inr (I.o1 j hj)
 ·rcases p1 j hj with h | h
  ·exact I.o1 j h
  ·omega
 ·have hbl:=I.B.lt;rcases p2 j hj with h | h
  ·exact I.o2 j h
  ·omega
 ·rcases p2 j hf with h | h
  ·exact (I.o3 j hj).2 h
  ·have:=(I.L.own hj).1;omega
theorem dj.same {w wr w2:World} {rv nv:Value} {F:Nat→Prop} {s:VS} {l:List Vl} (I:dj w q h W b wr rv nv F s l) (k:aa (fun _=>False) wr w2):dj w q h W b w2 rv nv F s l:=
 ⟨I.V.same k,I.K.trans k,I.o1,I.o2,I.L.ae k (fun _ _ h=>h),I.o3,I.oq,I.ob,k.ai I.B (fun h=>h),I.ol⟩
theorem dj.app {w wr wa w2:World} {rv nv v2:Value} {F:Nat→Prop} {s:VS} {l:List Vl} {v:Vl} (I:dj w q h W b wr rv nv F s l) (ka:aa (fun _=>False) wr wa)
  (hs:Sl w2 78 2 v2 (l.length+1) (au l ++ [.int .i64 v.1, .int .i64 v.2])) (hk:aa (ag rv) wa w2) (ho:∀ k,ag v2 k→ag rv k∨wa.heap.size≤k):dj w q h W b (w2.setCell ⟨q,2,none⟩ v2) v2 nv F s (l ++ [v]):=by
 have k2:=(ka.mono (T:=ag rv) (fun _ _ h=>h.elim)).trans hk;have hz:=ka.size;have hz2:=I.K.size;have nq:∀ {v:Value} {wx:World} {n:Nat} {xs:List Value},Sl wx 78 2 v n xs→ah wx q [.pointer (some ⟨h.p,0,none⟩), .slice (some ⟨b,0,none⟩) W.T.length W.T.length,rv,nv] 164→¬ ag v q:=fun hs hq h=>by
  obtain ⟨_,c,hc⟩:=hs.own h;exact hc.ne hq (by decide) rfl
 have hq2:=k2.ai I.V.hq (nq I.L I.V.hq);have set:=(aa.refl (·=q) w2).setCell (p:=⟨q,2,none⟩) (.inl rfl) v2;have V2:=I.V.ae k2 (fun j hj hl=>(I.ky hl).1 hj) (fun j hj hl=>(I.ky hl).2 hj) (fun j hj hl=>(I.o3 j hl).2 hj);have sq:∀ j,ag v2 j→¬ j=q:=fun j hj e=>nq hs hq2 (e ▸ hj);have B2:=k2.ai I.B (fun hl=>by obtain ⟨_,c,hc⟩:=I.L.own hl;exact hc.ne I.B (by decide) rfl);refine ⟨⟨by simpa using hq2.aF 2 v2,V2.hw.ae set (fun j hj e=>by subst e;exact V2.fR hj (.inl rfl)),V2.hm.ae set (fun e=>V2.hm.ne V2.hq (by decide) e),V2.hn.ae set (fun j hj _ e=>(V2.hF j hj).2 (.inl e)) (fun j hj e=>?_),V2.hl,fun j hj=>⟨?_,(V2.hF j hj).2⟩,V2.hO⟩,
  (I.K.then k2 (fun j hj=>.inr (I.o3 j hj).1)).setCell (p:=⟨q,2,none⟩) (.inr I.oq) _,I.o1,I.o2,?_,fun j hj=>?_,I.oq,I.ob,set.ai B2 (B2.ne hq2 (by decide)),I.ol⟩
 ·obtain ⟨_,c,hc⟩:=V2.hn.own hj;exact hc.ne hq2 (by decide) e
 ·have:=(V2.hF j hj).1;have:=set.size;omega
 ·have e:au (l ++ [v])=au l ++ [.int .i64 v.1, .int .i64 v.2]:=by simp [au]
  rw [e,List.length_append];exact hs.ae set sq
 ·rcases ho j hj with h1 | h1
  ·exact I.o3 j h1
  ·exact ⟨by omega,fun hf=>by have:=(I.V.hF j hf).1;omega⟩
theorem rY (w:World) (H:aJ w h W) (hT:W.T.length≤100000) :
  Calls Try.prog 63 #[.pointer (some ⟨h.p,0,none⟩)] w fun e w'=>kF w W.view e w':=by
 have HH:=Hz H;have HT:=Hz hT;obtain ⟨vi,hi,hz0,hz1,hz2⟩:=bB du;have Vi:=Hz hi;have Vz0:=Hz hz0;have Vz1:=Hz hz1;have Vz2:=Hz hz2;clear hi hz0 hz1 hz2;obtain ⟨i0,hi,hz0,hz1,hz2⟩:=info_parts fX;have hmk:=fun (wx:World)=>cB (P:=Try.prog) wx 50 3 i0 (.int .i64 0) Try.underlying50 hi hz0 rfl hz1 W.T.length (by rw [hz2];omega) (by omega);clear hi hz0 hz1 hz2 i0;have HOK:=Hz H.ok;have h12:W.roots.length≤12:=by have:=H.ok.hr;omega
 obtain ⟨p0,-⟩:=H.cells;have pl:=H.hp.lt;obtain ⟨tno,tnc,etv⟩:=H.tv;rw [etv] at p0;clear H etv;go_enter Try.func63,Try.ntmps63;go_upto_region 2 with fail
 have k1:=(((Kz w).alloc (.cells #[.slice none 0 0, .slice none 0 0] 72)).alloc (.cells (Array.replicate W.T.length (.int .i64 0)) 3)).alloc (.cells #[.pointer (some ⟨h.p,0,none⟩), .slice (some ⟨w.heap.size+1,0,none⟩) W.T.length W.T.length, .slice none 0 0, .slice none 0 0] 164);have hb:ah (((w.alloc (.cells #[.slice none 0 0, .slice none 0 0] 72)).alloc (.cells (Array.replicate W.T.length (.int .i64 0)) 3)).alloc (.cells #[.pointer (some ⟨h.p,0,none⟩), .slice (some ⟨w.heap.size+1,0,none⟩) W.T.length W.T.length, .slice none 0 0, .slice none 0 0] 164)) w.heap.size [.slice none 0 0, .slice none 0 0] 72:=((ah.newAt _ rfl rfl).alloc _).alloc _;have hsn:eI (((w.alloc (.cells #[.slice none 0 0, .slice none 0 0] 72)).alloc (.cells (Array.replicate W.T.length (.int .i64 0)) 3)).alloc (.cells #[.pointer (some ⟨h.p,0,none⟩), .slice (some ⟨w.heap.size+1,0,none⟩) W.T.length W.T.length, .slice none 0 0, .slice none 0 0] 164)) (w.heap.size+1) W.T.length []:=by
  unfold eI;rw [pB];exact (ah.newAt _ (by simp) (by simp)).alloc _
 have hv:bX (((w.alloc (.cells #[.slice none 0 0, .slice none 0 0] 72)).alloc (.cells (Array.replicate W.T.length (.int .i64 0)) 3)).alloc (.cells #[.pointer (some ⟨h.p,0,none⟩), .slice (some ⟨w.heap.size+1,0,none⟩) W.T.length W.T.length, .slice none 0 0, .slice none 0 0] 164)) (w.heap.size+1+1) h W (w.heap.size+1) (.slice none 0 0) (.slice none 0 0) (fun _=>False) ([],[]):=
  ⟨ah.newAt _ (by simp) rfl,HH.out.ae k1 (fun _ _ h=>h),hsn,cz.nil _ _,rfl,fun _ h=>h.elim,fun _ h=>h.elim⟩
 have HK1:=Hz k1;have HB:=Hz hb;have HVW:=Hz hv;clear k1 hb hsn hv hmk p0 pl;generalize ((w.alloc (.cells #[.slice none 0 0, .slice none 0 0] 72)).alloc (.cells (Array.replicate W.T.length (.int .i64 0)) 3)).alloc (.cells #[.pointer (some ⟨h.p,0,none⟩), .slice (some ⟨w.heap.size+1,0,none⟩) W.T.length W.T.length, .slice none 0 0, .slice none 0 0] 164)=w1 at *;obtain ⟨-,p1,-⟩:=HVW.out.hw.cells;have pl:=HVW.out.hw.hp.lt;obtain ⟨ro,rc,erv,-,-,-⟩:=HH.out.hr.rd;rw [erv] at p1;have HRV:=Hz erv;clear erv;go_wp2_with fail;have HI0:=Hz (show dj w (w.heap.size+1+1) h W (w.heap.size+1) w1 (.slice none 0 0) (.slice none 0 0) (fun _=>False) (TR W 0).2 (TR W 0).1 from
  ⟨HVW.out,HK1.out,fun _ h=>(bJ h).elim,fun _ h=>h.elim,Sl.nil _ _ _,fun _ h=>(bJ h).elim,by omega,by omega,HB.out,fun k hk=>HH.out.cR hk⟩)
 clear HVW HB HK1 p1 pl;go_loopw [21] (fun i wr=>∃ (k:Nat) (rv nv:Value) (F:Nat→Prop),k≤W.roots.length∧i=.int .i64 k∧dj w (w.heap.size+1+1) h W (w.heap.size+1) wr rv nv F (TR W k).2 (TR W k).1) (fun i _=>W.roots.length-(intOf i).toNat)
 case atStart=>exact ⟨0,_,_,_,Nat.zero_le _,rfl,HI0.out⟩
 case round=>
  clear HI0;obtain ⟨k,rv,nv,F,hk,rfl,hI⟩:=hrel;have HI:=Hz hI;have hkl:=pG (W:=W) (k:=k) hk;have HKL:=Hz hkl;by_cases hlt:k<W.roots.length
  ·have HST:=Hz (ny (W:=W) (k:=k) hlt);have hm:W.roots.getD k (0,0) ∈ W.roots:=by rw [Ld,Le hlt];exact List.getElem_mem _
   have HLU:=Hz (fun h3=>Wd.bg (HOK.out.rv _ hm) h3);have hrr:Rd wr ro (au W.roots):=by
    have:=hI.V.hw.hr;rw [HRV.out] at this;obtain ⟨_,_,e',rd,-,-⟩:=this.rd;cases e';exact rd
   obtain ⟨gg,go,rfl,ggl,u0,u1⟩:=hrr.dM k hlt;clear hI hkl hm hrr;generalize W.roots.getD k (0,0)=y at *;have hki:(k:Int)<W.roots.length:=by omega
   go_upto_region 5 with (refine aQ rfl 78 (.tmp 23) rfl (by kernel_rfl) gg (go+k*2) rfl _ _ u0 u1 ?_);have ka:=(Kz wr).alloc (.cells #[.int .i64 y.1, .int .i64 y.2] 78);have BV:=Hz (show ah (wr.alloc (.cells #[.int .i64 y.1, .int .i64 y.2] 78)) wr.heap.size _ 78 from ah.newAt _ rfl rfl);have HIa:=Hz (HI.out.same ka);clear ka u0 u1 ggl HI;generalize wr.alloc (.cells #[.int .i64 y.1, .int .i64 y.2] 78)=wa at *;generalize wr.heap.size=ba at *;have c0:=BV.out.cell 0;have c1:=BV.out.cell 1;have cl:=BV.out.lt;simp only [Lz,Ls] at c0 c1;have HVC:=Hz (qA HT.out 5000 (Nat.le_refl _) y nv F _ _ HIa.out.V HLU.out (oy HOK.out k).1 (oy HOK.out k).2);go_wp2_with (refine aQ rfl 78 (.tmp 5) rfl (by kernel_rfl) ba 0 rfl _ _ c0 c1 ?_);refine HVC.out.mono ?_;rintro e w2 ⟨rfl,ht⟩;obtain ⟨nv2,F2,hI2⟩:=HIa.out.told ht;obtain ⟨⟨⟨r1,r2⟩,sr⟩,hr⟩:∃ t,valM W.gr 5000 y (TR W k).2=t:=⟨_,rfl⟩;rw [hr] at hI2 HST ⊢;dsimp only at hI2 HST ⊢;clear hr ht c0 c1 cl HVC BV;go_upto_region 6 with fail;have hka:=(Kz w2).alloc (.cells #[.int .i64 r1, .int .i64 r2] 78);have hI3:=hI2.same hka;have hvb:ah (w2.alloc (.cells #[.int .i64 r1, .int .i64 r2] 78)) w2.heap.size [.int .i64 r1, .int .i64 r2] 78:=ah.newAt _ rfl rfl;have HI3:=Hz hI3;obtain ⟨lo,lc,rfl,-,-,-⟩:=hI3.L.rd;rw [HKL.out] at HI3;have c2:=hI3.V.hq.cell 2;have cl:=hI3.V.hq.lt;have v0:=hvb.cell 0;have v1:=hvb.cell 1;have vl:=hvb.lt;simp only [Lz,Ls] at c2 v0 v1;rw [HKL.out] at c2;have HL3:=Hz (show Sl (w2.alloc (.cells #[.int .i64 r1, .int .i64 r2] 78)) 78 2 (.slice lo k lc) k (au (TR W k).1) by have:=HI3.out.L;rw [HKL.out] at this;exact this);clear hka hI3 hI2 hvb HIa;generalize w2.alloc (.cells #[.int .i64 r1, .int .i64 r2] 78)=wb at *;generalize w2.heap.size=bv at *;refine aq (.free 0 (.free 1 (.free 2 (.free 3 (.free 4 (.pure 5 (.pure 6 (.run 7 (.run 8 (.swi [12] (.free 9 (.free 10 (.free 11 (.run 12 (.swi [] (.fin)))))))))))))))) [8,9,10,11,12] (fun w'=>w'.cell? ⟨w.heap.size+1+1,2,none⟩=some (.slice lo k lc)∧w'.cell? ⟨bv,0,none⟩=some (.int .i64 r1)∧w'.cell? ⟨bv,1,none⟩=some (.int .i64 r2)) (by kernel_rfl) (by kernel_rfl) ⟨c2,v0,v1⟩ ?_
   iterate 7 ((first | refine ak rfl rfl fun K hK=>?_ | refine aj rfl rfl fun K hK=>?_ | refine ay rfl rfl fun K hK=>?_ | refine av rfl rfl fun K hK=>?_ | refine ax rfl rfl fun K hK=>?_);go_simp;refine hK _ ?_;clear hK K)
   refine aZ rfl rfl (fun K hK=>?_);unfold aM;go_simp;have hkb:aa (fun _=>False) wb ((wb.drew).alloc (.cells #[.int .i64 r1, .int .i64 r2] 78)):=(Kz wb).drew.alloc (.cells #[.int .i64 r1, .int .i64 r2] 78);refine hK _ _ (fun hg=>?_) ?_
   ·refine ⟨?_,?_,?_⟩
    ·exact (World.cell?_of_block (w:=wb) (a:=⟨w.heap.size+1+1,2,none⟩) (hkb.block _ cl (fun h=>h))).trans c2
    ·exact (World.cell?_of_block (w:=wb) (a:=⟨bv,0,none⟩) (hkb.block _ vl (fun h=>h))).trans v0
    ·exact (World.cell?_of_block (w:=wb) (a:=⟨bv,1,none⟩) (hkb.block _ vl (fun h=>h))).trans v1
   clear hK K;refine aG rfl rfl rfl (fun K hK=>?_);refine cy (.tmp 33) (.tmp 35) 69 rfl 78 vi (.agg #[.int .i64 0, .int .i64 0]) 2 16 Try.underlying69 Vi.out Vz0.out Vz1.out Vz2.out rfl (by decide) _ k (au (TR W k).1) rfl (HL3.out.ae hkb (fun _ _ h=>h)) ⟨wb.heap.size,0,none⟩ 1 1 [.int .i64 r1, .int .i64 r2] rfl rfl (bq wb.drew 78 #[.int .i64 r1, .int .i64 r2]) (by intro u hu;simp at hu;rcases hu with rfl | rfl <;> rfl) (by unfold maxLen;omega) (by omega) ?_;intro v3 w3 hs3 hk3 ho3;have HI4:=Hz (HI3.out.app (v:=(r1,r2)) hkb (by rw [HKL.out];exact hs3) hk3 ho3);have hp3:=hk3.ai (hkb.ai HI3.out.V.hq (fun h=>h)) (fun hv=>by obtain ⟨_,c',hc⟩:=(HL3.out.ae hkb (fun _ _ h=>h)).own hv;exact (hkb.ai HI3.out.V.hq (fun h=>h)).ne hc (by decide) rfl);have x0:=hp3.cell 2;have xf:=hp3.free 2;have xl:=hp3.lt;simp only [Lz,Ls] at x0;obtain ⟨lo3,lc3,rfl,-,-,-⟩:=hs3.rd;refine hK _ _ ?_;clear hK K hkb hs3 hk3 ho3 hp3 c2 cl v0 v1 vl;refine aE (fun _=>True) trivial ?_
   iterate 3 ((first | refine ak rfl rfl fun K hK=>?_ | refine aj rfl rfl fun K hK=>?_);go_simp;refine hK _ ?_;clear hK K)
   refine aG rfl rfl rfl (fun K hK=>?_);unfold aM;go_simp;refine hK _ _ ?_;clear hK K;refine aE (fun _=>True) trivial (aA ?_);clear x0 xf xl;go_wp2_with fail;go_roundw
   case rel=>exact ⟨k+1,_,nv2,F2,by omega,by go_num,by rw [HST.out];exact HI4.out⟩
   case measure=>simp [intOf];omega
  ·have hke:k=W.roots.length:=by omega
   subst hke;obtain ⟨lo,lc,rfl,hrr,-,-⟩:=hI.L.rd;obtain ⟨cs,hns,hnr⟩:=hI.V.hn;obtain ⟨no,nc,rfl,-,-,-⟩:=hns.rd;have c2:=hI.V.hq.cell 2;have c3:=hI.V.hq.cell 3;have cl:=hI.V.hq.lt;have b0:=hI.B.cell 0;have b1:=hI.B.cell 1;have bl:=hI.B.lt;have f0:=hI.B.free 0;have f1:=hI.B.free 1;simp only [Lz,Ls] at c2 c3 b0 b1;have HVE:=Hz (show W.view=((TR W W.roots.length).1,(TR W W.roots.length).2.2) by
    unfold Wd.view j9 TR deep
    rw [List.take_of_length_le (Nat.le_refl _)])
   clear hI hrr hns hnr hlt hk hkl;go_wp2_with (refine aQ rfl 72 (.tmp 43) rfl (by kernel_rfl) (w.heap.size+1+1) 2 rfl _ _ c2 c3 ?_);have hb3:=(HI.out.B.aF 0 (.slice lo (TR W W.roots.length).1.length lc)).aF 1 (.slice no (TR W W.roots.length).2.2.length nc);have x0:=hb3.cell 0;have x1:=hb3.cell 1;simp only [List.set_cons_zero,List.set_cons_succ,Lz,Ls] at x0 x1;refine bodyPost_ret (v:=.agg #[.slice lo (TR W W.roots.length).1.length lc, .slice no (TR W W.roots.length).2.2.length nc]) (by simp [results,Try.results63,go_sem,x0,x1]) rfl ?_;refine ⟨_,rfl,?_,(HI.out.K.setCell (p:=⟨w.heap.size,0,none⟩) (.inr (Nat.le_refl _)) _).setCell (p:=⟨w.heap.size,1,none⟩) (.inr (Nat.le_refl _)) _⟩;rw [HVE.out];have ke:=((aa.refl (·=w.heap.size) wr).setCell (p:=⟨w.heap.size,0,none⟩) (.inl rfl) (.slice lo (TR W W.roots.length).1.length lc)).setCell (p:=⟨w.heap.size,1,none⟩) (.inl rfl) (.slice no (TR W W.roots.length).2.2.length nc);have nF:∀ j,F j→¬ j=w.heap.size:=fun j hj e=>by
    have:=HI.out.o2 j hj;omega
   refine ⟨lo,lc,no,nc,F,rfl,HI.out.L.ae ke (fun j hj e=>?_),HI.out.V.hn.ae ke (fun j hj _=>nF j hj) (fun j hj e=>?_),fun j hj=>?_⟩
   ·subst e;obtain ⟨_,c,hc⟩:=HI.out.L.own hj;exact hc.ne HI.out.B (by decide) rfl
   ·subst e;obtain ⟨_,c,hc⟩:=HI.out.V.hn.own hj;exact hc.ne HI.out.B (by decide) rfl
   ·have hks:=ke.size;rcases hj with hj | hj | hj
    ·exact ⟨Nat.le_of_lt (HI.out.o2 j hj),by have:=(HI.out.V.hF j hj).1;omega⟩
    ·exact ⟨(HI.out.o3 j hj).1,by have:=(HI.out.L.own hj).1;omega⟩
    ·exact ⟨HI.out.o1 j hj,by have:=(HI.out.V.hn.own hj).1;omega⟩
end
end
section
open Go.RowKit
theorem cW {W:Wd} {x:St} {c:Int} (h:aP x=c) (h0:c≠0):W.do x=(c,W):=by unfold Wd.do;rw [h,if_neg h0]
theorem bE {W:Wd} {x:St} (h:aP x=0):W.do x=W.step x:=by unfold Wd.do;rw [if_pos h]
section
variable {w:World} {h:RW} {W:Wd}
theorem qC (xr xa xb xi xn:Int) (H:aK w h W) :
  Calls Try.prog 60 #[.pointer (some ⟨h.p,0,none⟩), .agg #[.int .i64 1, .int .i64 xr, .int .i64 xa, .int .i64 xb, .int .i64 xi, .int .i64 xn]] w fun e w'=>e=.returned (.int .i64 (W.do ⟨1,xr,xa,xb,xi,xn⟩).1)∧aC w h w' (W.do ⟨1,xr,xa,xb,xi,xn⟩).2:=by
 have HH:=Hz H;have hb1:ah (w.alloc (.cells #[.int .i64 1, .int .i64 xr, .int .i64 xa, .int .i64 xb, .int .i64 xi, .int .i64 xn] 98)) w.heap.size [.int .i64 1, .int .i64 xr, .int .i64 xa, .int .i64 xb, .int .i64 xi, .int .i64 xn] 98:=ah.newAt _ rfl rfl;have HB:=Hz hb1;have KA:=Hz ((Kz w).alloc (.cells #[.int .i64 1, .int .i64 xr, .int .i64 xa, .int .i64 xb, .int .i64 xi, .int .i64 xn] 98));have s0:=hb1.cell 0;have s1:=hb1.cell 1;have s2:=hb1.cell 2;have s3:=hb1.cell 3;have s4:=hb1.cell 4;have s5:=hb1.cell 5;simp only [Lz,Ls] at s0 s1 s2 s3 s4 s5;have HSF:=Hz (fun w=>bh ⟨1,xr,xa,xb,xi,xn⟩ w);obtain ⟨c,hc⟩:∃ c,aP ⟨1,xr,xa,xb,xi,xn⟩=c:=⟨_,rfl⟩;rw [hc] at HSF;have HC:=Hz hc;clear H hb1 hc;go_enter Try.func60,Try.ntmps60;go_wp2_with (refine aT rfl 98 (.tmp 3) rfl [.int .i64 1, .int .i64 xr, .int .i64 xa, .int .i64 xb, .int .i64 xi, .int .i64 xn] (by kernel_rfl) w.heap.size 0 rfl (ab s0 (ab s1 (ab s2 (ab s3 (ab s4 (ab s5 aO)))))) ?_);refine (HSF.out _).mono ?_;rintro e w1 ⟨rfl,hk⟩;have H1:=Hz ((HH.out.same KA.out).same hk);have K1:=Hz (KA.out.trans hk);have B1:=Hz (hk.ai HB.out (fun h=>h));clear hk s0 s1 s2 s3 s4 s5 HSF KA HB;generalize w.heap.size=sb at *;have s0:=B1.out.cell 0;have s1:=B1.out.cell 1;have s5:=B1.out.cell 5;have sl:=B1.out.lt;simp only [Lz,Ls] at s0 s1 s5;by_cases h0:c=0
 ·subst h0;have hr:=(aB HC.out).2.1 (show aH 1%2=1 by decide);have hr:0≤xr∧xr<12:=(aD _).1 hr;have hn:-cL≤xn∧xn<cL:=(aB HC.out).2.2.2.2.1 rfl;have HE:=Hz (show W.do ⟨1,xr,xa,xb,xi,xn⟩=(0,W.bj xr (1,xn)) by rw [bE HC.out];rfl);have HN:=Hz (Wd.gW (W:=W) hn.1 hn.2);obtain ⟨r,rfl⟩:∃ r:Nat,xr=r:=⟨xr.toNat,by omega⟩;have hr12:r<12:=by omega
  clear hn;obtain ⟨g,o,rc,erv,hg,-,-⟩:=H1.out.root hr12;have hrl:W.roots.length=12:=H1.out.ok.hr;obtain ⟨-,c1,-,-,-,-⟩:=H1.out.cells;have pl:=H1.out.hp.lt;have hrs:=H1.out.hr;rw [erv,hrl] at c1 hrs;have RS:=Hz hrs;have ERV:=Hz erv;have HRL:=Hz hrl;have h12:(r:Int)<12:=by omega
  clear erv hrl hrs hr;go_wp2_with fail;refine aq (.free 0 (.free 1 (.free 2 (.free 4 (.free 6 (.pure 3 (.pure 5 (.pure 7 (.free 8 (.free 9 (.run 10 (.swi [] (.fin))))))))))))) [10] (fun w'=>w'.cell? ⟨h.p,1,none⟩=some (.slice (some ⟨g,o,none⟩) 12 rc)∧w'.cell? ⟨sb,1,none⟩=some (.int .i64 r)∧w'.cell? ⟨sb,5,none⟩=some (.int .i64 xn)) (by kernel_rfl) (by kernel_rfl) ⟨c1,s1,s5⟩ ?_
  iterate 10 ((first | refine ak rfl rfl fun K hK=>?_ | refine aj rfl rfl fun K hK=>?_ | refine ay rfl rfl fun K hK=>?_ | refine av rfl rfl fun K hK=>?_ | refine ax rfl rfl fun K hK=>?_);go_simp;refine hK _ ?_;clear hK K)
  refine aG rfl rfl rfl (fun K hK=>?_);refine aS 78 (.tmp 34) (.tmp 33) rfl rfl g o 12 rc r (au W.roots) 78 (.int .i64 1) (.int .i64 xn) rfl rfl (RS.out.ae (Kz w1).drew (fun _ _ h=>h)) hr12 (by kernel_rfl) rfl rfl ?_;intro w3 hs3 hk3 hz3;refine hK _ _ ?_;clear hK K;refine aE (fun _=>True) trivial (aA ?_);have hkw:aa (·=g) w1 w3:=((Kz w1).drew.mono (fun _ _ h=>h.elim)).trans hk3;have TO:=Hz (aC.aN K1.out (H1.out.dh (w':=w3) (by rw [ERV.out]) hr12 HN.out (by rw [HRL.out];exact hs3) hkw));clear hkw hs3 hk3 hz3 c1 s1 s5 s0;go_wp2_with fail;go_ret;exact ⟨by rw [HE.out];rfl,by rw [HE.out];exact TO.out⟩
 ·have HE:=Hz (cW (W:=W) HC.out h0);have hd:(c != 0)=true:=by simpa using h0
  clear h0;go_wp2_with fail;go_ret;exact ⟨by rw [HE.out];rfl,by rw [HE.out];exact aC.same HH.out K1.out⟩
end
end
section
open Go.RowKit
section
variable {w:World} {h:RW} {W:Wd}
theorem qD (xk xr xa xb xi xn:Int) (H:aK w h W) (hbad:¬ aP ⟨xk,xr,xa,xb,xi,xn⟩=0) :
  Calls Try.prog 60 #[.pointer (some ⟨h.p,0,none⟩), .agg #[.int .i64 xk, .int .i64 xr, .int .i64 xa, .int .i64 xb, .int .i64 xi, .int .i64 xn]] w fun e w'=>e=.returned (.int .i64 (W.do ⟨xk,xr,xa,xb,xi,xn⟩).1)∧aC w h w' (W.do ⟨xk,xr,xa,xb,xi,xn⟩).2:=by
 have HBD:=Hz hbad;clear hbad;have HH:=Hz H;have hb1:ah (w.alloc (.cells #[.int .i64 xk, .int .i64 xr, .int .i64 xa, .int .i64 xb, .int .i64 xi, .int .i64 xn] 98)) w.heap.size [.int .i64 xk, .int .i64 xr, .int .i64 xa, .int .i64 xb, .int .i64 xi, .int .i64 xn] 98:=ah.newAt _ rfl rfl;have HB:=Hz hb1;have KA:=Hz ((Kz w).alloc (.cells #[.int .i64 xk, .int .i64 xr, .int .i64 xa, .int .i64 xb, .int .i64 xi, .int .i64 xn] 98));have s0:=hb1.cell 0;have s1:=hb1.cell 1;have s2:=hb1.cell 2;have s3:=hb1.cell 3;have s4:=hb1.cell 4;have s5:=hb1.cell 5;simp only [Lz,Ls] at s0 s1 s2 s3 s4 s5;have HSF:=Hz (fun w=>bh ⟨xk,xr,xa,xb,xi,xn⟩ w);obtain ⟨c,hc⟩:∃ c,aP ⟨xk,xr,xa,xb,xi,xn⟩=c:=⟨_,rfl⟩;rw [hc] at HSF;have HC:=Hz hc;clear H hb1 hc;go_enter Try.func60,Try.ntmps60;go_wp2_with (refine aT rfl 98 (.tmp 3) rfl [.int .i64 xk, .int .i64 xr, .int .i64 xa, .int .i64 xb, .int .i64 xi, .int .i64 xn] (by kernel_rfl) w.heap.size 0 rfl (ab s0 (ab s1 (ab s2 (ab s3 (ab s4 (ab s5 aO)))))) ?_);refine (HSF.out _).mono ?_;rintro e w1 ⟨rfl,hk⟩;have H1:=Hz ((HH.out.same KA.out).same hk);have K1:=Hz (KA.out.trans hk);have B1:=Hz (hk.ai HB.out (fun h=>h));clear hk s0 s1 s2 s3 s4 s5 HSF KA HB;generalize w.heap.size=sb at *;have s0:=B1.out.cell 0;have s1:=B1.out.cell 1;have s2:=B1.out.cell 2;have s3:=B1.out.cell 3;have s4:=B1.out.cell 4;have s5:=B1.out.cell 5;have sl:=B1.out.lt;simp only [Lz,Ls] at s0 s1 s2 s3 s4 s5;by_cases h0:¬ c=0
 ·have HE:=Hz (cW (W:=W) HC.out h0);have hd:(c != 0)=true:=by simpa using h0
  clear h0;go_wp2_with fail;go_ret;exact ⟨by rw [HE.out];rfl,by rw [HE.out];exact aC.same HH.out K1.out⟩
 have h0:c=0:=Classical.not_not.1 h0;subst h0;exact (HBD.out HC.out).elim
theorem pH (xr xa xb xi xn:Int) (H:aK w h W) :
  Calls Try.prog 60 #[.pointer (some ⟨h.p,0,none⟩), .agg #[.int .i64 3, .int .i64 xr, .int .i64 xa, .int .i64 xb, .int .i64 xi, .int .i64 xn]] w fun e w'=>e=.returned (.int .i64 (W.do ⟨3,xr,xa,xb,xi,xn⟩).1)∧aC w h w' (W.do ⟨3,xr,xa,xb,xi,xn⟩).2:=by
 have HH:=Hz H;have hb1:ah (w.alloc (.cells #[.int .i64 3, .int .i64 xr, .int .i64 xa, .int .i64 xb, .int .i64 xi, .int .i64 xn] 98)) w.heap.size [.int .i64 3, .int .i64 xr, .int .i64 xa, .int .i64 xb, .int .i64 xi, .int .i64 xn] 98:=ah.newAt _ rfl rfl;have HB:=Hz hb1;have KA:=Hz ((Kz w).alloc (.cells #[.int .i64 3, .int .i64 xr, .int .i64 xa, .int .i64 xb, .int .i64 xi, .int .i64 xn] 98));have s0:=hb1.cell 0;have s1:=hb1.cell 1;have s2:=hb1.cell 2;have s3:=hb1.cell 3;have s4:=hb1.cell 4;have s5:=hb1.cell 5;simp only [Lz,Ls] at s0 s1 s2 s3 s4 s5;have HSF:=Hz (fun w=>bh ⟨3,xr,xa,xb,xi,xn⟩ w);obtain ⟨c,hc⟩:∃ c,aP ⟨3,xr,xa,xb,xi,xn⟩=c:=⟨_,rfl⟩;rw [hc] at HSF;have HC:=Hz hc;clear H hb1 hc;go_enter Try.func60,Try.ntmps60;go_wp2_with (refine aT rfl 98 (.tmp 3) rfl [.int .i64 3, .int .i64 xr, .int .i64 xa, .int .i64 xb, .int .i64 xi, .int .i64 xn] (by kernel_rfl) w.heap.size 0 rfl (ab s0 (ab s1 (ab s2 (ab s3 (ab s4 (ab s5 aO)))))) ?_);refine (HSF.out _).mono ?_;rintro e w1 ⟨rfl,hk⟩;have H1:=Hz ((HH.out.same KA.out).same hk);have K1:=Hz (KA.out.trans hk);have B1:=Hz (hk.ai HB.out (fun h=>h));clear hk s0 s1 s2 s3 s4 s5 HSF KA HB;generalize w.heap.size=sb at *;have s0:=B1.out.cell 0;have s1:=B1.out.cell 1;have s2:=B1.out.cell 2;have s3:=B1.out.cell 3;have s4:=B1.out.cell 4;have s5:=B1.out.cell 5;have sl:=B1.out.lt;simp only [Lz,Ls] at s0 s1 s2 s3 s4 s5;by_cases h0:¬ c=0
 ·have HE:=Hz (cW (W:=W) HC.out h0);have hd:(c != 0)=true:=by simpa using h0
  clear h0;go_wp2_with fail;go_ret;exact ⟨by rw [HE.out];rfl,by rw [HE.out];exact aC.same HH.out K1.out⟩
 have h0:c=0:=Classical.not_not.1 h0;subst h0;have hr:0≤xr∧xr<12:=(aD _).1 ((aB HC.out).2.1 (show aH 3%2=1 by decide));obtain ⟨r,rfl⟩:∃ r:Nat,xr=r:=⟨xr.toNat,by omega⟩;have hr12:r<12:=by omega
 clear hr;have ha:0≤xa∧xa<12:=(aD _).1 ((aB HC.out).2.2.1 (show aH 3/2%2=1 by decide));obtain ⟨a,rfl⟩:∃ a:Nat,xa=a:=⟨xa.toNat,by omega⟩;have ha12:a<12:=by omega
 clear ha;obtain ⟨g,o,rc,erv,hg,-,-⟩:=H1.out.root hr12;have hrl:W.roots.length=12:=H1.out.ok.hr;obtain ⟨-,c1,-,-,-,-⟩:=H1.out.cells;have hrs:=H1.out.hr;rw [erv,hrl] at c1 hrs;have RS:=Hz hrs;have ERV:=Hz erv;have HRL:=Hz hrl;have h12:(r:Int)<12:=by omega
 clear erv hrl hrs;have pl:=H1.out.hp.lt;obtain ⟨g',o',rc',erv',hg',a0,a1⟩:=H1.out.root ha12;rw [ERV.out] at erv';cases erv';have ha12i:(a:Int)<12:=by omega
 have HE:=Hz (show W.do ⟨3,r,a,xb,xi,xn⟩=(0,W.bj r (W.rt a)) by rw [bE HC.out];rfl);have HV:=Hz (Wd.eS H1.out.ok (a:Int));generalize W.rt (a:Int)=v at *;obtain ⟨v1,v2⟩:=v;dsimp only at a0 a1;go_wp2_with fail;refine aq (.free 0 (.free 1 (.free 2 (.free 4 (.free 6 (.free 7 (.free 8 (.free 10 (.pure 3 (.pure 5 (.pure 9 (.pure 11 (.free 12 (.pure 13 (.free 14 (.run 15 (.swi [] (.fin)))))))))))))))))) [15] (fun w'=>w'.cell? ⟨h.p,1,none⟩=some (.slice (some ⟨g,o,none⟩) 12 rc)∧w'.cell? ⟨sb,1,none⟩=some (.int .i64 r)∧w'.cell? ⟨sb,2,none⟩=some (.int .i64 a)∧w'.cell? ⟨g,o+a*2,none⟩=some (.int .i64 v1)∧w'.cell? ⟨g,o+a*2+1,none⟩=some (.int .i64 v2)) (by kernel_rfl) (by kernel_rfl) ⟨c1,s1,s2,a0,a1⟩ ?_
 iterate 15 ((first | refine ak rfl rfl fun K hK=>?_ | refine aj rfl rfl fun K hK=>?_ | refine ay rfl rfl fun K hK=>?_ | refine av rfl rfl fun K hK=>?_ | refine ax rfl rfl fun K hK=>?_);go_simp;refine hK _ ?_;clear hK K)
 refine aG rfl rfl rfl (fun K hK=>?_);refine aS 78 (.tmp 61) (.tmp 60) rfl rfl g o 12 rc r (au W.roots) 78 (.int .i64 (v1)) (.int .i64 (v2)) rfl rfl (RS.out.ae (Kz w1).drew (fun _ _ h=>h)) hr12 (by kernel_rfl) rfl rfl ?_;intro w3 hs3 hk3 hz3;refine hK _ _ ?_;clear hK K;refine aE (fun _=>True) trivial (aA ?_);have hkw:aa (·=g) w1 w3:=((Kz w1).drew.mono (fun _ _ h=>h.elim)).trans hk3;have TO:=Hz (aC.aN K1.out (H1.out.dh (w':=w3) (by rw [ERV.out]) hr12 HV.out (by rw [HRL.out];exact hs3) hkw));clear hkw hs3 hk3 hz3;clear c1 s1 s0 s2 s3 s4 s5 sl a0 a1;go_wp2_with fail;go_ret;exact ⟨by rw [HE.out];rfl,by rw [HE.out];exact TO.out⟩
theorem pI (xr xa xb xi xn:Int) (H:aK w h W) (hT:W.T.length≤90000) :
  Calls Try.prog 60 #[.pointer (some ⟨h.p,0,none⟩), .agg #[.int .i64 4, .int .i64 xr, .int .i64 xa, .int .i64 xb, .int .i64 xi, .int .i64 xn]] w fun e w'=>e=.returned (.int .i64 (W.do ⟨4,xr,xa,xb,xi,xn⟩).1)∧aC w h w' (W.do ⟨4,xr,xa,xb,xi,xn⟩).2:=by
 have HH:=Hz H;have hb1:ah (w.alloc (.cells #[.int .i64 4, .int .i64 xr, .int .i64 xa, .int .i64 xb, .int .i64 xi, .int .i64 xn] 98)) w.heap.size [.int .i64 4, .int .i64 xr, .int .i64 xa, .int .i64 xb, .int .i64 xi, .int .i64 xn] 98:=ah.newAt _ rfl rfl;have HB:=Hz hb1;have KA:=Hz ((Kz w).alloc (.cells #[.int .i64 4, .int .i64 xr, .int .i64 xa, .int .i64 xb, .int .i64 xi, .int .i64 xn] 98));have s0:=hb1.cell 0;have s1:=hb1.cell 1;have s2:=hb1.cell 2;have s3:=hb1.cell 3;have s4:=hb1.cell 4;have s5:=hb1.cell 5;simp only [Lz,Ls] at s0 s1 s2 s3 s4 s5;have HSF:=Hz (fun w=>bh ⟨4,xr,xa,xb,xi,xn⟩ w);obtain ⟨c,hc⟩:∃ c,aP ⟨4,xr,xa,xb,xi,xn⟩=c:=⟨_,rfl⟩;rw [hc] at HSF;have HC:=Hz hc;clear H hb1 hc;go_enter Try.func60,Try.ntmps60;go_wp2_with (refine aT rfl 98 (.tmp 3) rfl [.int .i64 4, .int .i64 xr, .int .i64 xa, .int .i64 xb, .int .i64 xi, .int .i64 xn] (by kernel_rfl) w.heap.size 0 rfl (ab s0 (ab s1 (ab s2 (ab s3 (ab s4 (ab s5 aO)))))) ?_);refine (HSF.out _).mono ?_;rintro e w1 ⟨rfl,hk⟩;have H1:=Hz ((HH.out.same KA.out).same hk);have K1:=Hz (KA.out.trans hk);have B1:=Hz (hk.ai HB.out (fun h=>h));clear hk s0 s1 s2 s3 s4 s5 HSF KA HB;generalize w.heap.size=sb at *;have s0:=B1.out.cell 0;have s1:=B1.out.cell 1;have s2:=B1.out.cell 2;have s3:=B1.out.cell 3;have s4:=B1.out.cell 4;have s5:=B1.out.cell 5;have sl:=B1.out.lt;simp only [Lz,Ls] at s0 s1 s2 s3 s4 s5;by_cases h0:¬ c=0
 ·have HE:=Hz (cW (W:=W) HC.out h0);have hd:(c != 0)=true:=by simpa using h0
  clear h0;go_wp2_with fail;go_ret;exact ⟨by rw [HE.out];rfl,by rw [HE.out];exact aC.same HH.out K1.out⟩
 have h0:c=0:=Classical.not_not.1 h0;subst h0;have hr:0≤xr∧xr<12:=(aD _).1 ((aB HC.out).2.1 (show aH 4%2=1 by decide));obtain ⟨r,rfl⟩:∃ r:Nat,xr=r:=⟨xr.toNat,by omega⟩;have hr12:r<12:=by omega
 clear hr;have ha:0≤xa∧xa<12:=(aD _).1 ((aB HC.out).2.2.1 (show aH 4/2%2=1 by decide));obtain ⟨a,rfl⟩:∃ a:Nat,xa=a:=⟨xa.toNat,by omega⟩;have ha12:a<12:=by omega
 clear ha;have hb:0≤xb∧xb<12:=(aD _).1 ((aB HC.out).2.2.2.1 (show aH 4/4%2=1 by decide));obtain ⟨b,rfl⟩:∃ b:Nat,xb=b:=⟨xb.toNat,by omega⟩;have hb12:b<12:=by omega
 clear hb;have HE:=Hz (show W.do ⟨4,r,a,b,xi,xn⟩=W.bO r 1 ([a,b].map fun (k:Nat)=>(k:Int)) by rw [bE HC.out];rfl);have ka:=(Kz w1).alloc (.cells #[.int .i64 a, .int .i64 b] 3);have hbl:ah (w1.alloc (.cells #[.int .i64 a, .int .i64 b] 3)) w1.heap.size [.int .i64 a, .int .i64 b] 3:=ah.newAt _ rfl rfl;have hmk:=i7 r 1 [a,b] (some ⟨w1.heap.size,0,none⟩) 2 (H1.out.same ka) hT hr12 (by intro k hk;simp at hk;omega) (show aW 1 2=true by decide) ⟨rfl, .inr ⟨w1.heap.size,0,2,_,rfl,hbl,by simp,by decide,by simp,rfl⟩⟩;have HMK:=Hz hmk;have HKA:=Hz ka;have pl:=H1.out.hp.lt;clear ka hbl hmk;go_wp2_with fail;refine HMK.out.mono ?_;rintro e w3 ⟨rfl,ht⟩;have TO:=Hz (aC.aN (K1.out.trans HKA.out) ht);clear ht s0 s1 s2 s3 s4 s5 sl pl;go_wp2_with fail;go_ret;exact ⟨by rw [HE.out];rfl,by rw [HE.out];exact TO.out⟩
theorem pJ (xr xa xb xi xn:Int) (H:aK w h W) (hT:W.T.length≤90000) :
  Calls Try.prog 60 #[.pointer (some ⟨h.p,0,none⟩), .agg #[.int .i64 6, .int .i64 xr, .int .i64 xa, .int .i64 xb, .int .i64 xi, .int .i64 xn]] w fun e w'=>e=.returned (.int .i64 (W.do ⟨6,xr,xa,xb,xi,xn⟩).1)∧aC w h w' (W.do ⟨6,xr,xa,xb,xi,xn⟩).2:=by
 have HH:=Hz H;have hb1:ah (w.alloc (.cells #[.int .i64 6, .int .i64 xr, .int .i64 xa, .int .i64 xb, .int .i64 xi, .int .i64 xn] 98)) w.heap.size [.int .i64 6, .int .i64 xr, .int .i64 xa, .int .i64 xb, .int .i64 xi, .int .i64 xn] 98:=ah.newAt _ rfl rfl;have HB:=Hz hb1;have KA:=Hz ((Kz w).alloc (.cells #[.int .i64 6, .int .i64 xr, .int .i64 xa, .int .i64 xb, .int .i64 xi, .int .i64 xn] 98));have s0:=hb1.cell 0;have s1:=hb1.cell 1;have s2:=hb1.cell 2;have s3:=hb1.cell 3;have s4:=hb1.cell 4;have s5:=hb1.cell 5;simp only [Lz,Ls] at s0 s1 s2 s3 s4 s5;have HSF:=Hz (fun w=>bh ⟨6,xr,xa,xb,xi,xn⟩ w);obtain ⟨c,hc⟩:∃ c,aP ⟨6,xr,xa,xb,xi,xn⟩=c:=⟨_,rfl⟩;rw [hc] at HSF;have HC:=Hz hc;clear H hb1 hc;go_enter Try.func60,Try.ntmps60;go_wp2_with (refine aT rfl 98 (.tmp 3) rfl [.int .i64 6, .int .i64 xr, .int .i64 xa, .int .i64 xb, .int .i64 xi, .int .i64 xn] (by kernel_rfl) w.heap.size 0 rfl (ab s0 (ab s1 (ab s2 (ab s3 (ab s4 (ab s5 aO)))))) ?_);refine (HSF.out _).mono ?_;rintro e w1 ⟨rfl,hk⟩;have H1:=Hz ((HH.out.same KA.out).same hk);have K1:=Hz (KA.out.trans hk);have B1:=Hz (hk.ai HB.out (fun h=>h));clear hk s0 s1 s2 s3 s4 s5 HSF KA HB;generalize w.heap.size=sb at *;have s0:=B1.out.cell 0;have s1:=B1.out.cell 1;have s2:=B1.out.cell 2;have s3:=B1.out.cell 3;have s4:=B1.out.cell 4;have s5:=B1.out.cell 5;have sl:=B1.out.lt;simp only [Lz,Ls] at s0 s1 s2 s3 s4 s5;by_cases h0:¬ c=0
 ·have HE:=Hz (cW (W:=W) HC.out h0);have hd:(c != 0)=true:=by simpa using h0
  clear h0;go_wp2_with fail;go_ret;exact ⟨by rw [HE.out];rfl,by rw [HE.out];exact aC.same HH.out K1.out⟩
 have h0:c=0:=Classical.not_not.1 h0;subst h0;have hr:0≤xr∧xr<12:=(aD _).1 ((aB HC.out).2.1 (show aH 6%2=1 by decide));obtain ⟨r,rfl⟩:∃ r:Nat,xr=r:=⟨xr.toNat,by omega⟩;have hr12:r<12:=by omega
 clear hr;have ha:0≤xa∧xa<12:=(aD _).1 ((aB HC.out).2.2.1 (show aH 6/2%2=1 by decide));obtain ⟨a,rfl⟩:∃ a:Nat,xa=a:=⟨xa.toNat,by omega⟩;have ha12:a<12:=by omega
 clear ha;have hb:0≤xb∧xb<12:=(aD _).1 ((aB HC.out).2.2.2.1 (show aH 6/4%2=1 by decide));obtain ⟨b,rfl⟩:∃ b:Nat,xb=b:=⟨xb.toNat,by omega⟩;have hb12:b<12:=by omega
 clear hb;have HE:=Hz (show W.do ⟨6,r,a,b,xi,xn⟩=W.bO r 3 ([a,b].map fun (k:Nat)=>(k:Int)) by rw [bE HC.out];rfl);have ka:=(Kz w1).alloc (.cells #[.int .i64 a, .int .i64 b] 3);have hbl:ah (w1.alloc (.cells #[.int .i64 a, .int .i64 b] 3)) w1.heap.size [.int .i64 a, .int .i64 b] 3:=ah.newAt _ rfl rfl;have hmk:=i7 r 3 [a,b] (some ⟨w1.heap.size,0,none⟩) 2 (H1.out.same ka) hT hr12 (by intro k hk;simp at hk;omega) (show aW 3 2=true by decide) ⟨rfl, .inr ⟨w1.heap.size,0,2,_,rfl,hbl,by simp,by decide,by simp,rfl⟩⟩;have HMK:=Hz hmk;have HKA:=Hz ka;have pl:=H1.out.hp.lt;clear ka hbl hmk;go_wp2_with fail;refine HMK.out.mono ?_;rintro e w3 ⟨rfl,ht⟩;have TO:=Hz (aC.aN (K1.out.trans HKA.out) ht);clear ht s0 s1 s2 s3 s4 s5 sl pl;go_wp2_with fail;go_ret;exact ⟨by rw [HE.out];rfl,by rw [HE.out];exact TO.out⟩
theorem oz (xr xa xb xi xn:Int) (H:aK w h W) (hT:W.T.length≤90000) :
  Calls Try.prog 60 #[.pointer (some ⟨h.p,0,none⟩), .agg #[.int .i64 7, .int .i64 xr, .int .i64 xa, .int .i64 xb, .int .i64 xi, .int .i64 xn]] w fun e w'=>e=.returned (.int .i64 (W.do ⟨7,xr,xa,xb,xi,xn⟩).1)∧aC w h w' (W.do ⟨7,xr,xa,xb,xi,xn⟩).2:=by
 have HH:=Hz H;have hb1:ah (w.alloc (.cells #[.int .i64 7, .int .i64 xr, .int .i64 xa, .int .i64 xb, .int .i64 xi, .int .i64 xn] 98)) w.heap.size [.int .i64 7, .int .i64 xr, .int .i64 xa, .int .i64 xb, .int .i64 xi, .int .i64 xn] 98:=ah.newAt _ rfl rfl;have HB:=Hz hb1;have KA:=Hz ((Kz w).alloc (.cells #[.int .i64 7, .int .i64 xr, .int .i64 xa, .int .i64 xb, .int .i64 xi, .int .i64 xn] 98));have s0:=hb1.cell 0;have s1:=hb1.cell 1;have s2:=hb1.cell 2;have s3:=hb1.cell 3;have s4:=hb1.cell 4;have s5:=hb1.cell 5;simp only [Lz,Ls] at s0 s1 s2 s3 s4 s5;have HSF:=Hz (fun w=>bh ⟨7,xr,xa,xb,xi,xn⟩ w);obtain ⟨c,hc⟩:∃ c,aP ⟨7,xr,xa,xb,xi,xn⟩=c:=⟨_,rfl⟩;rw [hc] at HSF;have HC:=Hz hc;clear H hb1 hc;go_enter Try.func60,Try.ntmps60;go_wp2_with (refine aT rfl 98 (.tmp 3) rfl [.int .i64 7, .int .i64 xr, .int .i64 xa, .int .i64 xb, .int .i64 xi, .int .i64 xn] (by kernel_rfl) w.heap.size 0 rfl (ab s0 (ab s1 (ab s2 (ab s3 (ab s4 (ab s5 aO)))))) ?_);refine (HSF.out _).mono ?_;rintro e w1 ⟨rfl,hk⟩;have H1:=Hz ((HH.out.same KA.out).same hk);have K1:=Hz (KA.out.trans hk);have B1:=Hz (hk.ai HB.out (fun h=>h));clear hk s0 s1 s2 s3 s4 s5 HSF KA HB;generalize w.heap.size=sb at *;have s0:=B1.out.cell 0;have s1:=B1.out.cell 1;have s2:=B1.out.cell 2;have s3:=B1.out.cell 3;have s4:=B1.out.cell 4;have s5:=B1.out.cell 5;have sl:=B1.out.lt;simp only [Lz,Ls] at s0 s1 s2 s3 s4 s5;by_cases h0:¬ c=0
 ·have HE:=Hz (cW (W:=W) HC.out h0);have hd:(c != 0)=true:=by simpa using h0
  clear h0;go_wp2_with fail;go_ret;exact ⟨by rw [HE.out];rfl,by rw [HE.out];exact aC.same HH.out K1.out⟩
 have h0:c=0:=Classical.not_not.1 h0;subst h0;have hr:0≤xr∧xr<12:=(aD _).1 ((aB HC.out).2.1 (show aH 7%2=1 by decide));obtain ⟨r,rfl⟩:∃ r:Nat,xr=r:=⟨xr.toNat,by omega⟩;have hr12:r<12:=by omega
 clear hr;have ha:0≤xa∧xa<12:=(aD _).1 ((aB HC.out).2.2.1 (show aH 7/2%2=1 by decide));obtain ⟨a,rfl⟩:∃ a:Nat,xa=a:=⟨xa.toNat,by omega⟩;have ha12:a<12:=by omega
 clear ha;have hb:0≤xb∧xb<12:=(aD _).1 ((aB HC.out).2.2.2.1 (show aH 7/4%2=1 by decide));obtain ⟨b,rfl⟩:∃ b:Nat,xb=b:=⟨xb.toNat,by omega⟩;have hb12:b<12:=by omega
 clear hb;have HE:=Hz (show W.do ⟨7,r,a,b,xi,xn⟩=W.bO r 4 ([a,b].map fun (k:Nat)=>(k:Int)) by rw [bE HC.out];rfl);have ka:=(Kz w1).alloc (.cells #[.int .i64 a, .int .i64 b] 3);have hbl:ah (w1.alloc (.cells #[.int .i64 a, .int .i64 b] 3)) w1.heap.size [.int .i64 a, .int .i64 b] 3:=ah.newAt _ rfl rfl;have hmk:=i7 r 4 [a,b] (some ⟨w1.heap.size,0,none⟩) 2 (H1.out.same ka) hT hr12 (by intro k hk;simp at hk;omega) (show aW 4 2=true by decide) ⟨rfl, .inr ⟨w1.heap.size,0,2,_,rfl,hbl,by simp,by decide,by simp,rfl⟩⟩;have HMK:=Hz hmk;have HKA:=Hz ka;have pl:=H1.out.hp.lt;clear ka hbl hmk;go_wp2_with fail;refine HMK.out.mono ?_;rintro e w3 ⟨rfl,ht⟩;have TO:=Hz (aC.aN (K1.out.trans HKA.out) ht);clear ht s0 s1 s2 s3 s4 s5 sl pl;go_wp2_with fail;go_ret;exact ⟨by rw [HE.out];rfl,by rw [HE.out];exact TO.out⟩
theorem oA (xr xa xb xi xn:Int) (H:aK w h W) (hT:W.T.length≤90000) :
  Calls Try.prog 60 #[.pointer (some ⟨h.p,0,none⟩), .agg #[.int .i64 8, .int .i64 xr, .int .i64 xa, .int .i64 xb, .int .i64 xi, .int .i64 xn]] w fun e w'=>e=.returned (.int .i64 (W.do ⟨8,xr,xa,xb,xi,xn⟩).1)∧aC w h w' (W.do ⟨8,xr,xa,xb,xi,xn⟩).2:=by
 have HH:=Hz H;have hb1:ah (w.alloc (.cells #[.int .i64 8, .int .i64 xr, .int .i64 xa, .int .i64 xb, .int .i64 xi, .int .i64 xn] 98)) w.heap.size [.int .i64 8, .int .i64 xr, .int .i64 xa, .int .i64 xb, .int .i64 xi, .int .i64 xn] 98:=ah.newAt _ rfl rfl;have HB:=Hz hb1;have KA:=Hz ((Kz w).alloc (.cells #[.int .i64 8, .int .i64 xr, .int .i64 xa, .int .i64 xb, .int .i64 xi, .int .i64 xn] 98));have s0:=hb1.cell 0;have s1:=hb1.cell 1;have s2:=hb1.cell 2;have s3:=hb1.cell 3;have s4:=hb1.cell 4;have s5:=hb1.cell 5;simp only [Lz,Ls] at s0 s1 s2 s3 s4 s5;have HSF:=Hz (fun w=>bh ⟨8,xr,xa,xb,xi,xn⟩ w);obtain ⟨c,hc⟩:∃ c,aP ⟨8,xr,xa,xb,xi,xn⟩=c:=⟨_,rfl⟩;rw [hc] at HSF;have HC:=Hz hc;clear H hb1 hc;go_enter Try.func60,Try.ntmps60;go_wp2_with (refine aT rfl 98 (.tmp 3) rfl [.int .i64 8, .int .i64 xr, .int .i64 xa, .int .i64 xb, .int .i64 xi, .int .i64 xn] (by kernel_rfl) w.heap.size 0 rfl (ab s0 (ab s1 (ab s2 (ab s3 (ab s4 (ab s5 aO)))))) ?_);refine (HSF.out _).mono ?_;rintro e w1 ⟨rfl,hk⟩;have H1:=Hz ((HH.out.same KA.out).same hk);have K1:=Hz (KA.out.trans hk);have B1:=Hz (hk.ai HB.out (fun h=>h));clear hk s0 s1 s2 s3 s4 s5 HSF KA HB;generalize w.heap.size=sb at *;have s0:=B1.out.cell 0;have s1:=B1.out.cell 1;have s2:=B1.out.cell 2;have s3:=B1.out.cell 3;have s4:=B1.out.cell 4;have s5:=B1.out.cell 5;have sl:=B1.out.lt;simp only [Lz,Ls] at s0 s1 s2 s3 s4 s5;by_cases h0:¬ c=0
 ·have HE:=Hz (cW (W:=W) HC.out h0);have hd:(c != 0)=true:=by simpa using h0
  clear h0;go_wp2_with fail;go_ret;exact ⟨by rw [HE.out];rfl,by rw [HE.out];exact aC.same HH.out K1.out⟩
 have h0:c=0:=Classical.not_not.1 h0;subst h0;have hr:0≤xr∧xr<12:=(aD _).1 ((aB HC.out).2.1 (show aH 8%2=1 by decide));obtain ⟨r,rfl⟩:∃ r:Nat,xr=r:=⟨xr.toNat,by omega⟩;have hr12:r<12:=by omega
 clear hr;have HE:=Hz (show W.do ⟨8,r,xa,xb,xi,xn⟩=W.bO r 5 (([]:List Nat).map fun (k:Nat)=>(k:Int)) by rw [bE HC.out];rfl);have HMK:=Hz (i7 r 5 [] none 0 H1.out hT hr12 (by intro k hk;cases hk) (show aW 5 0=true by decide) (Sl.nil _ _ _));have pl:=H1.out.hp.lt;go_wp2_with fail;refine HMK.out.mono ?_;rintro e w3 ⟨rfl,ht⟩;have TO:=Hz (aC.aN K1.out ht);clear ht s0 s1 s2 s3 s4 s5 sl pl;go_wp2_with fail;go_ret;exact ⟨by rw [HE.out];rfl,by rw [HE.out];exact TO.out⟩
theorem qE (xr xa xb xi xn:Int) (H:aK w h W) (hT:W.T.length≤90000) :
  Calls Try.prog 60 #[.pointer (some ⟨h.p,0,none⟩), .agg #[.int .i64 5, .int .i64 xr, .int .i64 xa, .int .i64 xb, .int .i64 xi, .int .i64 xn]] w fun e w'=>e=.returned (.int .i64 (W.do ⟨5,xr,xa,xb,xi,xn⟩).1)∧aC w h w' (W.do ⟨5,xr,xa,xb,xi,xn⟩).2:=by
 obtain ⟨i0,hi,hz0,hz1,hz2⟩:=info_parts fX;have Hi:=Hz hi;have Hz0:=Hz hz0;have Hz1:=Hz hz1;have Hz2:=Hz hz2;clear hi hz0 hz1 hz2;have HH:=Hz H;have hb1:ah (w.alloc (.cells #[.int .i64 5, .int .i64 xr, .int .i64 xa, .int .i64 xb, .int .i64 xi, .int .i64 xn] 98)) w.heap.size [.int .i64 5, .int .i64 xr, .int .i64 xa, .int .i64 xb, .int .i64 xi, .int .i64 xn] 98:=ah.newAt _ rfl rfl;have HB:=Hz hb1;have KA:=Hz ((Kz w).alloc (.cells #[.int .i64 5, .int .i64 xr, .int .i64 xa, .int .i64 xb, .int .i64 xi, .int .i64 xn] 98));have s0:=hb1.cell 0;have s1:=hb1.cell 1;have s2:=hb1.cell 2;have s3:=hb1.cell 3;have s4:=hb1.cell 4;have s5:=hb1.cell 5;simp only [Lz,Ls] at s0 s1 s2 s3 s4 s5;have HSF:=Hz (fun w=>bh ⟨5,xr,xa,xb,xi,xn⟩ w);obtain ⟨c,hc⟩:∃ c,aP ⟨5,xr,xa,xb,xi,xn⟩=c:=⟨_,rfl⟩;rw [hc] at HSF;have HC:=Hz hc;clear H hb1 hc;go_enter Try.func60,Try.ntmps60;go_wp2_with (refine aT rfl 98 (.tmp 3) rfl [.int .i64 5, .int .i64 xr, .int .i64 xa, .int .i64 xb, .int .i64 xi, .int .i64 xn] (by kernel_rfl) w.heap.size 0 rfl (ab s0 (ab s1 (ab s2 (ab s3 (ab s4 (ab s5 aO)))))) ?_);refine (HSF.out _).mono ?_;rintro e w1 ⟨rfl,hk⟩;have H1:=Hz ((HH.out.same KA.out).same hk);have K1:=Hz (KA.out.trans hk);have B1:=Hz (hk.ai HB.out (fun h=>h));clear hk s0 s1 s2 s3 s4 s5 HSF KA HB;generalize w.heap.size=sb at *;have s0:=B1.out.cell 0;have s1:=B1.out.cell 1;have s2:=B1.out.cell 2;have s3:=B1.out.cell 3;have s4:=B1.out.cell 4;have s5:=B1.out.cell 5;have sl:=B1.out.lt;simp only [Lz,Ls] at s0 s1 s2 s3 s4 s5;by_cases h0:¬ c=0
 ·have HE:=Hz (cW (W:=W) HC.out h0);have hd:(c != 0)=true:=by simpa using h0
  clear h0;go_wp2_with fail;go_ret;exact ⟨by rw [HE.out];rfl,by rw [HE.out];exact aC.same HH.out K1.out⟩
 have h0:c=0:=Classical.not_not.1 h0;subst h0;have hr:0≤xr∧xr<12:=(aD _).1 ((aB HC.out).2.1 (show aH 5%2=1 by decide));obtain ⟨r,rfl⟩:∃ r:Nat,xr=r:=⟨xr.toNat,by omega⟩;have hr12:r<12:=by omega
 clear hr;have ha:0≤xa∧xa<12:=(aD _).1 ((aB HC.out).2.2.1 (show aH 5/2%2=1 by decide));obtain ⟨a,rfl⟩:∃ a:Nat,xa=a:=⟨xa.toNat,by omega⟩;have ha12:a<12:=by omega
 clear ha;have hn:0≤xn∧xn≤12:=(aB HC.out).2.2.2.2.2 rfl;obtain ⟨n,rfl⟩:∃ n:Nat,xn=n:=⟨xn.toNat,by omega⟩;have HE:=Hz (show W.do ⟨5,r,a,xb,xi,n⟩=W.bO r 2 (List.replicate n (a:Int)) by rw [bE HC.out];rfl);go_wp2_with fail;go_loopw [7,8] (fun v q wr=>∃ (ao:Option Addr) (cap k:Nat),v=.slice ao k cap∧k≤n∧q=.int .i64 k∧Sl wr 3 1 (.slice ao k cap) k (List.replicate k (Value.int .i64 (a:Int)))∧aa (fun _=>False) w1 wr∧∀ b,ag (.slice ao k cap) b→w1.heap.size≤b) (fun _ q _=>n-(intOf q).toNat)
 case atStart=>exact ⟨none,0,0,rfl,Nat.zero_le _,rfl,Sl.nil _ _ _,aa.refl _ _,fun k hk=>(bJ hk).elim⟩
 case round=>
  obtain ⟨ao,cap,k,rfl,hk,rfl,hs,hK,ho⟩:=hrel;have SR:=Hz hs;have KR:=Hz hK;have HO:=Hz ho;have SBR:=Hz (hK.ai B1.out (fun h=>h));clear hs hK ho s0 s1 s2 s3 s4 s5 sl;have s1:=SBR.out.cell 1;have s2:=SBR.out.cell 2;have s5:=SBR.out.cell 5;have sl:=SBR.out.lt;simp only [Lz,Ls] at s1 s2 s5;by_cases hlt:k<n
  ·have hki:(k:Int)<n:=by omega
   go_wp2_with (at_builtin;refine bD rfl (.tmp 109) (.tmp 112) 50 rfl 3 i0 (.int .i64 0) 1 8 Try.underlying50 Hi.out Hz0.out Hz1.out Hz2.out rfl (by decide) _ k _ rfl (SR.out.ae ((Kz wr).alloc _) (fun _ _ h=>h)) ⟨wr.heap.size,0,none⟩ 1 1 [.int .i64 a] rfl rfl (bq wr 3 #[.int .i64 a]) (by intro u hu;simp at hu;subst hu;rfl) (by unfold maxLen;omega) (by omega) ?_);intro v5 w5 hs5 hk5 ho5;have K5:=Hz ((KR.out.alloc (.cells #[.int .i64 a] 3)).then hk5 (fun b hb=>.inr (HO.out b hb)));have O5:=Hz (show ∀ b,ag v5 b→w1.heap.size≤b from fun b hb=>by
    rcases ho5 b hb with h1 | h1
    ·exact HO.out b h1
    ·have:=KR.out.size;omega)
   have S5:=Hz (show Sl w5 3 1 v5 (k+1) (List.replicate (k+1) (Value.int .i64 (a:Int))) by
    have e:List.replicate (k+1) (Value.int .i64 (a:Int))=List.replicate k (Value.int .i64 (a:Int)) ++ [Value.int .i64 (a:Int)]:=List.replicate_succ'
    rw [e];exact hs5)
   obtain ⟨ao5,cap5,e5,-,-,-⟩:=S5.out.rd;subst e5;clear hs5 hk5 ho5 s1 s2 s5 sl;go_wp2_with fail;go_roundw
   case rel=>exact ⟨ao5,cap5,k+1,rfl,hlt,by go_num,S5.out,K5.out,O5.out⟩
   case measure=>simp [intOf];omega
  ·obtain rfl:k=n:=by omega
   have H2:=Hz (H1.out.same KR.out);have hrl:(List.replicate k a).length=k:=List.length_replicate;have hmk:=i7 r 2 (List.replicate k a) ao cap H2.out hT hr12 (fun j hj=>by rw [(List.mem_replicate.1 hj).2];exact ha12) (by rw [hrl];simp [aW];omega) (by rw [hrl,List.map_replicate];exact SR.out);rw [hrl] at hmk;simp only [List.map_replicate] at hmk;have HMK:=Hz hmk;have pl:=H2.out.hp.lt;clear hmk hrl hn;go_wp2_with fail;refine HMK.out.mono ?_;rintro e w6 ⟨rfl,ht⟩;have TO:=Hz (aC.aN (K1.out.trans KR.out) ht);clear ht s1 s2 s5 sl pl;go_wp2_with fail;go_ret;exact ⟨by rw [HE.out];rfl,by rw [HE.out];exact TO.out⟩
theorem qF (xr xa xb xi xn:Int) (H:aK w h W) :
  Calls Try.prog 60 #[.pointer (some ⟨h.p,0,none⟩), .agg #[.int .i64 13, .int .i64 xr, .int .i64 xa, .int .i64 xb, .int .i64 xi, .int .i64 xn]] w fun e w'=>e=.returned (.int .i64 (W.do ⟨13,xr,xa,xb,xi,xn⟩).1)∧aC w h w' (W.do ⟨13,xr,xa,xb,xi,xn⟩).2:=by
 have HH:=Hz H;have hb1:ah (w.alloc (.cells #[.int .i64 13, .int .i64 xr, .int .i64 xa, .int .i64 xb, .int .i64 xi, .int .i64 xn] 98)) w.heap.size [.int .i64 13, .int .i64 xr, .int .i64 xa, .int .i64 xb, .int .i64 xi, .int .i64 xn] 98:=ah.newAt _ rfl rfl;have HB:=Hz hb1;have KA:=Hz ((Kz w).alloc (.cells #[.int .i64 13, .int .i64 xr, .int .i64 xa, .int .i64 xb, .int .i64 xi, .int .i64 xn] 98));have s0:=hb1.cell 0;have s1:=hb1.cell 1;have s2:=hb1.cell 2;have s3:=hb1.cell 3;have s4:=hb1.cell 4;have s5:=hb1.cell 5;simp only [Lz,Ls] at s0 s1 s2 s3 s4 s5;have HSF:=Hz (fun w=>bh ⟨13,xr,xa,xb,xi,xn⟩ w);obtain ⟨c,hc⟩:∃ c,aP ⟨13,xr,xa,xb,xi,xn⟩=c:=⟨_,rfl⟩;rw [hc] at HSF;have HC:=Hz hc;clear H hb1 hc;go_enter Try.func60,Try.ntmps60;go_wp2_with (refine aT rfl 98 (.tmp 3) rfl [.int .i64 13, .int .i64 xr, .int .i64 xa, .int .i64 xb, .int .i64 xi, .int .i64 xn] (by kernel_rfl) w.heap.size 0 rfl (ab s0 (ab s1 (ab s2 (ab s3 (ab s4 (ab s5 aO)))))) ?_);refine (HSF.out _).mono ?_;rintro e w1 ⟨rfl,hk⟩;have H1:=Hz ((HH.out.same KA.out).same hk);have K1:=Hz (KA.out.trans hk);have B1:=Hz (hk.ai HB.out (fun h=>h));clear hk s0 s1 s2 s3 s4 s5 HSF KA HB;generalize w.heap.size=sb at *;have s0:=B1.out.cell 0;have s1:=B1.out.cell 1;have s2:=B1.out.cell 2;have s3:=B1.out.cell 3;have s4:=B1.out.cell 4;have s5:=B1.out.cell 5;have sl:=B1.out.lt;simp only [Lz,Ls] at s0 s1 s2 s3 s4 s5;by_cases h0:¬ c=0
 ·have HE:=Hz (cW (W:=W) HC.out h0);have hd:(c != 0)=true:=by simpa using h0
  clear h0;go_wp2_with fail;go_ret;exact ⟨by rw [HE.out];rfl,by rw [HE.out];exact aC.same HH.out K1.out⟩
 have h0:c=0:=Classical.not_not.1 h0;subst h0;have ha:0≤xa∧xa<12:=(aD _).1 ((aB HC.out).2.2.1 (show aH 13/2%2=1 by decide));obtain ⟨a,rfl⟩:∃ a:Nat,xa=a:=⟨xa.toNat,by omega⟩;have ha12:a<12:=by omega
 clear ha;have hth:=gz a ha12 H1.out;have htl:=Wd.bI (W:=W) (k:=(a:Int)) H1.out.ok;obtain ⟨ti,hti⟩:∃ ti,W.aw (a:Int)=ti:=⟨_,rfl⟩;rw [hti] at hth htl;have HTI:=Hz hti;have HTH:=Hz hth;have HTL:=Hz (fun (hn:0≤ti)=>htl (by omega));clear hti hth htl;have pl:=H1.out.hp.lt;go_wp2_with fail;refine HTH.out.mono ?_;rintro e w2 ⟨rfl,hk⟩;have H2:=Hz (H1.out.same hk);have K2:=Hz (K1.out.trans hk);have B2:=Hz (hk.ai B1.out (fun h=>h));clear hk s0 s1 s2 s3 s4 s5 sl pl HTH B1 H1 K1;have s0:=B2.out.cell 0;have s1:=B2.out.cell 1;have s2:=B2.out.cell 2;have s3:=B2.out.cell 3;have s4:=B2.out.cell 4;have sl:=B2.out.lt;have pl:=H2.out.hp.lt;simp only [Lz,Ls] at s0 s1 s2 s3 s4;by_cases hi:ti<0
 ·have hd:decide (ti<0)=true:=by simpa using hi
  have HE:=Hz (show W.do ⟨13,xr,a,xb,xi,xn⟩=(2,W) by rw [bE HC.out];show Wd.len _ _=_;unfold Wd.len;dsimp only;rw [HTI.out,if_pos (.inl hi)]);clear hi;go_wp2_with fail;go_ret;exact ⟨by rw [HE.out];rfl,by rw [HE.out];exact aC.same HH.out K2.out⟩
 have hd:decide (ti<0)=false:=by simpa using hi
 have HLV:=Hz (HTL.out (by omega));obtain ⟨m,rfl,g0,o0,nc,ao,fc,etv,hm,hg0,t0,t1,hrd,hog⟩:=H2.out.nth HLV.out;obtain ⟨c0,-,-,-,-,-⟩:=H2.out.cells;rw [etv] at c0;have HRD:=Hz hrd;have HOG:=Hz hog;have ETV:=Hz etv;have HTI2:=Hz (show W.aw (a:Int)=(m:Int) from HTI.out);have HFB:=Hz (Wd.iy H2.out.ok HLV.out);clear hi HTL hrd hog etv HTI;by_cases h5:(W.th m).k=5
 ·have HE:=Hz (show W.do ⟨13,xr,a,xb,xi,xn⟩=(2,W) by rw [bE HC.out];show Wd.len _ _=_;unfold Wd.len;dsimp only;rw [HTI2.out,if_pos (.inr h5)]);rw [h5] at t0;clear h5;go_wp2_with fail;go_ret;exact ⟨by rw [HE.out];rfl,by rw [HE.out];exact aC.same HH.out K2.out⟩
 have hb5:((W.th m).k == 5)=false:=by simpa using h5
 have hr:0≤xr∧xr<12:=(aD _).1 ((aB HC.out).2.1 (show aH 13%2=1 by decide));obtain ⟨r,rfl⟩:∃ r:Nat,xr=r:=⟨xr.toNat,by omega⟩;have hr12:r<12:=by omega
 clear hr;obtain ⟨g,o,rc,erv,hg,-,-⟩:=H2.out.root hr12;have hrl:W.roots.length=12:=H2.out.ok.hr;obtain ⟨-,c1,-,-,-,-⟩:=H2.out.cells;have hrs:=H2.out.hr;rw [erv,hrl] at c1 hrs;have RS:=Hz hrs;have ERV:=Hz erv;have HRL:=Hz hrl;have h12:(r:Int)<12:=by omega
 clear erv hrl hrs;have hfl:=HFB.out;have HFL:=Hz (show W.do ⟨13,r,a,xb,xi,xn⟩=(0,W.bj r (1,(W.th m).fs.length)) by rw [bE HC.out];show Wd.len _ _=_;unfold Wd.len;dsimp only;rw [HTI2.out,if_neg (fun e=>by rcases e with e | e;omega;exact h5 e)]);obtain ⟨n,hn⟩:∃ n,(W.th m).fs.length=n:=⟨_,rfl⟩;rw [hn] at HFL t1 hfl;have HE:=Hz HFL.out;have HV:=Hz (show W.cO (1,(n:Int)) from .inr (.inl ⟨rfl,by unfold cL;omega⟩));clear h5 hn HFB HFL;generalize (W.th m).k=q at *;go_wp2_with fail;refine aq (.free 0 (.free 1 (.free 2 (.free 4 (.free 6 (.free 7 (.pure 3 (.pure 5 (.run 8 (.free 9 (.run 10 (.swi [] (.fin))))))))))))) [10] (fun w'=>w'.cell? ⟨h.p,1,none⟩=some (.slice (some ⟨g,o,none⟩) 12 rc)∧w'.cell? ⟨sb,1,none⟩=some (.int .i64 r)) (by kernel_rfl) (by kernel_rfl) ⟨c1,s1⟩ ?_
 iterate 8 ((first | refine ak rfl rfl fun K hK=>?_ | refine aj rfl rfl fun K hK=>?_ | refine ay rfl rfl fun K hK=>?_ | refine av rfl rfl fun K hK=>?_ | refine ax rfl rfl fun K hK=>?_);go_simp;refine hK _ ?_;clear hK K)
 refine aZ rfl rfl (fun K hK=>?_);unfold aM;go_simp;refine (gK n _).mono ?_;rintro e wq ⟨rfl,hkq⟩;have kq:=(Kz w2).drew.trans hkq;have HQ:=Hz (H2.out.same kq);have BQ:=Hz (kq.ai B2.out (fun h=>h));have KQ:=Hz (K2.out.trans kq);have RQ:=Hz (RS.out.ae kq (fun _ _ h=>h));have xc1:wq.cell? ⟨h.p,1,none⟩=some (.slice (some ⟨g,o,none⟩) 12 rc):=(World.cell?_of_block (w:=w2) (a:=⟨h.p,1,none⟩) (kq.block _ H2.out.hp.lt (fun h=>h))).trans c1;have xs1:=BQ.out.cell 1;simp only [Lz,Ls] at xs1;refine hK _ _ (fun _=>⟨xc1,xs1⟩) ?_;clear hK K hkq kq xc1 xs1
 iterate 1 ((first | refine ak rfl rfl fun K hK=>?_ | refine aj rfl rfl fun K hK=>?_);go_simp;refine hK _ ?_;clear hK K)
 refine aG rfl rfl rfl (fun K hK=>?_);refine aS 78 (.tmp 267) (.tmp 266) rfl rfl g o 12 rc r (au W.roots) 78 (.int .i64 (1)) (.int .i64 (n)) rfl rfl RQ.out hr12 (by kernel_rfl) rfl rfl ?_;intro w3 hs3 hk3 hz3;refine hK _ _ ?_;clear hK K;refine aE (fun _=>True) trivial (aA ?_);have TO:=Hz (aC.aN KQ.out (HQ.out.dh (w':=w3) (by rw [ERV.out]) hr12 HV.out (by rw [HRL.out];exact hs3) hk3));clear hs3 hk3 hz3;clear c1 s1 c0 s0 s2 s3 s4 sl t0 t1;go_wp2_with fail;go_ret;exact ⟨by rw [HE.out];rfl,by rw [HE.out];exact TO.out⟩
theorem qG {a b:Nat} (h:W.rt (a:Int)=W.rt (b:Int)) (r:Nat) (xi xn:Int) (hc:aP ⟨14,r,a,b,xi,xn⟩=0):W.do ⟨14,r,a,b,xi,xn⟩=(0,W.bj r (1,1)):=by rw [bE hc];show Wd.same _ _=_;unfold Wd.same;dsimp only;rw [if_pos h]
theorem rZ {a b:Nat} (h:¬ W.rt (a:Int)=W.rt (b:Int)) (r:Nat) (xi xn:Int) (hc:aP ⟨14,r,a,b,xi,xn⟩=0):W.do ⟨14,r,a,b,xi,xn⟩=(0,W.bj r (1,0)):=by rw [bE hc];show Wd.same _ _=_;unfold Wd.same;dsimp only;rw [if_neg h]
theorem pK (xr xa xb xi xn:Int) (H:aK w h W) :
  Calls Try.prog 60 #[.pointer (some ⟨h.p,0,none⟩), .agg #[.int .i64 14, .int .i64 xr, .int .i64 xa, .int .i64 xb, .int .i64 xi, .int .i64 xn]] w fun e w'=>e=.returned (.int .i64 (W.do ⟨14,xr,xa,xb,xi,xn⟩).1)∧aC w h w' (W.do ⟨14,xr,xa,xb,xi,xn⟩).2:=by
 have HH:=Hz H;have hb1:ah (w.alloc (.cells #[.int .i64 14, .int .i64 xr, .int .i64 xa, .int .i64 xb, .int .i64 xi, .int .i64 xn] 98)) w.heap.size [.int .i64 14, .int .i64 xr, .int .i64 xa, .int .i64 xb, .int .i64 xi, .int .i64 xn] 98:=ah.newAt _ rfl rfl;have HB:=Hz hb1;have KA:=Hz ((Kz w).alloc (.cells #[.int .i64 14, .int .i64 xr, .int .i64 xa, .int .i64 xb, .int .i64 xi, .int .i64 xn] 98));have s0:=hb1.cell 0;have s1:=hb1.cell 1;have s2:=hb1.cell 2;have s3:=hb1.cell 3;have s4:=hb1.cell 4;have s5:=hb1.cell 5;simp only [Lz,Ls] at s0 s1 s2 s3 s4 s5;have HSF:=Hz (fun w=>bh ⟨14,xr,xa,xb,xi,xn⟩ w);obtain ⟨c,hc⟩:∃ c,aP ⟨14,xr,xa,xb,xi,xn⟩=c:=⟨_,rfl⟩;rw [hc] at HSF;have HC:=Hz hc;clear H hb1 hc;go_enter Try.func60,Try.ntmps60;go_wp2_with (refine aT rfl 98 (.tmp 3) rfl [.int .i64 14, .int .i64 xr, .int .i64 xa, .int .i64 xb, .int .i64 xi, .int .i64 xn] (by kernel_rfl) w.heap.size 0 rfl (ab s0 (ab s1 (ab s2 (ab s3 (ab s4 (ab s5 aO)))))) ?_);refine (HSF.out _).mono ?_;rintro e w1 ⟨rfl,hk⟩;have H1:=Hz ((HH.out.same KA.out).same hk);have K1:=Hz (KA.out.trans hk);have B1:=Hz (hk.ai HB.out (fun h=>h));clear hk s0 s1 s2 s3 s4 s5 HSF KA HB;generalize w.heap.size=sb at *;have s0:=B1.out.cell 0;have s1:=B1.out.cell 1;have s2:=B1.out.cell 2;have s3:=B1.out.cell 3;have s4:=B1.out.cell 4;have s5:=B1.out.cell 5;have sl:=B1.out.lt;simp only [Lz,Ls] at s0 s1 s2 s3 s4 s5;by_cases h0:¬ c=0
 ·have HE:=Hz (cW (W:=W) HC.out h0);have hd:(c != 0)=true:=by simpa using h0
  clear h0;go_wp2_with fail;go_ret;exact ⟨by rw [HE.out];rfl,by rw [HE.out];exact aC.same HH.out K1.out⟩
 have h0:c=0:=Classical.not_not.1 h0;subst h0;have hr:0≤xr∧xr<12:=(aD _).1 ((aB HC.out).2.1 (show aH 14%2=1 by decide));obtain ⟨r,rfl⟩:∃ r:Nat,xr=r:=⟨xr.toNat,by omega⟩;have hr12:r<12:=by omega
 clear hr;have ha:0≤xa∧xa<12:=(aD _).1 ((aB HC.out).2.2.1 (show aH 14/2%2=1 by decide));obtain ⟨a,rfl⟩:∃ a:Nat,xa=a:=⟨xa.toNat,by omega⟩;have ha12:a<12:=by omega
 clear ha;have hb:0≤xb∧xb<12:=(aD _).1 ((aB HC.out).2.2.2.1 (show aH 14/4%2=1 by decide));obtain ⟨b,rfl⟩:∃ b:Nat,xb=b:=⟨xb.toNat,by omega⟩;have hb12:b<12:=by omega
 clear hb;obtain ⟨g,o,rc,erv,hg,-,-⟩:=H1.out.root hr12;have hrl:W.roots.length=12:=H1.out.ok.hr;obtain ⟨-,c1,-,-,-,-⟩:=H1.out.cells;have hrs:=H1.out.hr;rw [erv,hrl] at c1 hrs;have RS:=Hz hrs;have ERV:=Hz erv;have HRL:=Hz hrl;have h12:(r:Int)<12:=by omega
 clear erv hrl hrs;have pl:=H1.out.hp.lt;obtain ⟨g',o',rc',erv',hg',a0,a1⟩:=H1.out.root ha12;rw [ERV.out] at erv';cases erv';obtain ⟨g',o',rc',erv',hg'',b0,b1⟩:=H1.out.root hb12;rw [ERV.out] at erv';cases erv';have ha12i:(a:Int)<12:=by omega
 have hb12i:(b:Int)<12:=by omega
 have HSY:=Hz (fun h=>qG (W:=W) h r xi xn HC.out);have HSN:=Hz (fun h=>rZ (W:=W) h r xi xn HC.out);generalize W.rt (a:Int)=v at *;generalize W.rt (b:Int)=u at *;obtain ⟨v1,v2⟩:=v;obtain ⟨u1,u2⟩:=u;dsimp only at a0 a1 b0 b1;by_cases he:((v1,v2):Vl)=(u1,u2)
 ·have HE:=Hz (HSY.out he);cases he;have HV:=Hz (show W.cO (1,((1:Nat):Int)) from .inr (.inl ⟨rfl,by unfold cL;omega⟩));clear HSY HSN;go_wp2_with fail;refine aq (.free 0 (.free 1 (.free 2 (.free 4 (.free 8 (.free 9 (.free 10 (.free 12 (.pure 3 (.pure 5 (.free 6 (.pure 7 (.pure 11 (.pure 13 (.free 14 (.pure 15 (.free 16 (.fin)))))))))))))))))) [] (fun w'=>w'.cell? ⟨h.p,1,none⟩=some (.slice (some ⟨g,o,none⟩) 12 rc)∧w'.cell? ⟨sb,2,none⟩=some (.int .i64 a)∧w'.cell? ⟨sb,3,none⟩=some (.int .i64 b)∧w'.cell? ⟨g,o+a*2,none⟩=some (.int .i64 v1)∧w'.cell? ⟨g,o+a*2+1,none⟩=some (.int .i64 v2)∧w'.cell? ⟨g,o+b*2,none⟩=some (.int .i64 v1)∧w'.cell? ⟨g,o+b*2+1,none⟩=some (.int .i64 v2)) (by kernel_rfl) (by kernel_rfl) ⟨c1,s2,s3,a0,a1,b0,b1⟩ ?_
  iterate 17 ((first | refine ak rfl rfl fun K hK=>?_ | refine aj rfl rfl fun K hK=>?_ | refine ay rfl rfl fun K hK=>?_ | refine av rfl rfl fun K hK=>?_ | refine ax rfl rfl fun K hK=>?_);go_simp;refine hK _ ?_;clear hK K)
  refine aA ?_;have kd1:=(Kz w1).drew;have H2:=Hz (H1.out.same kd1);have K2:=Hz (K1.out.trans kd1);have B2:=Hz (kd1.ai B1.out (fun h=>h));have RS:=Hz (RS.out.ae kd1 (fun _ _ h=>h));clear kd1 s0 s1 s2 s3 s4 s5 sl H1 K1 B1 c1 pl a0 a1 b0 b1;generalize w1.drew=w2 at *;have s1:=B2.out.cell 1;have sl:=B2.out.lt;have pl:=H2.out.hp.lt;obtain ⟨-,c1,-,-,-,-⟩:=H2.out.cells;rw [ERV.out,HRL.out] at c1;simp only [Lz,Ls] at s1;go_wp2_with fail;refine aq (.free 0 (.free 1 (.free 2 (.free 4 (.free 6 (.free 7 (.pure 3 (.pure 5 (.run 8 (.free 9 (.run 10 (.swi [] (.fin))))))))))))) [10] (fun w'=>w'.cell? ⟨h.p,1,none⟩=some (.slice (some ⟨g,o,none⟩) 12 rc)∧w'.cell? ⟨sb,1,none⟩=some (.int .i64 r)) (by kernel_rfl) (by kernel_rfl) ⟨c1,s1⟩ ?_
  iterate 8 ((first | refine ak rfl rfl fun K hK=>?_ | refine aj rfl rfl fun K hK=>?_ | refine ay rfl rfl fun K hK=>?_ | refine av rfl rfl fun K hK=>?_ | refine ax rfl rfl fun K hK=>?_);go_simp;refine hK _ ?_;clear hK K)
  refine aZ rfl rfl (fun K hK=>?_);unfold aM;go_simp;refine (gK 1 _).mono ?_;rintro e wq ⟨rfl,hkq⟩;have kq:=(Kz w2).drew.trans hkq;have HQ:=Hz (H2.out.same kq);have BQ:=Hz (kq.ai B2.out (fun h=>h));have KQ:=Hz (K2.out.trans kq);have RQ:=Hz (RS.out.ae kq (fun _ _ h=>h));have xc1:wq.cell? ⟨h.p,1,none⟩=some (.slice (some ⟨g,o,none⟩) 12 rc):=(World.cell?_of_block (w:=w2) (a:=⟨h.p,1,none⟩) (kq.block _ H2.out.hp.lt (fun h=>h))).trans c1;have xs1:=BQ.out.cell 1;simp only [Lz,Ls] at xs1;refine hK _ _ (fun _=>⟨xc1,xs1⟩) ?_;clear hK K hkq kq xc1 xs1
  iterate 1 ((first | refine ak rfl rfl fun K hK=>?_ | refine aj rfl rfl fun K hK=>?_);go_simp;refine hK _ ?_;clear hK K)
  refine aG rfl rfl rfl (fun K hK=>?_);refine aS 78 (.tmp 357) (.tmp 356) rfl rfl g o 12 rc r (au W.roots) 78 (.int .i64 (1)) (.int .i64 (1)) rfl rfl RQ.out hr12 (by kernel_rfl) rfl rfl ?_;intro w3 hs3 hk3 hz3;refine hK _ _ ?_;clear hK K;refine aE (fun _=>True) trivial (aA ?_);have TO:=Hz (aC.aN KQ.out (HQ.out.dh (w':=w3) (by rw [ERV.out]) hr12 HV.out (by rw [HRL.out];exact hs3) hk3));clear hs3 hk3 hz3;clear c1 s1 sl;go_wp2_with fail;go_ret;exact ⟨by rw [HE.out];rfl,by rw [HE.out];exact TO.out⟩
 ·have HE:=Hz (HSN.out he);have HV:=Hz (show W.cO (1,((0:Nat):Int)) from .inr (.inl ⟨rfl,by unfold cL;omega⟩));have hne:¬ (v1=u1∧v2=u2):=fun h=>he (by rw [h.1,h.2]);clear he HSY HSN;by_cases h1:v1=u1
  ·have h2:¬ v2=u2:=fun h=>hne ⟨h1,h⟩;subst h1;clear hne;go_wp2_with fail;refine aq (.free 0 (.free 1 (.free 2 (.free 4 (.free 8 (.free 9 (.free 10 (.free 12 (.pure 3 (.pure 5 (.free 6 (.pure 7 (.pure 11 (.pure 13 (.free 14 (.pure 15 (.free 16 (.fin)))))))))))))))))) [] (fun w'=>w'.cell? ⟨h.p,1,none⟩=some (.slice (some ⟨g,o,none⟩) 12 rc)∧w'.cell? ⟨sb,2,none⟩=some (.int .i64 a)∧w'.cell? ⟨sb,3,none⟩=some (.int .i64 b)∧w'.cell? ⟨g,o+a*2,none⟩=some (.int .i64 v1)∧w'.cell? ⟨g,o+a*2+1,none⟩=some (.int .i64 v2)∧w'.cell? ⟨g,o+b*2,none⟩=some (.int .i64 v1)∧w'.cell? ⟨g,o+b*2+1,none⟩=some (.int .i64 u2)) (by kernel_rfl) (by kernel_rfl) ⟨c1,s2,s3,a0,a1,b0,b1⟩ ?_
   iterate 17 ((first | refine ak rfl rfl fun K hK=>?_ | refine aj rfl rfl fun K hK=>?_ | refine ay rfl rfl fun K hK=>?_ | refine av rfl rfl fun K hK=>?_ | refine ax rfl rfl fun K hK=>?_);go_simp;refine hK _ ?_;clear hK K)
   refine aA ?_;have kd1:=(Kz w1).drew;have H2:=Hz (H1.out.same kd1);have K2:=Hz (K1.out.trans kd1);have B2:=Hz (kd1.ai B1.out (fun h=>h));have RS:=Hz (RS.out.ae kd1 (fun _ _ h=>h));clear kd1 s0 s1 s2 s3 s4 s5 sl H1 K1 B1 c1 pl a0 a1 b0 b1;generalize w1.drew=w2 at *;have s1:=B2.out.cell 1;have sl:=B2.out.lt;have pl:=H2.out.hp.lt;obtain ⟨-,c1,-,-,-,-⟩:=H2.out.cells;rw [ERV.out,HRL.out] at c1;simp only [Lz,Ls] at s1;go_wp2_with fail;refine aq (.free 0 (.free 1 (.free 2 (.free 4 (.free 6 (.free 7 (.pure 3 (.pure 5 (.run 8 (.free 9 (.run 10 (.swi [] (.fin))))))))))))) [10] (fun w'=>w'.cell? ⟨h.p,1,none⟩=some (.slice (some ⟨g,o,none⟩) 12 rc)∧w'.cell? ⟨sb,1,none⟩=some (.int .i64 r)) (by kernel_rfl) (by kernel_rfl) ⟨c1,s1⟩ ?_
   iterate 8 ((first | refine ak rfl rfl fun K hK=>?_ | refine aj rfl rfl fun K hK=>?_ | refine ay rfl rfl fun K hK=>?_ | refine av rfl rfl fun K hK=>?_ | refine ax rfl rfl fun K hK=>?_);go_simp;refine hK _ ?_;clear hK K)
   refine aZ rfl rfl (fun K hK=>?_);unfold aM;go_simp;refine (gK 0 _).mono ?_;rintro e wq ⟨rfl,hkq⟩;have kq:=(Kz w2).drew.trans hkq;have HQ:=Hz (H2.out.same kq);have BQ:=Hz (kq.ai B2.out (fun h=>h));have KQ:=Hz (K2.out.trans kq);have RQ:=Hz (RS.out.ae kq (fun _ _ h=>h));have xc1:wq.cell? ⟨h.p,1,none⟩=some (.slice (some ⟨g,o,none⟩) 12 rc):=(World.cell?_of_block (w:=w2) (a:=⟨h.p,1,none⟩) (kq.block _ H2.out.hp.lt (fun h=>h))).trans c1;have xs1:=BQ.out.cell 1;simp only [Lz,Ls] at xs1;refine hK _ _ (fun _=>⟨xc1,xs1⟩) ?_;clear hK K hkq kq xc1 xs1
   iterate 1 ((first | refine ak rfl rfl fun K hK=>?_ | refine aj rfl rfl fun K hK=>?_);go_simp;refine hK _ ?_;clear hK K)
   refine aG rfl rfl rfl (fun K hK=>?_);refine aS 78 (.tmp 357) (.tmp 356) rfl rfl g o 12 rc r (au W.roots) 78 (.int .i64 (1)) (.int .i64 (0)) rfl rfl RQ.out hr12 (by kernel_rfl) rfl rfl ?_;intro w3 hs3 hk3 hz3;refine hK _ _ ?_;clear hK K;refine aE (fun _=>True) trivial (aA ?_);have TO:=Hz (aC.aN KQ.out (HQ.out.dh (w':=w3) (by rw [ERV.out]) hr12 HV.out (by rw [HRL.out];exact hs3) hk3));clear hs3 hk3 hz3;clear c1 s1 sl;go_wp2_with fail;go_ret;exact ⟨by rw [HE.out];rfl,by rw [HE.out];exact TO.out⟩
  ·clear hne;go_wp2_with fail;refine aq (.free 0 (.free 1 (.free 2 (.free 4 (.free 8 (.free 9 (.free 10 (.free 12 (.pure 3 (.pure 5 (.free 6 (.pure 7 (.pure 11 (.pure 13 (.free 14 (.pure 15 (.free 16 (.fin)))))))))))))))))) [] (fun w'=>w'.cell? ⟨h.p,1,none⟩=some (.slice (some ⟨g,o,none⟩) 12 rc)∧w'.cell? ⟨sb,2,none⟩=some (.int .i64 a)∧w'.cell? ⟨sb,3,none⟩=some (.int .i64 b)∧w'.cell? ⟨g,o+a*2,none⟩=some (.int .i64 v1)∧w'.cell? ⟨g,o+a*2+1,none⟩=some (.int .i64 v2)∧w'.cell? ⟨g,o+b*2,none⟩=some (.int .i64 u1)∧w'.cell? ⟨g,o+b*2+1,none⟩=some (.int .i64 u2)) (by kernel_rfl) (by kernel_rfl) ⟨c1,s2,s3,a0,a1,b0,b1⟩ ?_
   iterate 17 ((first | refine ak rfl rfl fun K hK=>?_ | refine aj rfl rfl fun K hK=>?_ | refine ay rfl rfl fun K hK=>?_ | refine av rfl rfl fun K hK=>?_ | refine ax rfl rfl fun K hK=>?_);go_simp;refine hK _ ?_;clear hK K)
   refine aA ?_;have kd1:=(Kz w1).drew;have H2:=Hz (H1.out.same kd1);have K2:=Hz (K1.out.trans kd1);have B2:=Hz (kd1.ai B1.out (fun h=>h));have RS:=Hz (RS.out.ae kd1 (fun _ _ h=>h));clear kd1 s0 s1 s2 s3 s4 s5 sl H1 K1 B1 c1 pl a0 a1 b0 b1;generalize w1.drew=w2 at *;have s1:=B2.out.cell 1;have sl:=B2.out.lt;have pl:=H2.out.hp.lt;obtain ⟨-,c1,-,-,-,-⟩:=H2.out.cells;rw [ERV.out,HRL.out] at c1;simp only [Lz,Ls] at s1;go_wp2_with fail;refine aq (.free 0 (.free 1 (.free 2 (.free 4 (.free 6 (.free 7 (.pure 3 (.pure 5 (.run 8 (.free 9 (.run 10 (.swi [] (.fin))))))))))))) [10] (fun w'=>w'.cell? ⟨h.p,1,none⟩=some (.slice (some ⟨g,o,none⟩) 12 rc)∧w'.cell? ⟨sb,1,none⟩=some (.int .i64 r)) (by kernel_rfl) (by kernel_rfl) ⟨c1,s1⟩ ?_
   iterate 8 ((first | refine ak rfl rfl fun K hK=>?_ | refine aj rfl rfl fun K hK=>?_ | refine ay rfl rfl fun K hK=>?_ | refine av rfl rfl fun K hK=>?_ | refine ax rfl rfl fun K hK=>?_);go_simp;refine hK _ ?_;clear hK K)
   refine aZ rfl rfl (fun K hK=>?_);unfold aM;go_simp;refine (gK 0 _).mono ?_;rintro e wq ⟨rfl,hkq⟩;have kq:=(Kz w2).drew.trans hkq;have HQ:=Hz (H2.out.same kq);have BQ:=Hz (kq.ai B2.out (fun h=>h));have KQ:=Hz (K2.out.trans kq);have RQ:=Hz (RS.out.ae kq (fun _ _ h=>h));have xc1:wq.cell? ⟨h.p,1,none⟩=some (.slice (some ⟨g,o,none⟩) 12 rc):=(World.cell?_of_block (w:=w2) (a:=⟨h.p,1,none⟩) (kq.block _ H2.out.hp.lt (fun h=>h))).trans c1;have xs1:=BQ.out.cell 1;simp only [Lz,Ls] at xs1;refine hK _ _ (fun _=>⟨xc1,xs1⟩) ?_;clear hK K hkq kq xc1 xs1
   iterate 1 ((first | refine ak rfl rfl fun K hK=>?_ | refine aj rfl rfl fun K hK=>?_);go_simp;refine hK _ ?_;clear hK K)
   refine aG rfl rfl rfl (fun K hK=>?_);refine aS 78 (.tmp 357) (.tmp 356) rfl rfl g o 12 rc r (au W.roots) 78 (.int .i64 (1)) (.int .i64 (0)) rfl rfl RQ.out hr12 (by kernel_rfl) rfl rfl ?_;intro w3 hs3 hk3 hz3;refine hK _ _ ?_;clear hK K;refine aE (fun _=>True) trivial (aA ?_);have TO:=Hz (aC.aN KQ.out (HQ.out.dh (w':=w3) (by rw [ERV.out]) hr12 HV.out (by rw [HRL.out];exact hs3) hk3));clear hs3 hk3 hz3;clear c1 s1 sl;go_wp2_with fail;go_ret;exact ⟨by rw [HE.out];rfl,by rw [HE.out];exact TO.out⟩
theorem oB (xr xa xb xi xn:Int) (H:aK w h W) (hT:W.T.length≤100000) :
  Calls Try.prog 60 #[.pointer (some ⟨h.p,0,none⟩), .agg #[.int .i64 15, .int .i64 xr, .int .i64 xa, .int .i64 xb, .int .i64 xi, .int .i64 xn]] w fun e w'=>e=.returned (.int .i64 (W.do ⟨15,xr,xa,xb,xi,xn⟩).1)∧aC w h w' (W.do ⟨15,xr,xa,xb,xi,xn⟩).2:=by
 have HH:=Hz H;have hb1:ah (w.alloc (.cells #[.int .i64 15, .int .i64 xr, .int .i64 xa, .int .i64 xb, .int .i64 xi, .int .i64 xn] 98)) w.heap.size [.int .i64 15, .int .i64 xr, .int .i64 xa, .int .i64 xb, .int .i64 xi, .int .i64 xn] 98:=ah.newAt _ rfl rfl;have HB:=Hz hb1;have KA:=Hz ((Kz w).alloc (.cells #[.int .i64 15, .int .i64 xr, .int .i64 xa, .int .i64 xb, .int .i64 xi, .int .i64 xn] 98));have s0:=hb1.cell 0;have s1:=hb1.cell 1;have s2:=hb1.cell 2;have s3:=hb1.cell 3;have s4:=hb1.cell 4;have s5:=hb1.cell 5;simp only [Lz,Ls] at s0 s1 s2 s3 s4 s5;have HSF:=Hz (fun w=>bh ⟨15,xr,xa,xb,xi,xn⟩ w);obtain ⟨c,hc⟩:∃ c,aP ⟨15,xr,xa,xb,xi,xn⟩=c:=⟨_,rfl⟩;rw [hc] at HSF;have HC:=Hz hc;clear H hb1 hc;go_enter Try.func60,Try.ntmps60;go_wp2_with (refine aT rfl 98 (.tmp 3) rfl [.int .i64 15, .int .i64 xr, .int .i64 xa, .int .i64 xb, .int .i64 xi, .int .i64 xn] (by kernel_rfl) w.heap.size 0 rfl (ab s0 (ab s1 (ab s2 (ab s3 (ab s4 (ab s5 aO)))))) ?_);refine (HSF.out _).mono ?_;rintro e w1 ⟨rfl,hk⟩;have H1:=Hz ((HH.out.same KA.out).same hk);have K1:=Hz (KA.out.trans hk);have B1:=Hz (hk.ai HB.out (fun h=>h));clear hk s0 s1 s2 s3 s4 s5 HSF KA HB;generalize w.heap.size=sb at *;have s0:=B1.out.cell 0;have s1:=B1.out.cell 1;have s2:=B1.out.cell 2;have s3:=B1.out.cell 3;have s4:=B1.out.cell 4;have s5:=B1.out.cell 5;have sl:=B1.out.lt;simp only [Lz,Ls] at s0 s1 s2 s3 s4 s5;by_cases h0:¬ c=0
 ·have HE:=Hz (cW (W:=W) HC.out h0);have hd:(c != 0)=true:=by simpa using h0
  clear h0;go_wp2_with fail;go_ret;exact ⟨by rw [HE.out];rfl,by rw [HE.out];exact aC.same HH.out K1.out⟩
 have h0:c=0:=Classical.not_not.1 h0;subst h0;have HE:=Hz (show W.do ⟨15,xr,xa,xb,xi,xn⟩=W.cut false by rw [bE HC.out];rfl);have HMK:=Hz (mz false H1.out hT);have pl:=H1.out.hp.lt;go_wp2_with fail;refine HMK.out.mono ?_;rintro e w3 ⟨rfl,ht⟩;have TO:=Hz (aC.aN K1.out ht);clear ht s0 s1 s2 s3 s4 s5 sl pl;go_wp2_with fail;go_ret;exact ⟨by rw [HE.out];rfl,by rw [HE.out];exact TO.out⟩
theorem oC (xr xa xb xi xn:Int) (H:aK w h W) (hT:W.T.length≤100000) :
  Calls Try.prog 60 #[.pointer (some ⟨h.p,0,none⟩), .agg #[.int .i64 16, .int .i64 xr, .int .i64 xa, .int .i64 xb, .int .i64 xi, .int .i64 xn]] w fun e w'=>e=.returned (.int .i64 (W.do ⟨16,xr,xa,xb,xi,xn⟩).1)∧aC w h w' (W.do ⟨16,xr,xa,xb,xi,xn⟩).2:=by
 have HH:=Hz H;have hb1:ah (w.alloc (.cells #[.int .i64 16, .int .i64 xr, .int .i64 xa, .int .i64 xb, .int .i64 xi, .int .i64 xn] 98)) w.heap.size [.int .i64 16, .int .i64 xr, .int .i64 xa, .int .i64 xb, .int .i64 xi, .int .i64 xn] 98:=ah.newAt _ rfl rfl;have HB:=Hz hb1;have KA:=Hz ((Kz w).alloc (.cells #[.int .i64 16, .int .i64 xr, .int .i64 xa, .int .i64 xb, .int .i64 xi, .int .i64 xn] 98));have s0:=hb1.cell 0;have s1:=hb1.cell 1;have s2:=hb1.cell 2;have s3:=hb1.cell 3;have s4:=hb1.cell 4;have s5:=hb1.cell 5;simp only [Lz,Ls] at s0 s1 s2 s3 s4 s5;have HSF:=Hz (fun w=>bh ⟨16,xr,xa,xb,xi,xn⟩ w);obtain ⟨c,hc⟩:∃ c,aP ⟨16,xr,xa,xb,xi,xn⟩=c:=⟨_,rfl⟩;rw [hc] at HSF;have HC:=Hz hc;clear H hb1 hc;go_enter Try.func60,Try.ntmps60;go_wp2_with (refine aT rfl 98 (.tmp 3) rfl [.int .i64 16, .int .i64 xr, .int .i64 xa, .int .i64 xb, .int .i64 xi, .int .i64 xn] (by kernel_rfl) w.heap.size 0 rfl (ab s0 (ab s1 (ab s2 (ab s3 (ab s4 (ab s5 aO)))))) ?_);refine (HSF.out _).mono ?_;rintro e w1 ⟨rfl,hk⟩;have H1:=Hz ((HH.out.same KA.out).same hk);have K1:=Hz (KA.out.trans hk);have B1:=Hz (hk.ai HB.out (fun h=>h));clear hk s0 s1 s2 s3 s4 s5 HSF KA HB;generalize w.heap.size=sb at *;have s0:=B1.out.cell 0;have s1:=B1.out.cell 1;have s2:=B1.out.cell 2;have s3:=B1.out.cell 3;have s4:=B1.out.cell 4;have s5:=B1.out.cell 5;have sl:=B1.out.lt;simp only [Lz,Ls] at s0 s1 s2 s3 s4 s5;by_cases h0:¬ c=0
 ·have HE:=Hz (cW (W:=W) HC.out h0);have hd:(c != 0)=true:=by simpa using h0
  clear h0;go_wp2_with fail;go_ret;exact ⟨by rw [HE.out];rfl,by rw [HE.out];exact aC.same HH.out K1.out⟩
 have h0:c=0:=Classical.not_not.1 h0;subst h0;have HE:=Hz (show W.do ⟨16,xr,xa,xb,xi,xn⟩=W.cut true by rw [bE HC.out];rfl);have HMK:=Hz (mz true H1.out hT);have pl:=H1.out.hp.lt;go_wp2_with fail;refine HMK.out.mono ?_;rintro e w3 ⟨rfl,ht⟩;have TO:=Hz (aC.aN K1.out ht);clear ht s0 s1 s2 s3 s4 s5 sl pl;go_wp2_with fail;go_ret;exact ⟨by rw [HE.out];rfl,by rw [HE.out];exact TO.out⟩
end
end
section
open Go.RowKit
section
variable {w:World} {h:RW} {W:Wd}
theorem aK.sZ {w1:World} {v':Value} {rg:List (Int × Int)} (H:aK w h W) (hs:Sl w1 159 2 v' rg.length (au rg)) (hk:aa (ag h.gv) w w1)
  (ho:∀ k,ag v' k→ag h.gv k∨w.heap.size≤k) (hok:Wd.ok { W with regs:=rg }):aC w h (w1.setCell ⟨h.p,2,none⟩ v') { W with regs:=rg }:=by
 have nE:∀ {b:Nat} {c:List Value} {T:TypeId},ah w b c T→T≠159→¬ ag h.gv b:=fun hb hT e=>by
  obtain ⟨_,c',hc'⟩:=H.hg.own e;exact hb.ne hc' hT rfl
 have hp1:=hk.ai H.hp (nE H.hp (by decide));have set:=(aa.refl (·=h.p) w1).setCell (p:=⟨h.p,2,none⟩) (.inl rfl) v';have np:∀ {b:Nat} {c:List Value} {T:TypeId},ah w1 b c T→T≠150→¬ b=h.p:=fun hb hT=>hb.ne hp1 hT;have kk:aa (fun b=>ag h.gv b∨b=h.p) w (w1.setCell ⟨h.p,2,none⟩ v'):=(hk.mono (fun _ _ h=>.inl h)).then set (fun b hb=>.inl (.inr hb));have nB:∀ {b:Nat} {c:List Value} {T:TypeId},ah w b c T→T≠159→T≠150→¬ (ag h.gv b∨b=h.p):=fun hb h1 h2 e=>by
  rcases e with e | e
  ·exact nE hb h1 e
  ·exact hb.ne H.hp h2 e
 refine ⟨⟨h.p,h.tv,h.rv,v',h.wv,h.F⟩,⟨by simpa using hp1.aF 2 v',H.ht.ae kk (fun b hb _=>?_) (fun b hb=>?_),H.hr.ae kk (fun b hb=>?_),hs.ae set (fun b hb=>?_),H.hw.ae kk (fun b hb=>?_),fun k hk'=>?_,fun k hk'=>?_,hok⟩,rfl,kk.mono (fun b _ hb=>?_),fun k hk'=>?_⟩
 ·obtain ⟨_,⟨c,hc⟩,_⟩:=H.af b hb;exact nB hc (by decide) (by decide)
 ·obtain ⟨cs,hs',_⟩:=H.ht;obtain ⟨_,c,hc⟩:=hs'.own hb;exact nB hc (by decide) (by decide)
 ·obtain ⟨_,c,hc⟩:=H.hr.own hb;exact nB hc (by decide) (by decide)
 ·obtain ⟨_,c,hc⟩:=hs.own hb;exact np hc (by decide)
 ·rintro (e | e)
  ·exact H.ap b ⟨e,hb⟩
  ·obtain ⟨_,c,hc⟩:=H.hw.own hb;exact hc.ne H.hp (by decide) e
 ·rcases ho k hk'.1 with e | e
  ·exact H.ap k ⟨e,hk'.2⟩
  ·have:=(H.hw.own hk'.2).1;omega
 ·obtain ⟨h1,⟨c,h2⟩,h3⟩:=H.af k hk';exact ⟨Nat.lt_of_lt_of_le h1 kk.size,⟨c,kk.ai h2 (nB h2 (by decide) (by decide))⟩,h3⟩
 ·rcases hb with hb | hb
  ·exact .inr (.inr (.inr (.inl hb)))
  ·exact .inl hb
 ·rcases hk' with hk' | hk' | hk' | hk' | hk' | hk'
  ·exact .inl (.inl hk')
  ·exact .inl (.inr (.inl hk'))
  ·exact .inl (.inr (.inr (.inl hk')))
  ·rcases ho k hk' with e | e
   ·exact .inl (.inr (.inr (.inr (.inl e))))
   ·exact .inr e
  ·exact .inl (.inr (.inr (.inr (.inr (.inl hk')))))
  ·exact .inl (.inr (.inr (.inr (.inr (.inr hk')))))
theorem qH (xr xa xb xi xn:Int) (H:aK w h W) :
  Calls Try.prog 60 #[.pointer (some ⟨h.p,0,none⟩), .agg #[.int .i64 9, .int .i64 xr, .int .i64 xa, .int .i64 xb, .int .i64 xi, .int .i64 xn]] w fun e w'=>e=.returned (.int .i64 (W.do ⟨9,xr,xa,xb,xi,xn⟩).1)∧aC w h w' (W.do ⟨9,xr,xa,xb,xi,xn⟩).2:=by
 have HH:=Hz H;have hb1:ah (w.alloc (.cells #[.int .i64 9, .int .i64 xr, .int .i64 xa, .int .i64 xb, .int .i64 xi, .int .i64 xn] 98)) w.heap.size [.int .i64 9, .int .i64 xr, .int .i64 xa, .int .i64 xb, .int .i64 xi, .int .i64 xn] 98:=ah.newAt _ rfl rfl;have HB:=Hz hb1;have KA:=Hz ((Kz w).alloc (.cells #[.int .i64 9, .int .i64 xr, .int .i64 xa, .int .i64 xb, .int .i64 xi, .int .i64 xn] 98));have s0:=hb1.cell 0;have s1:=hb1.cell 1;have s2:=hb1.cell 2;have s3:=hb1.cell 3;have s4:=hb1.cell 4;have s5:=hb1.cell 5;simp only [Lz,Ls] at s0 s1 s2 s3 s4 s5;have HSF:=Hz (fun w=>bh ⟨9,xr,xa,xb,xi,xn⟩ w);obtain ⟨c,hc⟩:∃ c,aP ⟨9,xr,xa,xb,xi,xn⟩=c:=⟨_,rfl⟩;rw [hc] at HSF;have HC:=Hz hc;clear H hb1 hc;go_enter Try.func60,Try.ntmps60;go_wp2_with (refine aT rfl 98 (.tmp 3) rfl [.int .i64 9, .int .i64 xr, .int .i64 xa, .int .i64 xb, .int .i64 xi, .int .i64 xn] (by kernel_rfl) w.heap.size 0 rfl (ab s0 (ab s1 (ab s2 (ab s3 (ab s4 (ab s5 aO)))))) ?_);refine (HSF.out _).mono ?_;rintro e w1 ⟨rfl,hk⟩;have H1:=Hz ((HH.out.same KA.out).same hk);have K1:=Hz (KA.out.trans hk);have B1:=Hz (hk.ai HB.out (fun h=>h));clear hk s0 s1 s2 s3 s4 s5 HSF KA HB;generalize w.heap.size=sb at *;have s0:=B1.out.cell 0;have s1:=B1.out.cell 1;have s2:=B1.out.cell 2;have s3:=B1.out.cell 3;have s4:=B1.out.cell 4;have s5:=B1.out.cell 5;have sl:=B1.out.lt;simp only [Lz,Ls] at s0 s1 s2 s3 s4 s5;by_cases h0:¬ c=0
 ·have HE:=Hz (cW (W:=W) HC.out h0);have hd:(c != 0)=true:=by simpa using h0
  clear h0;go_wp2_with fail;go_ret;exact ⟨by rw [HE.out];rfl,by rw [HE.out];exact aC.same HH.out K1.out⟩
 have h0:c=0:=Classical.not_not.1 h0;subst h0;have ha:0≤xa∧xa<12:=(aD _).1 ((aB HC.out).2.2.1 (show aH 9/2%2=1 by decide));have hb:0≤xb∧xb<12:=(aD _).1 ((aB HC.out).2.2.2.1 (show aH 9/4%2=1 by decide));obtain ⟨a,rfl⟩:∃ a:Nat,xa=a:=⟨xa.toNat,by omega⟩;obtain ⟨b,rfl⟩:∃ b:Nat,xb=b:=⟨xb.toNat,by omega⟩;have ha12:a<12:=by omega
 have hb12:b<12:=by omega
 clear ha hb;have hth:=fun w (H:aK w h W)=>gz a ha12 H;have hgd:=fun w (H:aK w h W)=>my b hb12 H;have HRE:=Hz (show W.do ⟨9,xr,a,b,xi,xn⟩=W.fC ⟨9,xr,a,b,xi,xn⟩ by rw [bE HC.out];rfl);have HOK:=Hz (H1.out.ok.do ⟨9,xr,a,b,xi,xn⟩);obtain ⟨ti,hti⟩:∃ ti,W.aw (a:Int)=ti:=⟨_,rfl⟩;obtain ⟨gi,hgi⟩:∃ gi,W.guard (b:Int)=gi:=⟨_,rfl⟩;rw [hti] at hth;rw [hgi] at hgd;have HTI:=Hz hti;have HGI:=Hz hgi;have HTH:=Hz hth;have HGD:=Hz hgd;clear hti hgi hth hgd;have pl:=H1.out.hp.lt;go_wp2_with fail;refine (HTH.out _ H1.out).mono ?_;rintro e w2 ⟨rfl,hk⟩;have H2:=Hz (H1.out.same hk);have K2:=Hz (K1.out.trans hk);have B2:=Hz (hk.ai B1.out (fun h=>h));clear hk s0 s1 s2 s3 s4 s5 sl pl B1 H1 K1;have s2:=B2.out.cell 2;have s3:=B2.out.cell 3;have sl:=B2.out.lt;have pl:=H2.out.hp.lt;simp only [Lz,Ls] at s2 s3;by_cases hi:ti<0
 ·have hd:decide (ti<0)=true:=by simpa using hi
  have HE:=Hz (show W.do ⟨9,xr,a,b,xi,xn⟩=(2,W) by rw [HRE.out];unfold Wd.fC;dsimp only;rw [HTI.out,if_pos (.inl hi)]);clear hi;go_wp2_with fail;go_ret;exact ⟨by rw [HE.out];rfl,by rw [HE.out];exact aC.same HH.out K2.out⟩
 have hd:decide (ti<0)=false:=by simpa using hi
 have HNT:=Hz hi;clear hi;go_wp2_with fail;refine (HGD.out _ H2.out).mono ?_;rintro e w3 ⟨rfl,hk⟩;have H3:=Hz (H2.out.same hk);have K3:=Hz (K2.out.trans hk);have B3:=Hz (hk.ai B2.out (fun h=>h));clear hk s2 s3 sl pl B2 H2 K2;have s2:=B3.out.cell 2;have s3:=B3.out.cell 3;have sl:=B3.out.lt;have pl:=H3.out.hp.lt;simp only [Lz,Ls] at s2 s3;by_cases hg:gi<0
 ·have hd2:decide (gi<0)=true:=by simpa using hg
  have HE:=Hz (show W.do ⟨9,xr,a,b,xi,xn⟩=(2,W) by rw [HRE.out];unfold Wd.fC;dsimp only;rw [HGI.out,if_pos (.inr hg)]);clear hg;go_wp2_with fail;go_ret;exact ⟨by rw [HE.out];rfl,by rw [HE.out];exact aC.same HH.out K3.out⟩
 have hd2:decide (gi<0)=false:=by simpa using hg
 have HRG:=Hz (show W.do ⟨9,xr,a,b,xi,xn⟩=if 24≤W.regs.length+W.wait.length then (3,W) else (0, { W with regs:=W.regs ++ [(gi,ti)] }) by rw [HRE.out];unfold Wd.fC;dsimp only;rw [HTI.out,HGI.out,if_neg (fun e=>by rcases e with e | e;(have:=HNT.out;omega);exact hg e)]);clear hg;obtain ⟨go,gc,egv,-,-,-⟩:=H3.out.hg.rd;obtain ⟨wo,wc,ewv,-,-,-⟩:=H3.out.hw.rd;obtain ⟨-,-,c2,c3,-,-⟩:=H3.out.cells;have EGV:=Hz egv;have EWV:=Hz ewv;rw [egv] at c2;rw [ewv] at c3;have hq:=H3.out.ok.hq;clear egv ewv;obtain ⟨nr,hnr⟩:∃ n,W.regs.length=n:=⟨_,rfl⟩;obtain ⟨nw,hnw⟩:∃ n,W.wait.length=n:=⟨_,rfl⟩;rw [hnr,hnw] at HRG hq;rw [hnr] at c2 EGV;rw [hnw] at c3;have HNR:=Hz hnr;clear hnr hnw;have hw1:IntKind.i64.wrap ((nr:Int)+nw)=(nr:Int)+nw:=IntWalk.i64_in _ (by omega);go_wp2_with fail;refine aq (.free 0 (.free 1 (.free 2 (.free 5 (.free 6 (.free 7 (.pure 3 (.free 4 (.pure 8 (.free 9 (.free 10 (.free 11 (.fin))))))))))))) [] (fun w'=>w'.cell? ⟨h.p,2,none⟩=some (.slice go nr gc)∧w'.cell? ⟨h.p,3,none⟩=some (.slice wo nw wc)) (by kernel_rfl) (by kernel_rfl) ⟨c2,c3⟩ ?_
 iterate 12 ((first | refine ak rfl rfl fun K hK=>?_ | refine aj rfl rfl fun K hK=>?_ | refine ay rfl rfl fun K hK=>?_ | refine av rfl rfl fun K hK=>?_ | refine ax rfl rfl fun K hK=>?_);go_simp;refine hK _ ?_;clear hK K)
 refine aA ?_;clear hw1;by_cases h24:24≤nr+nw
 ·have HE:=Hz (HRG.out.trans (if_pos h24));have hd3:(24:Int)≤(nr:Int)+nw:=by omega
  have hd4:¬ ((nr:Int)+nw<24):=by omega
  clear h24 hq;go_wp2_with fail;go_ret;exact ⟨by rw [HE.out];rfl,by rw [HE.out];exact aC.same HH.out K3.out.drew⟩
 have HE:=Hz (HRG.out.trans (if_neg h24));have hd3:(nr:Int)+nw<24:=by omega
 have hd4:¬ (24:Int)≤(nr:Int)+nw:=by omega
 have HOK2:=Hz (show Wd.ok { W with regs:=W.regs ++ [(gi,ti)] } by have:=HOK.out;rw [HE.out] at this;exact this);clear h24 HRG;obtain ⟨iv,hi,hz0,hz1,hz2⟩:=bB i4;have Vi:=Hz hi;have Vz0:=Hz hz0;have Vz1:=Hz hz1;have Vz2:=Hz hz2;clear hi hz0 hz1 hz2;go_wp2_with fail;refine aq (.free 0 (.free 1 (.free 2 (.free 3 (.free 5 (.free 6 (.free 9 (.free 10 (.pure 4 (.pure 7 (.pure 11 (.run 8 (.run 12 (.free 13 (.run 14 (.run 15 (.swi [18] (.free 16 (.free 17 (.run 18 (.swi [] (.fin)))))))))))))))))))))) [15,16,17,18] (fun w'=>w'.cell? ⟨h.p,2,none⟩=some (.slice go nr gc)∧w'.cell? ⟨sb,3,none⟩=some (.int .i64 b)∧w'.cell? ⟨sb,2,none⟩=some (.int .i64 a)) (by kernel_rfl) (by kernel_rfl) ⟨c2,s3,s2⟩ ?_
 iterate 11 ((first | refine ak rfl rfl fun K hK=>?_ | refine aj rfl rfl fun K hK=>?_ | refine ay rfl rfl fun K hK=>?_ | refine av rfl rfl fun K hK=>?_ | refine ax rfl rfl fun K hK=>?_);go_simp;refine hK _ ?_;clear hK K)
 refine aZ rfl rfl (fun K hK=>?_);unfold aM;go_simp;refine (HGD.out _ (H3.out.same (Kz w3).drew.drew)).mono ?_;rintro e w5 ⟨rfl,hk⟩;have kk:aa (fun _=>False) w3 w5:=(Kz w3).drew.drew.trans hk;have H5:=Hz (H3.out.same kk);have K5:=Hz (K3.out.trans kk);have B5:=Hz (kk.ai B3.out (fun h=>h));have c2:=H5.out.cells.2.2.1;rw [EGV.out] at c2;refine hK _ _ (fun _=>⟨c2,B5.out.cell 3,B5.out.cell 2⟩) ?_;clear hK K hk kk c2 c3 s2 s3 sl pl;refine aZ rfl rfl (fun K hK=>?_);unfold aM;go_simp;refine (HTH.out _ H5.out).mono ?_;rintro e w6 ⟨rfl,kk⟩;have H6:=Hz (H5.out.same kk);have K6:=Hz (K5.out.trans kk);have B6:=Hz (kk.ai B5.out (fun h=>h));have c2:=H6.out.cells.2.2.1;rw [EGV.out] at c2;refine hK _ _ (fun _=>⟨c2,B6.out.cell 3,B6.out.cell 2⟩) ?_;clear hK K kk c2 H5 K5 B5
 iterate 1 ((first | refine ak rfl rfl fun K hK=>?_ | refine aj rfl rfl fun K hK=>?_);go_simp;refine hK _ ?_;clear hK K)
 refine aZ rfl rfl (fun K hK=>?_);unfold aM;go_simp;have kk:=(Kz w6).alloc (.cells #[.int .i64 gi, .int .i64 ti] 159);have H7:=Hz (H6.out.same kk);have K7:=Hz (K6.out.trans kk);have B7:=Hz (kk.ai B6.out (fun h=>h));have c2:=H7.out.cells.2.2.1;rw [EGV.out] at c2;refine hK _ _ (fun _=>⟨c2,B7.out.cell 3,B7.out.cell 2⟩) ?_;clear hK K kk c2;have HGS:=Hz (show Sl (w6.alloc (.cells #[.int .i64 gi, .int .i64 ti] 159)) 159 2 (.slice go nr gc) nr (au W.regs) by have:=H7.out.hg;rw [EGV.out,HNR.out] at this;exact this);refine aG rfl rfl rfl (fun K hK=>?_);refine cy (.tmp 149) (.tmp 159) 148 rfl 159 iv (.agg #[.int .i64 0, .int .i64 0]) 2 16 Try.underlying148 Vi.out Vz0.out Vz1.out Vz2.out rfl (by decide) (.slice go nr gc) nr (au W.regs) rfl HGS.out ⟨w6.heap.size,0,none⟩ 1 1 [.int .i64 gi, .int .i64 ti] rfl rfl (bq w6 159 #[.int .i64 gi, .int .i64 ti]) (by intro u hu;simp at hu;rcases hu with rfl | rfl <;> rfl) (by unfold maxLen;omega) (by omega) ?_;intro v8 w8 hs8 hk8 ho8;refine hK _ _ ?_;clear hK K;have TO:=Hz (aC.aN K7.out (H7.out.sZ (w1:=w8) (v':=v8) (rg:=W.regs ++ [(gi,ti)]) (by rw [List.length_append,HNR.out,show au (W.regs ++ [(gi,ti)])=au W.regs ++ [.int .i64 gi, .int .i64 ti] by simp [au]];exact hs8) (by rw [EGV.out];exact hk8) (by rw [EGV.out];exact ho8) HOK2.out));have HP8:=hk8.ai H7.out.hp (fun e=>by
  obtain ⟨_,c,hc⟩:=HGS.out.own e
  exact hc.ne H7.out.hp (by decide) rfl)
 have x2:=HP8.cell 2;have xl:=HP8.lt;have xf:=HP8.free 2;simp only [Lz,Ls] at x2;obtain ⟨vo8,vc8,rfl,-,-,-⟩:=hs8.rd;clear hs8 hk8 ho8 HP8;refine aE (fun _=>True) trivial ?_
 iterate 2 ((first | refine ak rfl rfl fun K hK=>?_ | refine aj rfl rfl fun K hK=>?_);go_simp;refine hK _ ?_;clear hK K)
 refine aG rfl rfl rfl (fun K hK=>?_);unfold aM;go_simp;refine hK _ _ ?_;clear hK K;refine aE (fun _=>True) trivial (aA ?_);clear x2 xl xf;go_wp2_with fail;go_ret;exact ⟨by rw [HE.out];rfl,by rw [HE.out];exact TO.out⟩
end
end
section
open Go.RowKit
section
variable {w:World} {h:RW} {W:Wd}
theorem aK.s6 {w1:World} {v':Value} {wt:List (Int × Int)} (H:aK w h W) (hs:Sl w1 159 2 v' wt.length (au wt)) (hk:aa (ag h.wv) w w1)
  (ho:∀ k,ag v' k→ag h.wv k∨w.heap.size≤k) (hok:Wd.ok { W with wait:=wt }):aC w h (w1.setCell ⟨h.p,3,none⟩ v') { W with wait:=wt }:=by
 have nE:∀ {b:Nat} {c:List Value} {T:TypeId},ah w b c T→T≠159→¬ ag h.wv b:=fun hb hT e=>by
  obtain ⟨_,c',hc'⟩:=H.hw.own e;exact hb.ne hc' hT rfl
 have hp1:=hk.ai H.hp (nE H.hp (by decide));have set:=(aa.refl (·=h.p) w1).setCell (p:=⟨h.p,3,none⟩) (.inl rfl) v';have np:∀ {b:Nat} {c:List Value} {T:TypeId},ah w1 b c T→T≠150→¬ b=h.p:=fun hb hT=>hb.ne hp1 hT;have kk:aa (fun b=>ag h.wv b∨b=h.p) w (w1.setCell ⟨h.p,3,none⟩ v'):=(hk.mono (fun _ _ h=>.inl h)).then set (fun b hb=>.inl (.inr hb));have nB:∀ {b:Nat} {c:List Value} {T:TypeId},ah w b c T→T≠159→T≠150→¬ (ag h.wv b∨b=h.p):=fun hb h1 h2 e=>by
  rcases e with e | e
  ·exact nE hb h1 e
  ·exact hb.ne H.hp h2 e
 refine ⟨⟨h.p,h.tv,h.rv,h.gv,v',h.F⟩,⟨by simpa using hp1.aF 3 v',H.ht.ae kk (fun b hb _=>?_) (fun b hb=>?_),H.hr.ae kk (fun b hb=>?_),H.hg.ae kk (fun b hb=>?_),hs.ae set (fun b hb=>?_),fun k hk'=>?_,fun k hk'=>?_,hok⟩,rfl,kk.mono (fun b _ hb=>?_),fun k hk'=>?_⟩
 ·obtain ⟨_,⟨c,hc⟩,_⟩:=H.af b hb;exact nB hc (by decide) (by decide)
 ·obtain ⟨cs,hs',_⟩:=H.ht;obtain ⟨_,c,hc⟩:=hs'.own hb;exact nB hc (by decide) (by decide)
 ·obtain ⟨_,c,hc⟩:=H.hr.own hb;exact nB hc (by decide) (by decide)
 ·rintro (e | e)
  ·exact H.ap b ⟨hb,e⟩
  ·obtain ⟨_,c,hc⟩:=H.hg.own hb;exact hc.ne H.hp (by decide) e
 ·obtain ⟨_,c,hc⟩:=hs.own hb;exact np hc (by decide)
 ·rcases ho k hk'.2 with e | e
  ·exact H.ap k ⟨hk'.1,e⟩
  ·have:=(H.hg.own hk'.1).1;omega
 ·obtain ⟨h1,⟨c,h2⟩,h3⟩:=H.af k hk';exact ⟨Nat.lt_of_lt_of_le h1 kk.size,⟨c,kk.ai h2 (nB h2 (by decide) (by decide))⟩,h3⟩
 ·rcases hb with hb | hb
  ·exact .inr (.inr (.inr (.inr (.inl hb))))
  ·exact .inl hb
 ·rcases hk' with hk' | hk' | hk' | hk' | hk' | hk'
  ·exact .inl (.inl hk')
  ·exact .inl (.inr (.inl hk'))
  ·exact .inl (.inr (.inr (.inl hk')))
  ·exact .inl (.inr (.inr (.inr (.inl hk'))))
  ·rcases ho k hk' with e | e
   ·exact .inl (.inr (.inr (.inr (.inr (.inl e)))))
   ·exact .inr e
  ·exact .inl (.inr (.inr (.inr (.inr (.inr hk')))))
theorem mH (l:List (Int × Int)):∀ u ∈ au l,u.oneCell'=true:=by
 intro u hu;simp [au] at hu;obtain ⟨a,b,-,rfl | rfl⟩:=hu <;> rfl
theorem sH {a:Int} (h:W.guard a<0) (xr xb xi xn:Int) (hc:aP ⟨10,xr,a,xb,xi,xn⟩=0):W.do ⟨10,xr,a,xb,xi,xn⟩=(2,W):=by rw [bE hc];show Wd.pop _ _=_;unfold Wd.pop;dsimp only;rw [if_pos h]
theorem qI {a:Int} (h:¬ W.guard a<0) (h2:popW W.wait (W.guard a)=none) (xr xb xi xn:Int) (hc:aP ⟨10,xr,a,xb,xi,xn⟩=0):W.do ⟨10,xr,a,xb,xi,xn⟩=(4,W):=by rw [bE hc];show Wd.pop _ _=_;unfold Wd.pop;dsimp only;rw [if_neg h,h2]
theorem qJ {a:Int} {q:Int × List (Int × Int)} (h:¬ W.guard a<0) (h2:popW W.wait (W.guard a)=some q) (r:Nat) (xb xi xn:Int) (hc:aP ⟨10,r,a,xb,xi,xn⟩=0):W.do ⟨10,r,a,xb,xi,xn⟩=(0, { W.bj r (3,q.1) with wait:=q.2 }):=by
 rw [bE hc];show Wd.pop _ _=_;unfold Wd.pop;dsimp only;rw [if_neg h,h2];rfl
theorem Wd.ok.sI (h:W.ok) {wt:List (Int × Int)} (h1:∀ e ∈ wt,e ∈ W.wait) (h2:wt.length≤W.wait.length):Wd.ok { W with wait:=wt }:=by
 exact ⟨h.hr,h.rv,h.tk,h.tv,h.gv,fun e he=>h.wv e (h1 e he),by have:=h.hq;show W.regs.length+wt.length≤24;omega,h.m1,h.m2,h.g1,h.g2,h.uy,h.uo⟩
theorem qK (xr xa xb xi xn:Int) (H:aK w h W) :
  Calls Try.prog 60 #[.pointer (some ⟨h.p,0,none⟩), .agg #[.int .i64 10, .int .i64 xr, .int .i64 xa, .int .i64 xb, .int .i64 xi, .int .i64 xn]] w fun e w'=>e=.returned (.int .i64 (W.do ⟨10,xr,xa,xb,xi,xn⟩).1)∧aC w h w' (W.do ⟨10,xr,xa,xb,xi,xn⟩).2:=by
 have HH:=Hz H;have hb1:ah (w.alloc (.cells #[.int .i64 10, .int .i64 xr, .int .i64 xa, .int .i64 xb, .int .i64 xi, .int .i64 xn] 98)) w.heap.size [.int .i64 10, .int .i64 xr, .int .i64 xa, .int .i64 xb, .int .i64 xi, .int .i64 xn] 98:=ah.newAt _ rfl rfl;have HB:=Hz hb1;have KA:=Hz ((Kz w).alloc (.cells #[.int .i64 10, .int .i64 xr, .int .i64 xa, .int .i64 xb, .int .i64 xi, .int .i64 xn] 98));have s0:=hb1.cell 0;have s1:=hb1.cell 1;have s2:=hb1.cell 2;have s3:=hb1.cell 3;have s4:=hb1.cell 4;have s5:=hb1.cell 5;simp only [Lz,Ls] at s0 s1 s2 s3 s4 s5;have HSF:=Hz (fun w=>bh ⟨10,xr,xa,xb,xi,xn⟩ w);obtain ⟨c,hc⟩:∃ c,aP ⟨10,xr,xa,xb,xi,xn⟩=c:=⟨_,rfl⟩;rw [hc] at HSF;have HC:=Hz hc;clear H hb1 hc;go_enter Try.func60,Try.ntmps60;go_wp2_with (refine aT rfl 98 (.tmp 3) rfl [.int .i64 10, .int .i64 xr, .int .i64 xa, .int .i64 xb, .int .i64 xi, .int .i64 xn] (by kernel_rfl) w.heap.size 0 rfl (ab s0 (ab s1 (ab s2 (ab s3 (ab s4 (ab s5 aO)))))) ?_);refine (HSF.out _).mono ?_;rintro e w1 ⟨rfl,hk⟩;have H1:=Hz ((HH.out.same KA.out).same hk);have K1:=Hz (KA.out.trans hk);have B1:=Hz (hk.ai HB.out (fun h=>h));clear hk s0 s1 s2 s3 s4 s5 HSF KA HB;generalize w.heap.size=sb at *;have s0:=B1.out.cell 0;have s1:=B1.out.cell 1;have s2:=B1.out.cell 2;have s3:=B1.out.cell 3;have s4:=B1.out.cell 4;have s5:=B1.out.cell 5;have sl:=B1.out.lt;simp only [Lz,Ls] at s0 s1 s2 s3 s4 s5;by_cases h0:¬ c=0
 ·have HE:=Hz (cW (W:=W) HC.out h0);have hd:(c != 0)=true:=by simpa using h0
  clear h0;go_wp2_with fail;go_ret;exact ⟨by rw [HE.out];rfl,by rw [HE.out];exact aC.same HH.out K1.out⟩
 have h0:c=0:=Classical.not_not.1 h0;subst h0;have hr:0≤xr∧xr<12:=(aD _).1 ((aB HC.out).2.1 (show aH 10%2=1 by decide));obtain ⟨r,rfl⟩:∃ r:Nat,xr=r:=⟨xr.toNat,by omega⟩;have hr12:r<12:=by omega
 clear hr;have ha:0≤xa∧xa<12:=(aD _).1 ((aB HC.out).2.2.1 (show aH 10/2%2=1 by decide));obtain ⟨a,rfl⟩:∃ a:Nat,xa=a:=⟨xa.toNat,by omega⟩;have ha12:a<12:=by omega
 clear ha;have pl:=H1.out.hp.lt;have HP0:=Hz (show W.guard (a:Int)<0→W.do ⟨10,r,a,xb,xi,xn⟩=(2,W) from fun h=>sH (W:=W) (a:=(a:Int)) h r xb xi xn HC.out);have HPN:=Hz (show ¬ W.guard (a:Int)<0→popW W.wait (W.guard (a:Int))=none→W.do ⟨10,r,a,xb,xi,xn⟩=(4,W) from fun h h2=>qI (W:=W) (a:=(a:Int)) h h2 r xb xi xn HC.out);have HPS:=Hz (show ¬ W.guard (a:Int)<0→∀ q,popW W.wait (W.guard (a:Int))=some q→W.do ⟨10,r,a,xb,xi,xn⟩=(0, { W.bj r (3,q.1) with wait:=q.2 }) from fun h q h2=>qJ (W:=W) (a:=(a:Int)) (q:=q) h h2 r xb xi xn HC.out);have HGD:=Hz (my a ha12 H1.out);generalize W.guard (a:Int)=gi at *;go_wp2_with fail;refine HGD.out.mono ?_;rintro e w2 ⟨rfl,hk⟩;have H2:=Hz (H1.out.same hk);have K2:=Hz (K1.out.trans hk);have B2:=Hz (hk.ai B1.out (fun h=>h));clear hk s0 s1 s2 s3 s4 s5 sl pl HGD B1 H1 K1;have pl:=H2.out.hp.lt;by_cases hgi:gi<0
 ·have HE:=Hz (HP0.out hgi);go_wp2_with fail;go_ret;exact ⟨by rw [HE.out];rfl,by rw [HE.out];exact aC.same HH.out K2.out⟩
 have HPN:=Hz (HPN.out (by omega));have HPS:=Hz (HPS.out (by omega));have hgi:0≤gi:=by omega
 have hq:=H2.out.ok.hq;have hwl:W.wait.length≤24:=by omega
 clear HP0 hq;go_wp2_with fail;go_loopw [10] (fun u wr=>wr=w2∧∃ k:Nat,k≤W.wait.length∧u=.int .i64 k∧∀ j,j<k→(W.wait.getD j (0,0)).1≠gi) (fun u _=>W.wait.length-(intOf u).toNat)
 case atStart=>exact ⟨rfl,0,Nat.zero_le _,rfl,fun j hj=>by omega⟩
 case round=>
  obtain ⟨rfl,k,hk,rfl,hall⟩:=hrel;have HALL:=Hz hall;clear hall;obtain ⟨-,-,-,c3,-,-⟩:=H2.out.cells;by_cases hlt:k<W.wait.length
  ·obtain ⟨gw,ow,cw,cur,ewv,hb,hnc,hcm,hoc,hx⟩:=H2.out.hw.laid (by omega);have HW:=Hz H2.out.hw;rw [ewv] at c3;have hrd:Rd wr (some ⟨gw,ow,none⟩) (au W.wait):=Rd.ai hb ow _ (by rw [a7];exact hx);obtain ⟨_,_,e',hgl,d0,d1⟩:=hrd.dM k hlt;cases e';have HBK:=Hz hb;have HEW:=Hz ewv;have HX:=Hz hx;obtain ⟨v,hv⟩:∃ v,W.wait.getD k (0,0)=v:=⟨_,rfl⟩;rw [hv] at d0 d1;have HV:=Hz hv;clear hb ewv hx hrd hv;have hki:(k:Int)<W.wait.length:=by omega
   obtain ⟨v1,v2⟩:=v;dsimp only at d0 d1;by_cases hvg:v1=gi
   ·have hfd:findG gi W.wait=k:=hZ hlt HALL.out (by rw [HV.out];exact hvg);have hpw:=gL W.wait gi;rw [hfd,if_pos hlt,HV.out] at hpw;have HE:=Hz (HPS.out _ hpw);dsimp only at HE;have hpm:=iu hpw;have HWO:=Hz (H2.out.ok.wv _ hpm.1);have HPM:=Hz (show (∀ e ∈ W.wait.eraseIdx k,e ∈ W.wait)∧(W.wait.eraseIdx k).length+1=W.wait.length from ⟨hpm.2.1,hpm.2.2⟩);subst hvg;clear HPN HPS hfd hpw hpm HALL;obtain ⟨g,o,rc,erv,hg,-,-⟩:=H2.out.root hr12;have hrl:W.roots.length=12:=H2.out.ok.hr;obtain ⟨-,c1,-,-,-,-⟩:=H2.out.cells;have hrs:=H2.out.hr;rw [erv,hrl] at c1 hrs;have RS:=Hz hrs;have ERV:=Hz erv;have HRL:=Hz hrl;have h12:(r:Int)<12:=by omega
    clear erv hrl hrs;have s1:=B2.out.cell 1;have sl:=B2.out.lt;simp only [Lz,Ls] at s1;have HV:=Hz (show W.cO (3,v2) from .inr (.inr (.inr ⟨rfl,HWO.out.2.2⟩)));go_wp2_with fail;refine aq (.free 0 (.free 1 (.free 2 (.free 4 (.free 6 (.free 7 (.free 8 (.free 10 (.pure 3 (.pure 5 (.pure 9 (.free 11 (.free 12 (.pure 13 (.free 14 (.free 15 (.run 16 (.swi [] (.fin))))))))))))))))))) [16] (fun w'=>w'.cell? ⟨h.p,1,none⟩=some (.slice (some ⟨g,o,none⟩) 12 rc)∧w'.cell? ⟨sb,1,none⟩=some (.int .i64 r)∧w'.cell? ⟨h.p,3,none⟩=some (.slice (some ⟨gw,ow,none⟩) W.wait.length cw)∧w'.cell? ⟨gw,ow+k*2+1,none⟩=some (.int .i64 v2)) (by kernel_rfl) (by kernel_rfl) ⟨c1,s1,c3,d1⟩ ?_
    iterate 16 ((first | refine ak rfl rfl fun K hK=>?_ | refine aj rfl rfl fun K hK=>?_ | refine ay rfl rfl fun K hK=>?_ | refine av rfl rfl fun K hK=>?_ | refine ax rfl rfl fun K hK=>?_);go_simp;refine hK _ ?_;clear hK K)
    refine aG rfl rfl rfl (fun K hK=>?_);refine aS 78 (.tmp 205) (.tmp 204) rfl rfl g o 12 rc r (au W.roots) 78 (.int .i64 (3)) (.int .i64 (v2)) rfl rfl (RS.out.ae (Kz wr).drew (fun _ _ h=>h)) hr12 (by kernel_rfl) rfl rfl ?_;intro w3 hs3 hk3 hz3;refine hK _ _ ?_;clear hK K;refine aE (fun _=>True) trivial (aA ?_);have hkw:aa (·=g) wr w3:=((Kz wr).drew.mono (fun _ _ h=>h.elim)).trans hk3;have TO:=Hz (aC.aN K2.out (H2.out.dh (w':=w3) (by rw [ERV.out]) hr12 HV.out (by rw [HRL.out];exact hs3) hkw));clear hkw hs3 hk3 hz3;obtain ⟨h3,H3',ep3,k3,o3⟩:=TO.out;have H3:=Hz H3';have EP3:=Hz ep3;have K3:=Hz k3;have O3:=Hz o3;rw [←ep3];clear TO H3' k3 o3 c1 s1 c3 d1 d0 sl pl hgl hg ep3 HBK HX HEW HW hnc hcm hoc RS;have hw3:Sl w3 159 2 h3.wv W.wait.length (au W.wait):=H3.out.hw;have HW3:=Hz hw3;obtain ⟨gw,ow,cw,cur,ewv,hb,hnc,hcm,hoc,hx⟩:=hw3.laid (by omega);obtain ⟨-,-,-,c3,-,-⟩:=H3.out.cells;have pl:=H3.out.hp.lt;rw [ewv] at c3;have HBK:=Hz hb;have HX:=Hz hx;have HEW:=Hz ewv;have HOC:=Hz hoc;clear hw3 hb hx ewv hoc;obtain ⟨m,hm⟩:∃ m,W.wait.length=k+1+m:=⟨W.wait.length-k-1,by omega⟩;have HM:=Hz hm;rw [hm] at c3;obtain ⟨ad,had⟩:∃ ad,(if cw=k+1 then some (⟨gw,ow,none⟩:Addr) else some ⟨gw,ow+(k+1)*2,none⟩)=ad:=⟨_,rfl⟩;have HAD:=Hz had;obtain ⟨ir,hi,hz0,hz1,hz2⟩:=bB i4;have Ri:=Hz hi;have Rz0:=Hz hz0;have Rz1:=Hz hz1;have Rz2:=Hz hz2;clear hi hz0 hz1 hz2;have b1:(0:Int)≤(k:Int)+1:=by omega
    have b2:(k:Int)+1≤((k+1+m:Nat):Int):=by omega
    have b3:(k:Int)+1≤(k:Int)+1+(m:Int):=by omega
    have b4:(k:Int)≤(cw:Int):=by omega
    have b5:(k:Int)≤((k+1+m:Nat):Int):=by omega
    have b6:(k:Int)≤(k:Int)+1+(m:Int):=by omega
    have HBD:=Hz (show k+1+m≤cw∧k+1+m≤24 by omega);have wr1:IntKind.i64.wrap ((k:Int)+1)=k+1:=IntWalk.i64_in _ (by omega);clear hm hki hlt hk hwl hnc;go_wp2_with fail;refine aq (.free 0 (.free 1 (.free 2 (.free 3 (.free 4 (.free 6 (.free 9 (.free 10 (.free 11 (.free 13 (.free 14 (.pure 5 (.free 7 (.pure 12 (.free 15 (.run 8 (.run 16 (.swi [19] (.free 17 (.free 18 (.run 19 (.swi [] (.fin))))))))))))))))))))))) [16,17,18,19] (fun w'=>w'.cell? ⟨h3.p,3,none⟩=some (.slice (some ⟨gw,ow,none⟩) (k+1+m) cw)) (by kernel_rfl) (by kernel_rfl) c3 ?_
    iterate 15 ((first | refine ak rfl rfl fun K hK=>?_ | refine aj rfl rfl fun K hK=>?_ | refine ay rfl rfl fun K hK=>?_ | refine av rfl rfl fun K hK=>?_ | refine ax rfl rfl fun K hK=>?_);go_simp;refine hK _ ?_;clear hK K)
    refine aZ rfl rfl (fun K hK=>?_);have hr0:Rd w3.drew (some ⟨gw,ow,none⟩) ((au W.wait).take (k*2)):=Rd.ai HBK.out.drew ow _ (by
     rw [List.length_take,a7,Nat.min_eq_left (by have:=HM.out;omega),←HX.out,List.take_take,Nat.min_eq_left (by have:=HM.out;omega)])
    refine kR (.tmp 207) (.tmp 213) 148 rfl 159 ir (.agg #[.int .i64 0, .int .i64 0]) 2 16 Try.underlying148 Ri.out Rz0.out Rz1.out Rz2.out rfl (by decide) _ 0 [] rfl (Sl.nil _ _ _) (some ⟨gw,ow,none⟩) k cw ((au W.wait).take (k*2)) rfl (by rw [List.length_take,a7];have:=HM.out;omega) hr0 (fun u hu=>mH _ u (List.mem_of_mem_take hu)) (by have:=HBD.out;unfold maxLen;omega) (by have:=HBD.out;omega) ?_;intro v4 w4 hs4 hk4 ho4;have hk4':aa (fun _=>False) w3 w4:=((Kz w3).drew).trans (hk4.mono (fun j _ hj=>(bJ hj).elim));have H4:=Hz (H3.out.same hk4');have BK4:=Hz (hk4'.ai HBK.out (fun h=>h));have K4:=Hz hk4';have SL4:=Hz hs4;have O4:=Hz (show ∀ j,ag v4 j→w3.heap.size≤j from fun j hj=>by
     rcases ho4 j hj with h1 | h1
     ·exact (bJ h1).elim
     ·exact h1)
    refine hK _ _ (fun _=>by have:=H4.out.cells.2.2.2.1;rw [HEW.out,HM.out] at this;exact this) ?_;clear hK K hs4 hk4 hk4' ho4 hr0;have hr1:Rd w4 ad ((au W.wait).drop ((k+1)*2)):=by
     by_cases hcc:cw=k+1
     ·have hz:(au W.wait).drop ((k+1)*2)=[]:=by
       apply List.drop_eq_nil_of_le;rw [a7];have:=HM.out;have:=HBD.out;omega
      rw [hz];exact Rd.nil _ _
     ·have:ad=some ⟨gw,ow+(k+1)*2,none⟩:=by rw [←HAD.out,if_neg hcc]
      subst this;refine Rd.ai BK4.out _ _ ?_;rw [List.length_drop,a7]
      conv=>rhs;rw [←HX.out]
      rw [List.drop_take,List.drop_drop]
    refine aG rfl rfl rfl (fun K hK=>?_);refine kR (.tmp 214) (.tmp 221) 148 rfl 159 ir (.agg #[.int .i64 0, .int .i64 0]) 2 16 Try.underlying148 Ri.out Rz0.out Rz1.out Rz2.out rfl (by decide) _ (0+k) ([] ++ (au W.wait).take (k*2)) rfl SL4.out ad m (cw-(k+1)) ((au W.wait).drop ((k+1)*2)) ?hx (by rw [List.length_drop,a7];have:=HM.out;omega) hr1 (fun u hu=>mH _ u (List.mem_of_mem_drop hu)) (by have:=HBD.out;unfold maxLen;omega) (by have:=HBD.out;omega) ?_
    case hx=>
     simp only [Act.eval,Act.put]
     go_simp
    intro v5 w5 hs5 hk5 ho5;have hlen:(W.wait.eraseIdx k).length=0+k+m:=by rw [List.length_eraseIdx,if_pos (by have:=HM.out;omega)];have:=HM.out;omega
    have hs5':Sl w5 159 2 v5 (W.wait.eraseIdx k).length (au (W.wait.eraseIdx k)):=by
     rw [hlen];have e2:au (W.wait.eraseIdx k)=[] ++ (au W.wait).take (k*2) ++ (au W.wait).drop ((k+1)*2):=by rw [fI (by have:=HM.out;omega)];rfl
     rw [e2];exact hs5
    obtain ⟨vo5,vc5,rfl,-,-,-⟩:=hs5'.rd;have hkk:aa (fun _=>False) w3 w5:=K4.out.then hk5 (fun j hj=>.inr (O4.out j hj));have hto:=H3.out.s6 (w1:=w5) hs5' (hkk.mono (fun _ _ h=>h.elim)) (fun j hj=>.inr (by
     rcases ho5 j hj with h1 | h1
     ·exact O4.out j h1
     ·exact Nat.le_trans K4.out.size h1)) (H3.out.ok.sI HPM.out.1 (by have:=HPM.out.2;show (W.wait.eraseIdx k).length≤W.wait.length;omega))
    have hp5:=hkk.ai H3.out.hp (fun h=>h);have TO:=Hz (aC.step EP3.out K3.out O3.out hto);have x0:=hp5.cell 3;have xl:=hp5.lt;have xf:=hp5.free 3;simp only [Lz,Ls] at x0;refine hK _ _ ?_;clear hK K hs5 hs5' hk5 ho5 hlen hkk hto hp5 c3 pl hr1;refine aE (fun _=>True) trivial ?_
    iterate 2 ((first | refine ak rfl rfl fun K hK=>?_ | refine aj rfl rfl fun K hK=>?_);go_simp;refine hK _ ?_;clear hK K)
    refine aG rfl rfl rfl (fun K hK=>?_);unfold aM;go_simp;refine hK _ _ ?_;clear hK K;refine aE (fun _=>True) trivial (aA ?_);clear x0 xl xf;go_wp2_with fail;go_ret;exact ⟨by rw [HE.out];rfl,by rw [HE.out];exact TO.out⟩
   ·have hne:(v1 == gi)=false:=by simpa using hvg
    have HAN:=Hz (show ∀ j,j<k+1→(W.wait.getD j (0,0)).1≠gi from fun j hj=>by
     by_cases e:j=k
     ·subst e;rw [HV.out];exact hvg
     ·exact HALL.out j (by omega))
    clear hvg;go_wp2_with fail;go_roundw
    case rel=>exact ⟨by trivial,k+1,hlt,by go_num,HAN.out⟩
    case measure=>simp [intOf];omega
  ·obtain rfl:k=W.wait.length:=by omega
   have hpw:=gL W.wait gi;rw [if_neg (by rw [ia (fun j hj=>HALL.out j hj)];omega)] at hpw;have HE:=Hz (HPN.out hpw);obtain ⟨wo,wc,ewv,-,-,-⟩:=H2.out.hw.rd;rw [ewv] at c3;clear hpw ewv;go_wp2_with fail;go_ret;exact ⟨by rw [HE.out];rfl,by rw [HE.out];exact aC.same HH.out K2.out⟩
end
end
section
open Go.RowKit
section
variable {w:World} {h:RW} {W:Wd}
theorem qL (xr xa xb xi xn:Int) (H:aK w h W) :
  Calls Try.prog 60 #[.pointer (some ⟨h.p,0,none⟩), .agg #[.int .i64 2, .int .i64 xr, .int .i64 xa, .int .i64 xb, .int .i64 xi, .int .i64 xn]] w fun e w'=>e=.returned (.int .i64 (W.do ⟨2,xr,xa,xb,xi,xn⟩).1)∧aC w h w' (W.do ⟨2,xr,xa,xb,xi,xn⟩).2:=by
 have HH:=Hz H;have hb1:ah (w.alloc (.cells #[.int .i64 2, .int .i64 xr, .int .i64 xa, .int .i64 xb, .int .i64 xi, .int .i64 xn] 98)) w.heap.size [.int .i64 2, .int .i64 xr, .int .i64 xa, .int .i64 xb, .int .i64 xi, .int .i64 xn] 98:=ah.newAt _ rfl rfl;have HB:=Hz hb1;have KA:=Hz ((Kz w).alloc (.cells #[.int .i64 2, .int .i64 xr, .int .i64 xa, .int .i64 xb, .int .i64 xi, .int .i64 xn] 98));have s0:=hb1.cell 0;have s1:=hb1.cell 1;have s2:=hb1.cell 2;have s3:=hb1.cell 3;have s4:=hb1.cell 4;have s5:=hb1.cell 5;simp only [Lz,Ls] at s0 s1 s2 s3 s4 s5;have HSF:=Hz (fun w=>bh ⟨2,xr,xa,xb,xi,xn⟩ w);obtain ⟨c,hc⟩:∃ c,aP ⟨2,xr,xa,xb,xi,xn⟩=c:=⟨_,rfl⟩;rw [hc] at HSF;have HC:=Hz hc;clear H hb1 hc;go_enter Try.func60,Try.ntmps60;go_wp2_with (refine aT rfl 98 (.tmp 3) rfl [.int .i64 2, .int .i64 xr, .int .i64 xa, .int .i64 xb, .int .i64 xi, .int .i64 xn] (by kernel_rfl) w.heap.size 0 rfl (ab s0 (ab s1 (ab s2 (ab s3 (ab s4 (ab s5 aO)))))) ?_);refine (HSF.out _).mono ?_;rintro e w1 ⟨rfl,hk⟩;have H1:=Hz ((HH.out.same KA.out).same hk);have K1:=Hz (KA.out.trans hk);have B1:=Hz (hk.ai HB.out (fun h=>h));clear hk s0 s1 s2 s3 s4 s5 HSF KA HB;generalize w.heap.size=sb at *;have s0:=B1.out.cell 0;have s1:=B1.out.cell 1;have s5:=B1.out.cell 5;have sl:=B1.out.lt;simp only [Lz,Ls] at s0 s1 s5;by_cases h0:c=0
 ·subst h0;have hr:=(aB HC.out).2.1 (show aH 2%2=1 by decide);have hr:0≤xr∧xr<12:=(aD _).1 hr;have HE:=Hz (show W.do ⟨2,xr,xa,xb,xi,xn⟩=(0,W.bj xr (0,0)) by rw [bE HC.out];rfl);have HN:=Hz (show W.cO (0,0) from .inl ⟨rfl,rfl⟩);obtain ⟨r,rfl⟩:∃ r:Nat,xr=r:=⟨xr.toNat,by omega⟩;have hr12:r<12:=by omega
  obtain ⟨g,o,rc,erv,hg,-,-⟩:=H1.out.root hr12;have hrl:W.roots.length=12:=H1.out.ok.hr;obtain ⟨-,c1,-,-,-,-⟩:=H1.out.cells;have pl:=H1.out.hp.lt;have hrs:=H1.out.hr;rw [erv,hrl] at c1 hrs;have RS:=Hz hrs;have ERV:=Hz erv;have HRL:=Hz hrl;have h12:(r:Int)<12:=by omega
  clear erv hrl hrs hr;go_wp2_with fail;refine aq (.free 0 (.free 1 (.free 2 (.free 4 (.free 6 (.pure 3 (.pure 5 (.free 7 (.run 8 (.swi [] (.fin))))))))))) [8] (fun w'=>w'.cell? ⟨h.p,1,none⟩=some (.slice (some ⟨g,o,none⟩) 12 rc)∧w'.cell? ⟨sb,1,none⟩=some (.int .i64 r)) (by kernel_rfl) (by kernel_rfl) ⟨c1,s1⟩ ?_
  iterate 8 ((first | refine ak rfl rfl fun K hK=>?_ | refine aj rfl rfl fun K hK=>?_ | refine ay rfl rfl fun K hK=>?_ | refine av rfl rfl fun K hK=>?_ | refine ax rfl rfl fun K hK=>?_);go_simp;refine hK _ ?_;clear hK K)
  refine aG rfl rfl rfl (fun K hK=>?_);refine aS 78 (.tmp 44) (.tmp 43) rfl rfl g o 12 rc r (au W.roots) 78 (.int .i64 0) (.int .i64 0) rfl rfl (RS.out.ae (Kz w1).drew (fun _ _ h=>h)) hr12 (by kernel_rfl) rfl rfl ?_;intro w3 hs3 hk3 hz3;refine hK _ _ ?_;clear hK K;refine aE (fun _=>True) trivial (aA ?_);have hkw:aa (·=g) w1 w3:=((Kz w1).drew.mono (fun _ _ h=>h.elim)).trans hk3;have TO:=Hz (aC.aN K1.out (H1.out.dh (w':=w3) (by rw [ERV.out]) hr12 HN.out (by rw [HRL.out];exact hs3) hkw));clear hkw hs3 hk3 hz3 c1 s1 s5 s0;go_wp2_with fail;go_ret;exact ⟨by rw [HE.out];rfl,by rw [HE.out];exact TO.out⟩
 ·have HE:=Hz (cW (W:=W) HC.out h0);have hd:(c != 0)=true:=by simpa using h0
  clear h0;go_wp2_with fail;go_ret;exact ⟨by rw [HE.out];rfl,by rw [HE.out];exact aC.same HH.out K1.out⟩
end
end
section
open Go.RowKit
section
variable {w:World} {h:RW} {W:Wd}
theorem qM (xr xa xb xi xn:Int) (H:aK w h W) :
  Calls Try.prog 60 #[.pointer (some ⟨h.p,0,none⟩), .agg #[.int .i64 11, .int .i64 xr, .int .i64 xa, .int .i64 xb, .int .i64 xi, .int .i64 xn]] w fun e w'=>e=.returned (.int .i64 (W.do ⟨11,xr,xa,xb,xi,xn⟩).1)∧aC w h w' (W.do ⟨11,xr,xa,xb,xi,xn⟩).2:=by
 have HH:=Hz H;have hb1:ah (w.alloc (.cells #[.int .i64 11, .int .i64 xr, .int .i64 xa, .int .i64 xb, .int .i64 xi, .int .i64 xn] 98)) w.heap.size [.int .i64 11, .int .i64 xr, .int .i64 xa, .int .i64 xb, .int .i64 xi, .int .i64 xn] 98:=ah.newAt _ rfl rfl;have HB:=Hz hb1;have KA:=Hz ((Kz w).alloc (.cells #[.int .i64 11, .int .i64 xr, .int .i64 xa, .int .i64 xb, .int .i64 xi, .int .i64 xn] 98));have s0:=hb1.cell 0;have s1:=hb1.cell 1;have s2:=hb1.cell 2;have s3:=hb1.cell 3;have s4:=hb1.cell 4;have s5:=hb1.cell 5;simp only [Lz,Ls] at s0 s1 s2 s3 s4 s5;have HSF:=Hz (fun w=>bh ⟨11,xr,xa,xb,xi,xn⟩ w);obtain ⟨c,hc⟩:∃ c,aP ⟨11,xr,xa,xb,xi,xn⟩=c:=⟨_,rfl⟩;rw [hc] at HSF;have HC:=Hz hc;clear H hb1 hc;go_enter Try.func60,Try.ntmps60;go_wp2_with (refine aT rfl 98 (.tmp 3) rfl [.int .i64 11, .int .i64 xr, .int .i64 xa, .int .i64 xb, .int .i64 xi, .int .i64 xn] (by kernel_rfl) w.heap.size 0 rfl (ab s0 (ab s1 (ab s2 (ab s3 (ab s4 (ab s5 aO)))))) ?_);refine (HSF.out _).mono ?_;rintro e w1 ⟨rfl,hk⟩;have H1:=Hz ((HH.out.same KA.out).same hk);have K1:=Hz (KA.out.trans hk);have B1:=Hz (hk.ai HB.out (fun h=>h));clear hk s0 s1 s2 s3 s4 s5 HSF KA HB;generalize w.heap.size=sb at *;have s0:=B1.out.cell 0;have s1:=B1.out.cell 1;have s2:=B1.out.cell 2;have s3:=B1.out.cell 3;have s4:=B1.out.cell 4;have s5:=B1.out.cell 5;have sl:=B1.out.lt;simp only [Lz,Ls] at s0 s1 s2 s3 s4 s5;by_cases h0:¬ c=0
 ·have HE:=Hz (cW (W:=W) HC.out h0);have hd:(c != 0)=true:=by simpa using h0
  clear h0;go_wp2_with fail;go_ret;exact ⟨by rw [HE.out];rfl,by rw [HE.out];exact aC.same HH.out K1.out⟩
 have h0:c=0:=Classical.not_not.1 h0;subst h0;have ha:0≤xa∧xa<12:=(aD _).1 ((aB HC.out).2.2.1 (show aH 11/2%2=1 by decide));obtain ⟨a,rfl⟩:∃ a:Nat,xa=a:=⟨xa.toNat,by omega⟩;have ha12:a<12:=by omega
 clear ha;have hth:=gz a ha12 H1.out;have htl:=Wd.bI (W:=W) (k:=(a:Int)) H1.out.ok;obtain ⟨ti,hti⟩:∃ ti,W.aw (a:Int)=ti:=⟨_,rfl⟩;rw [hti] at hth htl;have HTI:=Hz hti;have HTH:=Hz hth;have HTL:=Hz (fun (hn:0≤ti)=>htl (by omega));clear hti hth htl;have pl:=H1.out.hp.lt;go_wp2_with fail;refine HTH.out.mono ?_;rintro e w2 ⟨rfl,hk⟩;have H2:=Hz (H1.out.same hk);have K2:=Hz (K1.out.trans hk);have B2:=Hz (hk.ai B1.out (fun h=>h));clear hk s0 s1 s2 s3 s4 s5 sl pl HTH B1 H1 K1;have s0:=B2.out.cell 0;have s1:=B2.out.cell 1;have s2:=B2.out.cell 2;have s3:=B2.out.cell 3;have s4:=B2.out.cell 4;have sl:=B2.out.lt;have pl:=H2.out.hp.lt;simp only [Lz,Ls] at s0 s1 s2 s3 s4;by_cases hi:ti<0
 ·have hd:decide (ti<0)=true:=by simpa using hi
  have HF:=Hz (show W.aV ⟨11,xr,a,xb,xi,xn⟩=2 by unfold Wd.aV;dsimp only;rw [HTI.out,if_pos (.inl hi)]);have HE:=Hz (show W.do ⟨11,xr,a,xb,xi,xn⟩=(2,W) by rw [bE HC.out];show Wd.get _ _=_;unfold Wd.get;rw [HF.out];rfl);clear hi;go_wp2_with fail;go_ret;exact ⟨by rw [HE.out];rfl,by rw [HE.out];exact aC.same HH.out K2.out⟩
 have hd:decide (ti<0)=false:=by simpa using hi
 have HLV:=Hz (HTL.out (by omega));obtain ⟨m,rfl,g0,o0,nc,ao,fc,etv,hm,hg0,t0,t1,hrd,hog⟩:=H2.out.nth HLV.out;obtain ⟨c0,-,-,-,-,-⟩:=H2.out.cells;rw [etv] at c0;have HRD:=Hz hrd;have HOG:=Hz hog;have ETV:=Hz etv;have HTI2:=Hz (show W.aw (a:Int)=(m:Int) from HTI.out);have HFB:=Hz (Wd.iy H2.out.ok HLV.out);clear hi HTL hrd hog etv HTI;by_cases h5:(W.th m).k=5
 ·have HF:=Hz (show W.aV ⟨11,xr,a,xb,xi,xn⟩=2 by unfold Wd.aV;dsimp only;rw [HTI2.out,if_pos (.inr h5)]);have HE:=Hz (show W.do ⟨11,xr,a,xb,xi,xn⟩=(2,W) by rw [bE HC.out];show Wd.get _ _=_;unfold Wd.get;rw [HF.out];rfl);rw [h5] at t0;clear h5;go_wp2_with fail;go_ret;exact ⟨by rw [HE.out];rfl,by rw [HE.out];exact aC.same HH.out K2.out⟩
 have hb5:((W.th m).k == 5)=false:=by simpa using h5
 have HFC:=Hz (show W.aV ⟨11,xr,a,xb,xi,xn⟩=if xi<0∨((W.th m).fs.length:Int)≤xi then 1 else 0 by unfold Wd.aV;dsimp only;rw [HTI2.out,if_neg (fun e=>by rcases e with e | e;omega;exact h5 e)]);have hfl:=HFB.out;obtain ⟨fs,hfs⟩:∃ fs,(W.th m).fs=fs:=⟨_,rfl⟩;rw [hfs] at HFC HRD t1 hfl;have HFS:=Hz hfs;clear h5 hfs HFB;generalize (W.th m).k=q at *;by_cases i0:xi<0
 ·have hd0:decide (xi<0)=true:=by simpa using i0
  have HF:=Hz (show W.aV ⟨11,xr,a,xb,xi,xn⟩=1 by rw [HFC.out,if_pos (.inl i0)]);have HE:=Hz (show W.do ⟨11,xr,a,xb,xi,xn⟩=(1,W) by rw [bE HC.out];show Wd.get _ _=_;unfold Wd.get;rw [HF.out];rfl);clear i0;go_wp2_with fail;go_ret;exact ⟨by rw [HE.out];rfl,by rw [HE.out];exact aC.same HH.out K2.out⟩
 have hd0:decide (xi<0)=false:=by simpa using i0
 obtain ⟨i,rfl⟩:∃ i:Nat,xi=i:=⟨xi.toNat,by omega⟩;by_cases i1:fs.length≤i
 ·have hd1:decide (fs.length≤i)=true:=by simpa using i1
  have HF:=Hz (show W.aV ⟨11,xr,a,xb,i,xn⟩=1 by rw [HFC.out,if_pos (.inr (by omega))]);have HE:=Hz (show W.do ⟨11,xr,a,xb,i,xn⟩=(1,W) by rw [bE HC.out];show Wd.get _ _=_;unfold Wd.get;rw [HF.out];rfl);clear i1 i0;go_wp2_with fail;go_ret;exact ⟨by rw [HE.out];rfl,by rw [HE.out];exact aC.same HH.out K2.out⟩
 have hd1:decide (fs.length≤i)=false:=by simpa using i1
 have hil:i<fs.length:=by omega
 have HF:=Hz (show W.aV ⟨11,xr,a,xb,i,xn⟩=0 by rw [HFC.out,if_neg (by omega)]);clear i0 i1 HFC;have hr:0≤xr∧xr<12:=(aD _).1 ((aB HC.out).2.1 (show aH 11%2=1 by decide));obtain ⟨r,rfl⟩:∃ r:Nat,xr=r:=⟨xr.toNat,by omega⟩;have hr12:r<12:=by omega
 obtain ⟨g,o,rc,erv,hg,-,-⟩:=H2.out.root hr12;have hrl:W.roots.length=12:=H2.out.ok.hr;obtain ⟨-,c1,-,-,-,-⟩:=H2.out.cells;have hrs:=H2.out.hr;rw [erv,hrl] at c1 hrs;have RS:=Hz hrs;have ERV:=Hz erv;have HRL:=Hz hrl;have h12:(r:Int)<12:=by omega
 clear erv hrl hrs;clear hr;obtain ⟨gf,of,rfl,hgf,f0,f1⟩:=HRD.out.val i hil;have HV:=Hz (show W.cO (fs.getD i (0,0)) from H2.out.ok.tv m HLV.out _ (by rw [HFS.out,Ld,Le hil];exact List.getElem_mem hil));have HE:=Hz (show W.do ⟨11,r,a,xb,i,xn⟩=(0,W.bj r (fs.getD i (0,0))) by rw [bE HC.out];show Wd.get _ _=_;unfold Wd.get;rw [HF.out,if_pos rfl];dsimp only;rw [HTI2.out,HFS.out,Int.toNat_natCast]);generalize fs.getD i (0,0)=v at *;obtain ⟨v1,v2⟩:=v;dsimp only at f0 f1;go_wp2_with fail;refine aq (.free 0 (.free 1 (.free 2 (.free 4 (.free 6 (.free 7 (.free 8 (.free 10 (.free 14 (.pure 3 (.pure 5 (.pure 9 (.free 11 (.free 12 (.pure 13 (.pure 15 (.free 16 (.pure 17 (.free 18 (.run 19 (.swi [] (.fin)))))))))))))))))))))) [19] (fun w'=>w'.cell? ⟨h.p,1,none⟩=some (.slice (some ⟨g,o,none⟩) 12 rc)∧w'.cell? ⟨sb,1,none⟩=some (.int .i64 r)∧w'.cell? ⟨h.p,0,none⟩=some (.slice (some ⟨g0,o0,none⟩) W.T.length nc)∧w'.cell? ⟨g0,o0+m*4+1,none⟩=some (.slice (some ⟨gf,of,none⟩) fs.length fc)∧w'.cell? ⟨sb,4,none⟩=some (.int .i64 i)∧w'.cell? ⟨gf,of+i*2,none⟩=some (.int .i64 v1)∧w'.cell? ⟨gf,of+i*2+1,none⟩=some (.int .i64 v2)) (by kernel_rfl) (by kernel_rfl) ⟨c1,s1,c0,t1,s4,f0,f1⟩ ?_
 iterate 19 ((first | refine ak rfl rfl fun K hK=>?_ | refine aj rfl rfl fun K hK=>?_ | refine ay rfl rfl fun K hK=>?_ | refine av rfl rfl fun K hK=>?_ | refine ax rfl rfl fun K hK=>?_);go_simp;refine hK _ ?_;clear hK K)
 refine aG rfl rfl rfl (fun K hK=>?_);refine aS 78 (.tmp 298) (.tmp 297) rfl rfl g o 12 rc r (au W.roots) 78 (.int .i64 (v1)) (.int .i64 (v2)) rfl rfl (RS.out.ae (Kz w2).drew (fun _ _ h=>h)) hr12 (by kernel_rfl) rfl rfl ?_;intro w3 hs3 hk3 hz3;refine hK _ _ ?_;clear hK K;refine aE (fun _=>True) trivial (aA ?_);have hkw:aa (·=g) w2 w3:=((Kz w2).drew.mono (fun _ _ h=>h.elim)).trans hk3;have TO:=Hz (aC.aN K2.out (H2.out.dh (w':=w3) (by rw [ERV.out]) hr12 HV.out (by rw [HRL.out];exact hs3) hkw));clear hkw hs3 hk3 hz3;clear c1 s1 c0 t1 s4 f0 f1 s0 s2 s3 t0;go_wp2_with fail;go_ret;exact ⟨by rw [HE.out];rfl,by rw [HE.out];exact TO.out⟩
end
end
end Go.Proofs.Ytjifdalflepcoab
