/-
  Parts of the proof, merged: what the functions do, and plain laws.
-/
import Derived.Test.YtjifdalflepcoacGreatHDesP8
import Derived.Test.YtjifdalflepcoacGreatHDesP0
import Derived.Test.YtjifdalflepcoacGreatHDesP1
set_option maxHeartbeats 16000000
set_option maxRecDepth 100000
set_option linter.unusedVariables false
set_option linter.unusedSimpArgs false
namespace Go.Proofs.YtjifdalflepcoacGreat
section
open Go.RowKit
section
variable {w w':World} {g:iz} {h:RW} {W:Wd} {rv mv nv:Value} {F:Nat→Prop} {s:VS}
theorem ab.cellAt {S:Nat→Prop} {w w':World} (k:ab S w w') {b:Nat} (hb:b<w.heap.size) (hn:¬ S b) (i:Nat):w'.cell? ⟨b,i,none⟩=w.cell? ⟨b,i,none⟩:=
 World.cell?_of_block (w:=w) (a:=⟨b,i,none⟩) (k.block b hb hn)
theorem dO.AD {x:Int} {wr wa w2:World} {v':Value} (V:dO wr g h W rv mv nv F s) (ka:ab (fun _=>False) wr wa) (hs:Sl w2 3 1 v' (s.1.length+1) (s.1.map (Value.int .i64) ++ [.int .i64 x])) (hk:ab (ai mv) wa w2)
  (ho:∀ k,ai v' k→ai mv k∨wa.heap.size≤k) (h0:0≤x∧x≤1000000):iO wr g h W rv mv nv F (s.1 ++ [x],s.2) (w2.setCell ⟨g.mb,0,none⟩ v'):=by
 have k1:ab (ai mv) wr w2:=(ka.mono (fun _ _ h=>h.elim)).trans hk;have nm:∀ {b:Nat} {c:List Value} {T:TypeId},ah wr b c T→T≠3→¬ ai mv b:=fun hb hT e=>by obtain ⟨_,c',hc'⟩:=V.M.own e;exact hb.ne hc' hT rfl
 have hm2:=k1.ak V.hm (nm V.hm (by decide));have set:=(ab.refl (·=g.mb) w2).setCell (p:=⟨g.mb,0,none⟩) (.inl rfl) v';have kk:ab (fun k=>ai mv k∨k=g.mb) wr (w2.setCell ⟨g.mb,0,none⟩ v'):=(k1.mono (fun _ _ h=>.inl h)).then set (fun b hb=>.inl (.inr hb));have nb:∀ {b:Nat} {c:List Value} {T:TypeId},ah wr b c T→T≠3→T≠83→¬ (ai mv b∨b=g.mb):=fun hb h1 h2 e=>by
  rcases e with e | e
  ·exact nm hb h1 e
  ·exact hb.ne V.hm h2 e
 refine ⟨v',nv,F,⟨V.H.ae kk (fun b hb=>?_),by simpa using hm2.aO 0 v',kk.ak V.hw (nb V.hw (by decide) (by decide)),kk.ak V.hv (nb V.hv (by decide) (by decide)),kk.ak V.hf (nb V.hf (by decide) (by decide)),?_,V.N.ae kk (fun b hb _=>?_) (fun b hb=>?_),fun b hb=>?_,fun i hi=>?_⟩,kk.mono (fun b _ hb=>?_),fun k hk'=>(ho k hk').imp id (fun h=>Nat.le_trans ka.size h),fun k hk'=>.inl hk',fun k hk'=>.inl hk'⟩
 ·obtain ⟨_,c,T,hc,hT⟩:=V.H.bB hb;rcases hT with rfl | rfl | rfl | rfl <;> exact nb hc (by decide) (by decide)
 ·rw [List.length_append,List.map_append];exact hs.ae set (fun b hb e=>by obtain ⟨_,c,hc⟩:=hs.own hb;exact hc.ne hm2 (by decide) e)
 ·obtain ⟨_,c,hc⟩:=V.hF b hb;exact nb hc (by decide) (by decide)
 ·obtain ⟨_,c,hc⟩:=V.N.own hb;exact nb hc (by decide) (by decide)
 ·obtain ⟨a,c,hc⟩:=V.hF b hb;exact ⟨Nat.lt_of_lt_of_le a kk.size,c,kk.ak hc (nb hc (by decide) (by decide))⟩
 ·rcases List.mem_append.1 hi with h1 | h1
  ·exact V.bd i h1
  ·simp at h1;subst h1;exact h0
 ·rcases hb with hb | hb
  ·exact .inr (.inr (.inl hb))
  ·exact .inl hb
theorem dO.zh {kd:Int} {wr wa w2:World} {v':Value} (V:dO wr g h W rv mv nv F s) (ka:ab (fun _=>False) wr wa) (cs:List Value) (hcs:cn 2 (fL wr F) s.2 cs) (hs:Sl w2 139 2 v' (s.2.length+1) (cs ++ [.int .i64 kd, .slice none 0 0])) (hk:ab (ai nv) wa w2)
  (ho:∀ k,ai v' k→ai nv k∨wa.heap.size≤k):iO wr g h W rv mv nv F (s.1,s.2 ++ [(kd,[])]) (w2.setCell ⟨g.vb,1,none⟩ v'):=by
 have k1:ab (ai nv) wr w2:=(ka.mono (fun _ _ h=>h.elim)).trans hk;have nm:∀ {b:Nat} {c:List Value} {T:TypeId},ah wr b c T→T≠139→¬ ai nv b:=fun hb hT e=>by obtain ⟨_,c',hc'⟩:=V.N.own e;exact hb.ne hc' hT rfl
 have hv2:=k1.ak V.hv (nm V.hv (by decide));have set:=(ab.refl (·=g.vb) w2).setCell (p:=⟨g.vb,1,none⟩) (.inl rfl) v';have kk:ab (fun k=>ai nv k∨k=g.vb) wr (w2.setCell ⟨g.vb,1,none⟩ v'):=(k1.mono (fun _ _ h=>.inl h)).then set (fun b hb=>.inl (.inr hb));have nb:∀ {b:Nat} {c:List Value} {T:TypeId},ah wr b c T→T≠139→T≠41→¬ (ai nv b∨b=g.vb):=fun hb h1 h2 e=>by
  rcases e with e | e
  ·exact nm hb h1 e
  ·exact hb.ne V.hv h2 e
 refine ⟨mv,v',F,⟨V.H.ae kk (fun b hb=>?_),kk.ak V.hm (nb V.hm (by decide) (by decide)),kk.ak V.hw (nb V.hw (by decide) (by decide)),by simpa using hv2.aO 1 v',kk.ak V.hf (nb V.hf (by decide) (by decide)),V.M.ae kk (fun b hb=>?_),⟨_,by rw [List.length_append];exact hs.ae set (fun b hb e=>by obtain ⟨_,c,hc⟩:=hs.own hb;exact hc.ne hv2 (by decide) e),?_⟩,fun b hb=>?_,V.bd⟩,kk.mono (fun b _ hb=>?_),fun k hk'=>.inl hk',fun k hk'=>(ho k hk').imp id (fun h=>Nat.le_trans ka.size h),fun k hk'=>.inl hk'⟩
 ·obtain ⟨_,c,T,hc,hT⟩:=V.H.bB hb;rcases hT with rfl | rfl | rfl | rfl <;> exact nb hc (by decide) (by decide)
 ·obtain ⟨_,c,hc⟩:=V.M.own hb;exact nb hc (by decide) (by decide)
 ·refine cn.app (hcs.mono (fun a _ r hr=>hr.ae kk (fun b hb _=>?_))) rfl ⟨none,0,rfl,Rd.nil _ _,(fun a ha=>by cases ha),Nat.zero_le _⟩;obtain ⟨_,c,hc⟩:=V.hF b hb;exact nb hc (by decide) (by decide)
 ·obtain ⟨a,c,hc⟩:=V.hF b hb;exact ⟨Nat.lt_of_lt_of_le a kk.size,c,kk.ak hc (nb hc (by decide) (by decide))⟩
 ·rcases hb with hb | hb
  ·exact .inr (.inr (.inr hb))
  ·exact .inr (.inl hb)
structure i2 (w1:World) (g:iz) (h:RW) (W:Wd) (rv mv nv:Value) (F:Nat→Prop) (xb rb tb:Nat) (tc xc rc:List Value) (ao:Option Addr) (fs:List Vl) (s:VS) (lv:Value) (l:List Vl) (wr:World) (mv' nv':Value) (F':Nat→Prop):Prop where
 V:dO wr g h W rv mv' nv' F' s
 K:ab (gE g mv nv) w1 wr
 o0:∀ k,ai mv' k→ai mv k∨w1.heap.size≤k
 o1:∀ k,ai nv' k→ai nv k∨w1.heap.size≤k
 o2:∀ k,F' k→F k∨w1.heap.size≤k
 L:Sl wr 96 2 lv l.length (aA l)
 o3:∀ k,ai lv k→w1.heap.size≤k∧¬ F' k
 T:ah wr tb tc 154
 X:ah wr xb xc 96
 R:ah wr rb rc 96
 xl:xb<w1.heap.size
 rl:rb<w1.heap.size
 tl:¬ h.Own tb
 ol:∀ k,h.Own k→k<w1.heap.size
 wl:g.wb<w1.heap.size
 fl:g.fb<w1.heap.size
 D:Rd wr ao (aA fs)
 dF:∀ a,ao=some a→h.Own a.block
section
variable {ao:Option Addr} {fs:List Vl} {w1 wr w2 wa:World} {xb rb tb:Nat} {tc xc rc:List Value} {lv lv2 mv' nv':Value} {l:List Vl} {F':Nat→Prop} {s2:VS} {v:Vl}
theorem i2.l8 (I:i2 w1 g h W rv mv nv F xb rb tb tc xc rc ao fs s lv l wr mv' nv' F') {k:Nat} (hk:ai lv k):¬ gE g mv' nv' k:=by
 obtain ⟨_,c,hc⟩:=I.L.own hk;exact I.V.ei hc (by decide) (by decide) (by decide) (by decide)
theorem i2.rU {mv2 nv2:Value} {F2:Nat→Prop} (I:i2 w1 g h W rv mv nv F xb rb tb tc xc rc ao fs s lv l wr mv' nv' F') (V2:dO w2 g h W rv mv2 nv2 F2 s2) (k2:ab (gE g mv' nv') wr w2) (p0:∀ k,ai mv2 k→ai mv' k∨wr.heap.size≤k) (p1:∀ k,ai nv2 k→ai nv' k∨wr.heap.size≤k) (p2:∀ k,F2 k→F' k∨wr.heap.size≤k):i2 w1 g h W rv mv nv F xb rb tb tc xc rc ao fs s2 lv l w2 mv2 nv2 F2:=by
 refine ⟨V2,I.K.then k2 (fun j hj=>gE.step I.o0 I.o1 hj),fun j hj=>?_,fun j hj=>?_,fun j hj=>?_,I.L.ae k2 (fun j hj=>I.l8 hj),fun j hj=>⟨(I.o3 j hj).1,fun hf=>?_⟩,k2.ak I.T (I.V.ei I.T (by decide) (by decide) (by decide) (by decide)),k2.ak I.X (I.V.ei I.X (by decide) (by decide) (by decide) (by decide)),k2.ak I.R (I.V.ei I.R (by decide) (by decide) (by decide) (by decide)),I.xl,I.rl,I.tl,I.ol,I.wl,I.fl,I.D.ae k2 (fun a e _=>I.V.fH (I.dF a e)),I.dF⟩
 ·rcases p0 j hj with h | h
  ·exact I.o0 j h
  ·exact .inr (Nat.le_trans I.K.size h)
 ·rcases p1 j hj with h | h
  ·exact I.o1 j h
  ·exact .inr (Nat.le_trans I.K.size h)
 ·rcases p2 j hj with h | h
  ·exact I.o2 j h
  ·exact .inr (Nat.le_trans I.K.size h)
 ·rcases p2 j hf with h | h
  ·exact (I.o3 j hj).2 h
  ·have:=(I.L.own hj).1;omega
theorem i2.other {b:Nat} (I:i2 w1 g h W rv mv nv F xb rb tb tc xc rc ao fs s lv l wr mv' nv' F') (k:ab (·=b) wr w2) (hb:∃ c,ah wr b c 96) (h0:w1.heap.size≤b) (h1:¬ F' b) (h2:¬ ai lv b):i2 w1 g h W rv mv nv F xb rb tb tc xc rc ao fs s lv l w2 mv' nv' F':=by
 obtain ⟨c,hc⟩:=hb;have ho:¬ h.Own b:=fun e=>by have:=I.ol b e;omega
 have fp:=I.V.ei hc (by decide) (by decide) (by decide) (by decide);exact ⟨I.V.other k fp ho h1 (fun e=>by have:=I.wl;omega) (fun e=>by have:=I.fl;omega),I.K.then k (fun j hj=>.inr (by rw [hj];exact h0)),I.o0,I.o1,I.o2,I.L.ae k (fun j hj e=>h2 (e ▸ hj)),I.o3,k.ak I.T (fun e=>hc.ne I.T (by decide) e.symm),k.ak I.X (fun e=>by have:=I.xl;omega),k.ak I.R (fun e=>by have:=I.rl;omega),I.xl,I.rl,I.tl,I.ol,I.wl,I.fl,
  I.D.ae k (fun a e _ hl=>ho (hl ▸ I.dF a e)),I.dF⟩
theorem i2.app (I:i2 w1 g h W rv mv nv F xb rb tb tc xc rc ao fs s lv l wr mv' nv' F') (ka:ab (fun _=>False) wr wa)
  (hs:Sl w2 96 2 lv2 (l.length+1) (aA l ++ [.int .i64 v.1, .int .i64 v.2])) (hk:ab (ai lv) wa w2) (ho:∀ k,ai lv2 k→ai lv k∨wa.heap.size≤k):i2 w1 g h W rv mv nv F xb rb tb tc xc rc ao fs s lv2 (l ++ [v]) w2 mv' nv' F':=by
 have k2:=(ka.mono (T:=ai lv) (fun _ _ h=>h.elim)).trans hk;refine ⟨I.V.ae k2 (fun j hj hl=>I.l8 hl hj) (fun j hj hl=>by have:=I.ol j hj;have:=(I.o3 j hl).1;omega) (fun j hj hl=>(I.o3 j hl).2 hj) (fun hl=>by have:=(I.o3 _ hl).1;have:=I.wl;omega) (fun hl=>by have:=(I.o3 _ hl).1;have:=I.fl;omega),I.K.then k2 (fun j hj=>.inr (I.o3 j hj).1),I.o0,I.o1,I.o2,?_,fun j hj=>?_,
  k2.ak I.T (fun hl=>by obtain ⟨_,c,hc⟩:=I.L.own hl;exact hc.ne I.T (by decide) rfl),k2.ak I.X (fun hl=>by have:=(I.o3 _ hl).1;have:=I.xl;omega),k2.ak I.R (fun hl=>by have:=(I.o3 _ hl).1;have:=I.rl;omega),I.xl,I.rl,I.tl,I.ol,I.wl,I.fl,I.D.ae k2 (fun a e _ hl=>by have:=I.ol _ (I.dF a e);have:=(I.o3 _ hl).1;omega),I.dF⟩
 ·have e:aA (l ++ [v])=aA l ++ [.int .i64 v.1, .int .i64 v.2]:=by simp [aA]
  rw [e,List.length_append];exact hs
 ·rcases ho j hj with h1 | h1
  ·exact I.o3 j h1
  ·have h2:=ka.size;have h3:=I.K.size;refine ⟨by omega,fun hf=>?_⟩;have:=(I.V.hF j hf).1;omega
theorem i2.same (I:i2 w1 g h W rv mv nv F xb rb tb tc xc rc ao fs s lv l wr mv' nv' F') (k:ab (fun _=>False) wr w2):i2 w1 g h W rv mv nv F xb rb tb tc xc rc ao fs s lv l w2 mv' nv' F':=
 ⟨I.V.same k,I.K.trans (k.mono (fun _ _ h=>h.elim)),I.o0,I.o1,I.o2,I.L.ae k (fun _ _ h=>h),I.o3,k.ak I.T (fun h=>h),k.ak I.X (fun h=>h),k.ak I.R (fun h=>h),I.xl,I.rl,I.tl,I.ol,I.wl,I.fl,I.D.ae k (fun _ _ _ h=>h),I.dF⟩
theorem i2.done {kd:Int} {n gn o cap lc:Nat} {ao2:Option Addr} (hlv:lv=.slice ao2 l.length lc) (I:i2 w1 g h W rv mv nv F xb rb tb tc xc rc ao fs s lv l wr mv' nv' F')
  (hnv:nv'=.slice (some ⟨gn,o,none⟩) s.2.length cap) (hn:s.2[n]? = some (kd,[])):iO w1 g h W rv mv nv F (s.1,s.2.set n (kd,l)) (wr.setCell ⟨gn,o+n*2+1,none⟩ lv)∧ah (wr.setCell ⟨gn,o+n*2+1,none⟩ lv) rb rc 96:=by
 subst hnv hlv;have hlt:n<s.2.length:=(List.getElem?_eq_some_iff.1 hn).1;have hgo:ai (.slice (some ⟨gn,o,none⟩) s.2.length cap) gn:=rfl;have setk:=(ab.refl (·=gn) wr).setCell (p:=⟨gn,o+n*2+1,none⟩) (.inl rfl) (.slice ao2 l.length lc);have K2:ab (gE g mv nv) w1 (wr.setCell ⟨gn,o+n*2+1,none⟩ (.slice ao2 l.length lc)):=I.K.setCell (p:=⟨gn,o+n*2+1,none⟩) (by
  rcases I.o1 gn hgo with h1 | h1
  ·exact .inl (.inr (.inr (.inr h1)))
  ·exact .inr h1) _
 obtain ⟨cs,hs,hr⟩:=I.V.N;obtain ⟨_,gc,hgc⟩:=hs.own hgo;have gne:∀ {b:Nat} {c:List Value} {T:TypeId},ah wr b c T→T≠139→¬ b=gn:=fun hb hT e=>hb.ne hgc hT e;obtain ⟨ao',cap',e1,hrd,hcm,hnc⟩:=I.L.rd;cases e1;refine ⟨⟨mv', .slice (some ⟨gn,o,none⟩) s.2.length cap,fun k=>F' k∨ai (.slice ao2 l.length lc) k,⟨I.V.H.ae setk (fun b hb=>?_),setk.ak I.V.hm (gne I.V.hm (by decide)),setk.ak I.V.hw (gne I.V.hw (by decide)),setk.ak I.V.hv (gne I.V.hv (by decide)),setk.ak I.V.hf (gne I.V.hf (by decide)),I.V.M.ae setk (fun b hb=>?_),?_,fun j hj=>?_,I.V.bd⟩,K2,I.o0,I.o1,fun j hj=>?_⟩,setk.ak I.R (gne I.R (by decide))⟩
 ·obtain ⟨_,c,T,hc,hT⟩:=I.V.H.bB hb;rcases hT with rfl | rfl | rfl | rfl <;> exact gne hc (by decide)
 ·obtain ⟨_,c,hc⟩:=I.V.M.own hb;exact gne hc (by decide)
 ·have hsl:(s.2.set n (kd,l)).length=s.2.length:=by simp
  refine ⟨cs.set (n*2+1) (.slice ao2 l.length lc),?_,?_⟩
  ·rw [hsl];exact hs.set (j:=n*2+1) (by omega)
  ·have hr':cn 2 (fL (wr.setCell ⟨gn,o+n*2+1,none⟩ (.slice ao2 l.length lc)) (fun k=>F' k∨ai (.slice ao2 l.length lc) k)) s.2 cs:=
    hr.mono (fun a _ r h1=>(h1.ae setk (fun j hj _=>by obtain ⟨_,c,hc⟩:=I.V.hF j hj;exact gne hc (by decide))).more (fun j hj=>.inl hj))
   refine cn.setCell hlt (by decide) hr' (fun r h2 h3=>?_);have e2:s.2[n]=(kd,[]):=by rw [Le hlt] at hn;exact Option.some.inj hn
   rw [e2] at h3;obtain ⟨_,_,rfl,-⟩:=h3;refine ⟨ao2,lc,rfl,hrd.ae setk (fun a ha _ e=>?_),fun a ha=>.inr ?_,hcm⟩
   ·subst ha;obtain ⟨_,c,hc⟩:=I.L.own (k:=a.block) rfl;exact gne hc (by decide) e
   ·subst ha;rfl
 ·rcases hj with hj | hj
  ·obtain ⟨a,c,hc⟩:=I.V.hF j hj;exact ⟨Nat.lt_of_lt_of_le a setk.size,c,setk.ak hc (gne hc (by decide))⟩
  ·obtain ⟨a,c,hc⟩:=I.L.own hj;exact ⟨Nat.lt_of_lt_of_le a setk.size,c,setk.ak hc (gne hc (by decide))⟩
 ·rcases hj with hj | hj
  ·exact I.o2 j hj
  ·exact .inr (I.o3 j hj).1
end
def eC (l:List (Int × Int)) (g:Int) (p:Nat):Nat:=(ed (l.take p) g).length
theorem xN (l:List (Int × Int)) (g:Int):eC l g 0=0:=rfl
theorem zi (l:List (Int × Int)) (g:Int):eC l g l.length=(ed l g).length:=by unfold eC;rw [List.take_length]
theorem xO {l:List (Int × Int)} {g:Int} {p:Nat} (hp:p<l.length):eC l g (p+1)=eC l g p+if (l.getD p (0,0)).1=g then 1 else 0:=by
 unfold eC ed;rw [List.take_add_one,Ld,Le hp];simp only [Option.toList_some,Option.getD_some,List.filter_append,List.map_append,List.length_append,List.length_map,List.filter_cons,List.filter_nil];by_cases h:l[p].1=g
 ·simp [h]
 ·simp [h]
theorem AE {l:List (Int × Int)} {g:Int} {p:Nat} (hp:p<l.length) (h:(l.getD p (0,0)).1=g):(ed l g)[eC l g p]? = some (l.getD p (0,0)).2:=by
 have e:l=l.take p ++ l[p] :: l.drop (p+1):=by rw [←List.drop_eq_getElem_cons hp,List.take_append_drop]
 have h1:(l.getD p (0,0))=l[p]:=by rw [Ld,Le hp];rfl
 rw [h1] at h ⊢;have h2:ed l g=ed (l.take p) g ++ l[p].2 :: ed (l.drop (p+1)) g:=by
  conv=>lhs;rw [e]
  unfold ed;rw [List.filter_append,List.filter_cons,if_pos (by simpa using h),List.map_append,List.map_cons]
 rw [h2];unfold eC;rw [List.getElem?_append_right (Nat.le_refl _),Nat.sub_self]
 rfl
theorem AF {l:List (Int × Int)} {g:Int} (p:Nat):eC l g p≤l.length:=by
 unfold eC ed;rw [List.length_map];exact Nat.le_trans (List.length_filter_le _ _) (by rw [List.length_take];omega)
theorem aZ.zj {w0:World} {wo:Option Addr} {len wc p:Nat} (H:aZ w0 h W) (hp:p<W.wait.length) (e:h.wv=.slice wo len wc) :
  ∃ gw ow,wo=some ⟨gw,ow,none⟩∧h.Own gw∧∀ w',aZ w' h W→gw<w'.heap.size∧w'.cell? ⟨gw,ow+p*2,none⟩=some (.int .i64 (W.wait.getD p (0,0)).1)∧w'.cell? ⟨gw,ow+p*2+1,none⟩=some (.int .i64 (W.wait.getD p (0,0)).2):=by
 obtain ⟨_,_,e',rd,-,-⟩:=H.hw.rd;rw [e] at e';cases e';obtain ⟨gw,ow,rfl,-,-,-⟩:=rd.val p hp;refine ⟨gw,ow,rfl, .inr (.inr (.inr (.inr (.inl (by rw [e];rfl))))),fun w' H'=>?_⟩;obtain ⟨_,_,e2,rd2,-,-⟩:=H'.hw.rd;rw [e] at e2;cases e2;obtain ⟨g',o',e3,hl,d0,d1⟩:=rd2.val p hp;cases e3;exact ⟨hl,d0,d1⟩
theorem BE {G:Gr} {U:List Int} (I:ux G U) {n:Nat} {x:Int} {s:VS} (hx:x ∈ U) (j:Nat) (h:dz U (s.1 ++ [x])≤n) (hc:(s.1 ++ [x]).length+dz U (s.1 ++ [x])≤5000) :
  dz U (NS G n x s j).2.1≤n∧(NS G n x s j).2.1.length+dz U (NS G n x s j).2.1≤5000:=by
 unfold NS;obtain ⟨m,hm⟩:=lY (lZ G n) ((G x).2.take j) (s.1 ++ [x],s.2 ++ [((G x).1,[])]);have h1:=qI U (s.1 ++ [x]) m;have h2:=gX (f:=valM G n) (U:=U) (j5 I n) ((G x).2.take j) (s.1 ++ [x],s.2 ++ [((G x).1,[])]) (fun v hv=>I.shut x hx v (List.mem_of_mem_take hv));rw [hm] at h2 ⊢;dsimp only at h2 ⊢;exact ⟨by omega,by omega⟩
theorem AG (G:Gr) (n:Nat) (x:Int) (s:VS) (j:Nat) (hl:s.2.length=s.1.length):(NS G n x s j).2.2.length=(NS G n x s j).2.1.length:=by
 unfold NS;exact j3 (j4 G n) _ _ (by simp [hl])
def BH (g:iz) (h:RW) (W:Wd) (rv:Value) (n:Nat):Prop:=∀ (v:Vl) (mv nv:Value) (F:Nat→Prop) (s:VS) (w:World),dO w g h W rv mv nv F s→(v.1=3→v.2 ∈ W.all)→dz W.all s.1≤n→s.1.length+dz W.all s.1≤5000→s.2.length=s.1.length →
 Calls Tryz.prog 104 #[.agg #[.int .i64 v.1, .int .i64 v.2], .pointer (some ⟨g.mb,0,none⟩), .pointer (some ⟨g.wb,0,none⟩), .pointer (some ⟨g.vb,0,none⟩), .pointer (some ⟨g.fb,0,none⟩)] w (lq w g h W rv mv nv F (valM W.gr n v s))
theorem v7 (n:Nat) (ih:BH g h W rv n) (v2:Int) (V:dO w g h W rv mv nv F s) (hx:v2 ∈ W.all) (hm:¬ v2 ∈ s.1) (hu:dz W.all s.1≤n+1) (hc:s.1.length+dz W.all s.1≤5000) (hl:s.2.length=s.1.length) (hT:W.T.length≤100000) :
  Calls Tryz.prog 104 #[.agg #[.int .i64 3, .int .i64 v2], .pointer (some ⟨g.mb,0,none⟩), .pointer (some ⟨g.wb,0,none⟩), .pointer (some ⟨g.vb,0,none⟩), .pointer (some ⟨g.fb,0,none⟩)] w (lq w g h W rv mv nv F (valM W.gr (n+1) (3,v2) s)):=by
 have HNEW:=Hz (fD W.gr n (v:=(3,v2)) (s:=s) rfl hm);have HV:=Hz V;have HM:=Hz hm;have HIH:=Hz ih;have hlv:=Wd.hH.1 hx;have HLV:=Hz hlv;have HX:=Hz hx;have hp:=jw hx hm;have HU:=Hz (show dz W.all (s.1 ++ [v2])≤n by omega);have HC:=Hz (show (s.1 ++ [v2]).length+dz W.all (s.1 ++ [v2])≤5000 by rw [List.length_append];simp;omega);have hsl:s.1.length≤5000:=by omega
 have HSL:=Hz hsl;obtain ⟨ii,hi,hz0,hz1,hz2⟩:=cZ jv;have Ii:=Hz hi;have Iz0:=Hz hz0;have Iz1:=Hz hz1;have Iz2:=Hz hz2;clear hi hz0 hz1 hz2;obtain ⟨ni,hi,hz0,hz1,hz2⟩:=cZ rk;have Ni:=Hz hi;have Nz0:=Hz hz0;have Nz1:=Hz hz1;have Nz2:=Hz hz2;clear hi hz0 hz1 hz2;obtain ⟨vi,hi,hz0,hz1,hz2⟩:=cZ iG;have Vi:=Hz hi;have Vz0:=Hz hz0;have Vz1:=Hz hz1;have Vz2:=Hz hz2;clear hi hz0 hz1 hz2;have HLL:=Hz hl;clear V hm hsl hlv hx hp hu hc ih hl;go_enter Tryz.func104,Tryz.ntmps104;go_upto_region 1 with (fail)
 have ka:=(Kz w).alloc (.cells #[.int .i64 (3), .int .i64 v2] 96);have xb1:ah (w.alloc (.cells #[.int .i64 (3), .int .i64 v2] 96)) w.heap.size [.int .i64 (3), .int .i64 v2] 96:=ah.newAt _ rfl rfl;have sz1:(w.alloc (.cells #[.int .i64 (3), .int .i64 v2] 96)).heap.size=w.heap.size+1:=by simp
 have K1:=Hz (ka.alloc (.cells #[.int .i64 0, .int .i64 0] 96));have XB:=Hz (xb1.alloc (.cells #[.int .i64 0, .int .i64 0] 96));have RB:=Hz (show ah ((w.alloc (.cells #[.int .i64 (3), .int .i64 v2] 96)).alloc (.cells #[.int .i64 0, .int .i64 0] 96)) (w.heap.size+1) [.int .i64 0, .int .i64 0] 96 from ah.newAt _ sz1.symm rfl);have V1:=Hz (HV.out.same K1.out);have RNF:Hid (¬ F (w.heap.size+1)):=fun hf=>by have:=(HV.out.hF _ hf).1;omega
 have RNO:Hid (¬ h.Own (w.heap.size+1)):=fun hf=>by have:=(HV.out.H.bB hf).1;omega
 have XNO:Hid (¬ h.Own w.heap.size):=fun hf=>by have:=(HV.out.H.bB hf).1;omega
 have XNF:Hid (¬ F w.heap.size):=fun hf=>by have:=(HV.out.hF _ hf).1;omega
 clear ka xb1 sz1;generalize (w.alloc (.cells #[.int .i64 (3), .int .i64 v2] 96)).alloc (.cells #[.int .i64 0, .int .i64 0] 96)=w1 at *;generalize hxb:w.heap.size=xb at XB RB RNF RNO XNO XNF ⊢;have HXB:=Hz hxb;clear hxb;generalize hrb:xb+1=rb at RB RNF RNO ⊢;have HRX:=Hz hrb;clear hrb;have HRB:=Hz (show w.heap.size≤rb by have:=HXB.out;have:=HRX.out;omega);have b0:=XB.out.cell 0;have b1:=XB.out.cell 1;have bl:=XB.out.lt;simp only [Lz,Ls] at b0 b1;have c0:=V1.out.hm.cell 0;have cl:=V1.out.hm.lt;simp only [Lz] at c0;obtain ⟨mo,mc,emv,-,hml,-⟩:=V1.out.M.rd;have EMV:=Hz emv;rw [emv] at c0;have hsl:=HSL.out;clear emv hml;go_wp2_with fail;go_loopw [7] (fun i wr=>∃ k:Nat,k≤s.1.length∧i=.int .i64 k∧ab (fun _=>False) w1 wr∧∀ j,j<k→s.1.getD j 0≠v2) (fun i _=>s.1.length-(intOf i).toNat)
 case atStart=>exact ⟨0,Nat.zero_le _,rfl,ab.refl _ _,fun j hj=>by omega⟩
 case round=>
  clear c0 cl b0 b1 bl;obtain ⟨k,hk,rfl,hK,hN⟩:=hrel;have KR:=Hz hK;clear hK hN;have VR:=Hz (V1.out.same KR.out);have XR:=Hz (KR.out.ak XB.out (fun h=>h));have RR:=Hz (KR.out.ak RB.out (fun h=>h));have b0:=XR.out.cell 0;have b1:=XR.out.cell 1;have bl:=XR.out.lt;have c0:=VR.out.hm.cell 0;have cl:=VR.out.hm.lt;simp only [Lz,Ls] at b0 b1 c0;rw [EMV.out] at c0;by_cases hlt:k<s.1.length
  ·obtain ⟨_,_,e',rd,-,-⟩:=VR.out.M.rd;rw [EMV.out] at e';cases e';obtain ⟨gm,om,rfl,d0⟩:=rd.int k hlt;have hgm:=((VR.out.M).own (k:=gm) (by rw [EMV.out];rfl)).1;have hne:s.1.getD k 0≠v2:=fun e=>HM.out (by rw [←e,Ld,Le hlt];exact List.getElem_mem hlt);generalize s.1.getD k 0=y at *;have hd:(y == v2)=false:=by simpa using hne
   clear rd hne;go_wp2_with fail;refine ay (.free 1 (.free 4 (.pure 0 (.free 2 (.pure 3 (.pure 5 (.free 6 (.fin)))))))) [] (fun w'=>w'.cell? ⟨g.mb,0,none⟩=some (.slice (some ⟨gm,om,none⟩) s.1.length mc)∧w'.cell? ⟨gm,om+k,none⟩=some (.int .i64 y)∧w'.cell? ⟨xb,1,none⟩=some (.int .i64 v2)) (by kernel_rfl) (by kernel_rfl) ⟨c0,d0,b1⟩ ?_
   iterate 7 ((first | refine au rfl rfl fun K hK=>?_ | refine aq rfl rfl fun K hK=>?_ | refine aF rfl rfl fun K hK=>?_ | refine az rfl rfl fun K hK=>?_ | refine aE rfl rfl fun K hK=>?_);go_simp;refine hK _ ?_;clear hK K)
   refine aB ?_;clear b0 b1 bl c0 cl d0 hgm;go_wp2_with fail;go_roundw
   case rel=>exact ⟨k+1,hlt,by go_num,KR.out.drew,fun j hj e=>HM.out (by rw [←e,Ld,Le (by omega)];exact List.getElem_mem _)⟩
   case measure=>simp [intOf];omega
  ·obtain rfl:k=s.1.length:=by omega
   have f0:=VR.out.hm.free 0;have HSL2:=Hz (show Sl wr 3 1 (.slice mo s.1.length mc) s.1.length (s.1.map (Value.int .i64)) by have:=VR.out.M;rw [EMV.out] at this;exact this);go_wp2_with (at_builtin;refine bN rfl (.tmp 36) (.tmp 39) 83 rfl 3 ii (.int .i64 0) 1 8 Tryz.underlying83 Ii.out Iz0.out Iz1.out Iz2.out rfl (by decide) _ s.1.length (s.1.map (Value.int .i64)) rfl (HSL2.out.ae ((Kz wr).alloc _) (fun _ _ h=>h)) ⟨wr.heap.size,0,none⟩ 1 1 [.int .i64 v2] rfl rfl (bW wr 3 _) (by intro u hu;simp at hu;subst hu;rfl) (by have:=HSL.out;unfold maxLen;omega) (by have:=HSL.out;omega) ?_);intro v2' w2 hs2 hk2 ho2;have ka:=(Kz wr).alloc (.cells #[.int .i64 v2] 3);have HT3:=Hz (VR.out.AD ka (by simpa using hs2) (by rw [EMV.out];exact hk2) (by rw [EMV.out];simpa using ho2) ⟨HLV.out.1,by have:=HLV.out.2.1;omega⟩);have hm2:=hk2.ak (ka.ak VR.out.hm (fun h=>h)) (fun e=>by obtain ⟨_,c,hc⟩:=HSL2.out.own e;exact hc.ne VR.out.hm (by decide) rfl);obtain ⟨mo2,mc2,rfl,-,-,-⟩:=hs2.rd;have x0:=hm2.cell 0;have xl:=hm2.lt;have xf:=hm2.free 0;simp only [Lz] at x0;have b1':=(hk2.ak (ka.ak XR.out (fun h=>h)) (fun e=>by obtain ⟨_,c,hc⟩:=HSL2.out.own e;exact hc.ne XR.out (by decide) rfl)).cell 1;clear hs2 hk2 ho2 ka hm2 c0 cl b0 b1 bl f0 b1';go_wp2_with fail;clear x0 xl xf;generalize w2.setCell ⟨g.mb,0,none⟩ (.slice mo2 (s.1.length+1) mc2)=w3 at *;obtain ⟨mv3,nv3,F3,V3',k3,p0,p1,p2⟩:=HT3.out;have V3:=Hz V3';have XB3:=Hz (k3.ak XR.out (VR.out.ei XR.out (by decide) (by decide) (by decide) (by decide)));have RB3:=Hz (k3.ak RR.out (VR.out.ei RR.out (by decide) (by decide) (by decide) (by decide)));have KT3:=Hz ((KR.out.mono (T:=gE g mv nv) (fun _ _ h=>h.elim)).trans k3);have P0:=Hz (show ∀ k,ai mv3 k→ai mv k∨w1.heap.size≤k from fun k hk=>(p0 k hk).imp id (fun h=>Nat.le_trans KR.out.size h));have P1:=Hz (show ∀ k,ai nv3 k→ai nv k∨w1.heap.size≤k from fun k hk=>(p1 k hk).imp id (fun h=>Nat.le_trans KR.out.size h));have P2:=Hz (show ∀ k,F3 k→F k∨w1.heap.size≤k from fun k hk=>(p2 k hk).imp id (fun h=>Nat.le_trans KR.out.size h));clear HT3 VR XR RR V3' k3 p0 p1 p2 HSL2;obtain ⟨m,rfl,-⟩:∃ m:Nat,v2=m∧True:=⟨v2.toNat,by have:=HLV.out.1;omega,trivial⟩;have hmT:m<W.T.length:=by have:=HLV.out.2.1;omega
   obtain ⟨no,nc,etv,N⟩:=V3.out.H.ht.nth;obtain ⟨gt,ot,ao,fc,rfl,hogt,hgt,t0,t1,t2,t3,hrd,hoF,hml2⟩:=N m hmT;have HTH:=Hz (show W.th (m:Int)=W.T.getD m Th.none by unfold Wd.th;rw [Int.toNat_natCast]);generalize hth:W.T.getD m Th.none=th at *;have HRD:=Hz hrd;obtain ⟨kd,fs,aP,dead⟩:=th;dsimp only at t0 t1 t2 t3 HRD hml2;have a0:=V3.out.hw.cell 0;have al:=V3.out.hw.lt;obtain ⟨e0,-,-,-,-,-⟩:=V3.out.H.cells;have el:=V3.out.H.hp.lt;rw [etv] at e0;have b1:=XB3.out.cell 1;have bl:=XB3.out.lt;simp only [Lz,Ls] at a0 b1;have HAF:=Hz (show ∀ a,ao=some a→h.Own a.block from fun a e=>.inr (.inr (.inr (.inr (.inr (hoF a e))))));clear N hth hrd hoF;go_wp2_with fail;refine ay (.free 4 (.pure 0 (.free 1 (.free 2 (.pure 3 (.pure 5 (.free 6 (.pure 7 (.run 8 (.run 9 (.swi [] (.fin)))))))))))) [9] (fun w'=>w'.cell? ⟨g.wb,0,none⟩=some (.pointer (some ⟨h.p,0,none⟩))∧w'.cell? ⟨h.p,0,none⟩=some (.slice (some ⟨gt,ot,none⟩) W.T.length nc)∧w'.cell? ⟨xb,1,none⟩=some (.int .i64 m)∧w'.cell? ⟨gt,ot+m*4,none⟩=some (.int .i64 kd)∧w'.cell? ⟨gt,ot+m*4+1,none⟩=some (.slice ao fs.length fc)∧w'.cell? ⟨gt,ot+m*4+1+1,none⟩=some (.bool aP)∧w'.cell? ⟨gt,ot+m*4+1+1+1,none⟩=some (.bool dead)) (by kernel_rfl) (by kernel_rfl) ⟨a0,e0,b1,t0,t1,t2,t3⟩ ?_
   iterate 8 ((first | refine au rfl rfl fun K hK=>?_ | refine aq rfl rfl fun K hK=>?_ | refine jH rfl rfl _ (fun w' hG=>by obtain ⟨a0,e0,b1,t0,t1,t2,t3⟩:=hG;exact mS (cs:=[_,_,_,_]) rfl (by decide +kernel) rfl (aa (by assumption) (aa (by assumption) (aa (by assumption) (aa (by assumption) aQ))))) (fun K hK=>?_) | refine aF rfl rfl fun K hK=>?_ | refine az rfl rfl fun K hK=>?_ | refine aE rfl rfl fun K hK=>?_);go_simp;refine hK _ ?_;clear hK K)
   refine aM rfl rfl (fun K hK=>?_);unfold aC;go_simp;have kz:ab (fun _=>False) w3 (w3.alloc (.cells #[.int .i64 0, .slice none 0 0, .bool false, .bool false] 154)).drew:=((Kz w3).alloc _).drew;have tz:ah (w3.alloc (.cells #[.int .i64 0, .slice none 0 0, .bool false, .bool false] 154)).drew w3.heap.size [.int .i64 0, .slice none 0 0, .bool false, .bool false] 154:=(ah.new w3 [.int .i64 0, .slice none 0 0, .bool false, .bool false] 154).drew;refine hK _ _ (fun _=>⟨(kz.cellAt al (fun h=>h) _).trans a0,(kz.cellAt el (fun h=>h) _).trans e0,(kz.cellAt bl (fun h=>h) _).trans b1,(kz.cellAt hgt (fun h=>h) _).trans t0,(kz.cellAt hgt (fun h=>h) _).trans t1,(kz.cellAt hgt (fun h=>h) _).trans t2,(kz.cellAt hgt (fun h=>h) _).trans t3⟩) ?_;clear hK K;have KZ:=Hz kz;have TZ:=Hz tz;have z0:=tz.cell 0;have z1:=tz.cell 1;have z2:=tz.cell 2;have z3:=tz.cell 3;have zl:=tz.lt;have zf:=tz.free 0;have zf1:=tz.free 1;have zf2:=tz.free 2;have zf3:=tz.free 3;simp only [Lz,Ls] at z0 z1 z2 z3;clear kz tz a0 e0 b1 t0 t1 t2 t3 al el bl hgt;have HTN:=Hz (show w3.heap.size=w3.heap.size from rfl);refine aJ rfl rfl rfl (fun K hK=>?_);unfold aC;go_simp;refine hK _ _ ?_;clear hK K TZ KZ z0 z1 z2 z3 zl zf zf1 zf2 zf3 HTN;refine aH (fun _=>True) trivial (aB ?_);have kt:ab (fun _=>False) w3 (w3.alloc (.cells #[.int .i64 kd, .slice ao fs.length fc, .bool aP, .bool dead] 154)).drew:=((Kz w3).alloc _).drew;have htb:ah (w3.alloc (.cells #[.int .i64 kd, .slice ao fs.length fc, .bool aP, .bool dead] 154)).drew w3.heap.size [.int .i64 kd, .slice ao fs.length fc, .bool aP, .bool dead] 154:=(ah.new w3 [.int .i64 kd, .slice ao fs.length fc, .bool aP, .bool dead] 154).drew;have TB:=Hz htb;have V4:=Hz (V3.out.same kt);have XB4:=Hz (kt.ak XB3.out (fun h=>h));have RB4:=Hz (kt.ak RB3.out (fun h=>h));have KT4:=Hz (KT3.out.trans (kt.mono (fun _ _ h=>h.elim)));have HRD4:=Hz (HRD.out.ae kt (fun _ _ _ h=>h));have TNO:=Hz (show ¬ h.Own w3.heap.size from fun e=>by have:=(V3.out.H.bB e).1;omega);have TLE:=Hz (show w1.heap.size≤w3.heap.size from KT3.out.size);clear kt htb V3 XB3 RB3 KT3 HRD;generalize (w3.alloc (.cells #[.int .i64 kd, .slice ao fs.length fc, .bool aP, .bool dead] 154)).drew=w4 at *;generalize w3.heap.size=tb at *;obtain ⟨cs,hns,hcs⟩:=V4.out.N;obtain ⟨nno,nnc,rfl,-,hnm,-⟩:=hns.rd;have HNS:=Hz hns;have HCS:=Hz hcs;have hs5:s.2.length≤5000:=by have:=HLL.out;have:=HSL.out;omega
   have v1:=V4.out.hv.cell 1;have vl:=V4.out.hv.lt;have vf:=V4.out.hv.free 1;have t0:=TB.out.cell 0;have tl:=TB.out.lt;simp only [Lz,Ls] at v1 t0;clear hns hcs hnm;go_wp2_with (at_builtin;refine bN rfl (.tmp 50) (.tmp 54) 39 rfl 139 ni (.agg #[.int .i64 0, .slice none 0 0]) 2 32 Tryz.underlying39 Ni.out Nz0.out Nz1.out Nz2.out rfl (by decide) _ s.2.length cs rfl (HNS.out.ae ((Kz w4).alloc _) (fun _ _ h=>h)) ⟨w4.heap.size,0,none⟩ 1 1 [.int .i64 kd, .slice none 0 0] rfl rfl (bW w4 139 _) (by intro u hu;simp at hu;rcases hu with rfl | rfl <;> rfl) (by unfold maxLen;omega) (by omega) ?_);intro v5' w5 hs5' hk5 ho5;have ka:=(Kz w4).alloc (.cells #[.int .i64 kd, .slice none 0 0] 139);have HT6:=Hz (V4.out.zh (kd:=kd) ka cs HCS.out (by simpa using hs5') hk5 (by simpa using ho5));have hv5:=hk5.ak (ka.ak V4.out.hv (fun h=>h)) (fun e=>by obtain ⟨_,c,hc⟩:=HNS.out.own e;exact hc.ne V4.out.hv (by decide) rfl);obtain ⟨no5,nc5,rfl,-,-,-⟩:=hs5'.rd;have x1:=hv5.cell 1;have xl:=hv5.lt;have xf:=hv5.free 1;simp only [Lz,Ls] at x1;clear hs5' hk5 ho5 ka hv5 v1 vl vf t0 tl;go_wp2_with fail;clear x1 xl xf;have HI0:=Hz (show ∃ mv' nv' F',i2 w1 g h W rv mv nv F xb rb tb [.int .i64 kd, .slice ao fs.length fc, .bool aP, .bool dead] [.int .i64 3, .int .i64 m] [.int .i64 0, .int .i64 0] ao fs (s.1 ++ [(m:Int)],s.2 ++ [(kd,[])]) (.slice none 0 0) [] (w5.setCell ⟨g.vb,1,none⟩ (.slice no5 (s.2.length+1) nc5)) mv' nv' F' by
    obtain ⟨mv6,nv6,F6,V6,k6,q0,q1,q2⟩:=HT6.out;have nf:∀ {b:Nat} {c:List Value} {T:TypeId},ah w4 b c T→T≠83→T≠41→T≠3→T≠139→_:=fun hb h1 h2 h3 h4=>V4.out.ei hb h1 h2 h3 h4;refine ⟨mv6,nv6,F6,V6,KT4.out.then k6 (fun j hj=>gE.step P0.out P1.out hj),fun k hk=>?_,fun k hk=>?_,fun k hk=>?_,Sl.nil _ _ _,fun k hk=>(bM hk).elim,k6.ak TB.out (nf TB.out (by decide) (by decide) (by decide) (by decide)),k6.ak XB4.out (nf XB4.out (by decide) (by decide) (by decide) (by decide)),k6.ak RB4.out (nf RB4.out (by decide) (by decide) (by decide) (by decide)),XB.out.lt,RB.out.lt,TNO.out,fun k hk=>(V1.out.H.bB hk).1,V1.out.hw.lt,V1.out.hf.lt,HRD4.out.ae k6 (fun a e _=>V4.out.fH (HAF.out a e)),HAF.out⟩
    ·rcases q0 k hk with h | h
     ·exact P0.out k h
     ·exact .inr (Nat.le_trans KT4.out.size h)
    ·rcases q1 k hk with h | h
     ·exact P1.out k h
     ·exact .inr (Nat.le_trans KT4.out.size h)
    ·rcases q2 k hk with h | h
     ·exact P2.out k h
     ·exact .inr (Nat.le_trans KT4.out.size h))
   clear HT6 V4 XB4 RB4 TB HNS HCS;generalize w5.setCell ⟨g.vb,1,none⟩ (.slice no5 (s.2.length+1) nc5)=w6 at *;have hgr1:(W.gr m).1=kd:=by show (W.th m).k=kd;rw [HTH.out]
   have HGR1:=Hz hgr1;have HGF:=Hz (show ∀ j:Nat,(hj:j<fs.length)→(W.gr m).2[j]? = some (fs.getD j (0,0)) from fun j hj=>by
    unfold Wd.gr;dsimp only
    rw [HTH.out,List.getElem?_append_left (by exact hj),Ld,Le hj];rfl)
   have HGL:=Hz (show (W.gr m).2.length=fs.length+if kd=5 then (ed W.wait m).length else 0 by
    unfold Wd.gr;dsimp only;rw [HTH.out,List.length_append];dsimp only
    split <;> simp)
   have HFL:=Hz (show fs.length≤12 by have:=Wd.mg HV.out.H.ok HLV.out;rw [HTH.out] at this;exact this);have HI1:=Hz (show ∃ mv' nv' F',i2 w1 g h W rv mv nv F xb rb tb [.int .i64 kd, .slice ao fs.length fc, .bool aP, .bool dead] [.int .i64 3, .int .i64 m] [.int .i64 0, .int .i64 0] ao fs (NS W.gr n m s 0).2 (.slice none 0 0) (NS W.gr n m s 0).1 w6 mv' nv' F' by rw [uC,hgr1];exact HI0.out);clear HI0 hgr1;have HUN:=Hz (fun j=>BE (Wd.rh HV.out.H.ok) (n:=n) (s:=s) HX.out j HU.out HC.out);have HNL:=Hz (fun j=>AG W.gr n (m:Int) s j HLL.out);go_loopw [10,11] (fun lv i wr=>∃ (j:Nat) (mv' nv':Value) (F':Nat→Prop),j≤fs.length∧i=.int .i64 j∧i2 w1 g h W rv mv nv F xb rb tb [.int .i64 kd, .slice ao fs.length fc, .bool aP, .bool dead] [.int .i64 3, .int .i64 m] [.int .i64 0, .int .i64 0] ao fs (NS W.gr n m s j).2 lv (NS W.gr n m s j).1 wr mv' nv' F') (fun _ i _=>fs.length-(intOf i).toNat)
   case atStart=>
    obtain ⟨mv',nv',F',hI⟩:=HI1.out;exact ⟨0,mv',nv',F',Nat.zero_le _,rfl,hI⟩
   case round=>
    clear HI1;obtain ⟨j,mv7,nv7,F7,hj,rfl,hI⟩:=hrel;have HI:=Hz hI;have t1:=hI.T.cell 1;have t0:=hI.T.cell 0;have tl:=hI.T.lt;simp only [Lz,Ls] at t0 t1;by_cases hlt:j<fs.length
    ·have HST:=Hz (nX W.gr n m s (HGF.out j hlt));have hjl:=pP W.gr n m s (j:=j) (by rw [HGL.out];omega);have HJL:=Hz hjl;obtain ⟨gf,of,rfl,hgf,d0,d1⟩:=hI.D.val j hlt;have a0:=hI.V.hf.cell 0;have al:=hI.V.hf.lt;simp only [Lz] at a0;generalize hfv:fs.getD j (0,0)=fv at *;have HFA:=Hz (show fv.1=3→fv.2 ∈ W.all from fun h3=>Wd.hH.2 (Wd.bh (hI.V.H.ok.tv m HLV.out fv (by rw [HTH.out,←hfv];dsimp only;rw [Ld,Le hlt];exact List.getElem_mem hlt)) h3));obtain ⟨f1,f2⟩:=fv;dsimp only at d0 d1;obtain ⟨lo,lc,rfl,-,-,-⟩:=hI.L.rd;rw [hjl] at HI ⊢;clear hI hjl;unfold iz.fn at a0;go_wp2_with fail;refine ay (.free 1 (.free 3 (.pure 0 (.pure 2 (.free 4 (.pure 5 (.two 6 (.run 7 (.run 8 (.swi [] (.fin)))) 7 (.run 6 (.swi [8] (.run 8 (.swi [] (.fin)))))))))))) [8] (fun w'=>w'.cell? ⟨g.fb,0,none⟩=some (.func (.func 104) #[] #[.pointer (some ⟨g.mb,0,none⟩), .pointer (some ⟨g.wb,0,none⟩), .pointer (some ⟨g.vb,0,none⟩), .pointer (some ⟨g.fb,0,none⟩)])∧w'.cell? ⟨tb,1,none⟩=some (.slice (some ⟨gf,of,none⟩) fs.length fc)∧w'.cell? ⟨gf,of+j*2,none⟩=some (.int .i64 f1)∧w'.cell? ⟨gf,of+j*2+1,none⟩=some (.int .i64 f2)) (by kernel_rfl) (by kernel_rfl) ⟨a0,t1,d0,d1⟩ ?_
     iterate 6 ((first | refine au rfl rfl fun K hK=>?_ | refine aq rfl rfl fun K hK=>?_ | refine aF rfl rfl fun K hK=>?_ | refine az rfl rfl fun K hK=>?_ | refine aE rfl rfl fun K hK=>?_);go_simp;refine hK _ ?_;clear hK K)
     refine gM rfl rfl rfl rfl (fun K hK=>?_) (fun K hK=>?_)
     ·unfold aC;go_simp;refine (HIH.out (f1,f2) mv7 nv7 F7 _ _ (HI.out.V.same ((Kz wr).drew)) (HFA.out) (HUN.out j).1 (HUN.out j).2 (HNL.out j)).mono ?_;rintro e w8 ⟨rfl,mv8,nv8,F8,V8,k8,p0,p1,p2⟩;have HI8:=Hz ((HI.out.same ((Kz wr).drew)).rU V8 k8 p0 p1 p2);obtain ⟨⟨⟨r1,r2⟩,sr⟩,hr⟩:∃ t,valM W.gr n (f1,f2) (NS W.gr n m s j).2=t:=⟨_,rfl⟩;rw [hr] at HI8 HST ⊢;dsimp only at HI8 HST ⊢;have hgf8:=Nat.lt_of_lt_of_le hgf k8.size;have d8:=(k8.cellAt hgf (HI.out.V.fH (HI.out.dF _ rfl)) _).trans d0;have d9:=(k8.cellAt hgf (HI.out.V.fH (HI.out.dF _ rfl)) _).trans d1;refine hK _ _ (fun h=>h) (fun _ _=>⟨HI8.out.V.hf.cell 0,HI8.out.T.cell 1,d8,d9⟩) ?_;clear hK K V8 k8 p0 p1 p2 hr a0 t1 d0 d1 hgf al tl t0 HI;refine aM rfl rfl (fun K hK=>?_);unfold aC;go_simp;have kz:ab (fun _=>False) w8 (w8.alloc (.cells #[.int .i64 0, .int .i64 0] 96)).drew:=((Kz w8).alloc _).drew;have tz:ah (w8.alloc (.cells #[.int .i64 0, .int .i64 0] 96)).drew w8.heap.size [.int .i64 0, .int .i64 0] 96:=(ah.new w8 [.int .i64 0, .int .i64 0] 96).drew;have HI9:=Hz (HI8.out.same kz);refine hK _ _ (fun _=>⟨HI9.out.V.hf.cell 0,HI9.out.T.cell 1,(kz.cellAt hgf8 (fun h=>h) _).trans d8,(kz.cellAt hgf8 (fun h=>h) _).trans d9⟩) ?_;clear hK K d8 d9 hgf8;have z0:=tz.cell 0;have z1:=tz.cell 1;have zl:=tz.lt;have zf:=tz.free 0;have zf1:=tz.free 1;simp only [Lz,Ls] at z0 z1;clear kz tz;refine aJ rfl rfl rfl (fun K hK=>?_);unfold aC;go_simp;refine hK _ _ ?_;clear hK K z0 z1 zl zf zf1 HI9;refine aH (fun _=>True) trivial (aB ?_);have kz:ab (fun _=>False) w8 (w8.alloc (.cells #[.int .i64 r1, .int .i64 r2] 96)):=((Kz w8).alloc _);have tz:ah (w8.alloc (.cells #[.int .i64 r1, .int .i64 r2] 96)) w8.heap.size [.int .i64 r1, .int .i64 r2] 96:=(ah.new w8 [.int .i64 r1, .int .i64 r2] 96);have HI2:=Hz (HI8.out.same kz);clear HI8 kz;generalize w8.alloc (.cells #[.int .i64 r1, .int .i64 r2] 96)=w9 at *;have HL2:=Hz (show Sl w9 96 2 (.slice lo j lc) j (aA (NS W.gr n m s j).1) by have:=HI2.out.L;rw [HJL.out] at this;exact this);have z0:=tz.cell 0;have z1:=tz.cell 1;have zl:=tz.lt;simp only [Lz,Ls] at z0 z1;generalize w8.heap.size=tv at *;clear tz;go_wp2_with (at_builtin;refine bN rfl (.tmp 71) (.tmp 73) 38 rfl 96 vi (.agg #[.int .i64 0, .int .i64 0]) 2 16 Tryz.underlying38 Vi.out Vz0.out Vz1.out Vz2.out rfl (by decide) _ j (aA (NS W.gr n m s j).1) rfl (HL2.out.ae ((Kz w9).alloc _) (fun _ _ h=>h)) ⟨w9.heap.size,0,none⟩ 1 1 [.int .i64 r1, .int .i64 r2] rfl rfl (bW w9 96 #[.int .i64 r1, .int .i64 r2]) (by intro u hu;simp at hu;rcases hu with rfl | rfl <;> rfl) (by have:=HFL.out;unfold maxLen;omega) (by have:=HFL.out;omega) ?_);intro v10 w10 hs10 hk10 ho10;have HI10:=Hz (HI2.out.app (v:=(r1,r2)) ((Kz w9).alloc _) (by rw [HJL.out];exact hs10) hk10 (by simpa using ho10));clear hs10 hk10 ho10 HL2 HI2 z0 z1 zl;have hfl:=HFL.out;go_wp2_with fail;go_roundw
      case rel=>exact ⟨j+1,_,_,_,by omega,by go_num,by rw [HST.out];exact HI10.out⟩
      case measure=>simp [intOf];omega
     ·unfold aC;go_simp;have kz:ab (fun _=>False) wr (wr.alloc (.cells #[.int .i64 0, .int .i64 0] 96)).drew:=((Kz wr).alloc _).drew;have tz:ah (wr.alloc (.cells #[.int .i64 0, .int .i64 0] 96)).drew wr.heap.size [.int .i64 0, .int .i64 0] 96:=(ah.new wr [.int .i64 0, .int .i64 0] 96).drew;have HIA:=Hz (HI.out.same kz);have TF:=Hz (show ¬ F7 wr.heap.size from fun hf=>by have:=(HI.out.V.hF _ hf).1;omega);have TL:=Hz (show ¬ ai (.slice lo j lc) wr.heap.size from fun hf=>by have:=(HI.out.L.own hf).1;omega);have T1:=Hz (show w1.heap.size≤wr.heap.size from HI.out.K.size);have TZ:=Hz tz;have d8:=(kz.cellAt hgf (fun h=>h) _).trans d0;have d9:=(kz.cellAt hgf (fun h=>h) _).trans d1;have hgf8:=Nat.lt_of_lt_of_le hgf kz.size;refine hK _ _ (fun h=>h) (fun _ _=>⟨HIA.out.V.hf.cell 0,HIA.out.T.cell 1,d8,d9⟩) ?_;clear hK K kz tz HI hgf d0 d1 a0 t1 al tl t0;generalize (wr.alloc (.cells #[.int .i64 0, .int .i64 0] 96)).drew=wa at *;generalize wr.heap.size=zb at *;refine aM rfl rfl (fun K hK=>?_);unfold aC;go_simp;refine (HIH.out (f1,f2) mv7 nv7 F7 _ _ HIA.out.V (HFA.out) (HUN.out j).1 (HUN.out j).2 (HNL.out j)).mono ?_;rintro e w8 ⟨rfl,mv8,nv8,F8,V8,k8,p0,p1,p2⟩;have HI8:=Hz (HIA.out.rU V8 k8 p0 p1 p2);obtain ⟨⟨⟨r1,r2⟩,sr⟩,hr⟩:∃ t,valM W.gr n (f1,f2) (NS W.gr n m s j).2=t:=⟨_,rfl⟩;rw [hr] at HI8 HST ⊢;dsimp only at HI8 HST ⊢;have TF8:=Hz (show ¬ F8 zb from fun hf=>by rcases p2 _ hf with h | h;exact TF.out h;exact absurd h (Nat.not_le.2 TZ.out.lt));have tz8:=k8.ak TZ.out (HIA.out.V.ei TZ.out (by decide) (by decide) (by decide) (by decide));refine hK _ _ (fun _=>⟨HI8.out.V.hf.cell 0,HI8.out.T.cell 1,(k8.cellAt hgf8 (HIA.out.V.fH (HIA.out.dF _ rfl)) _).trans d8,(k8.cellAt hgf8 (HIA.out.V.fH (HIA.out.dF _ rfl)) _).trans d9⟩) ?_;clear hK K V8 k8 p0 p1 p2 hr d8 d9 hgf8 TZ TF HIA;refine aH (fun _=>True) trivial ?_;have TZ:=Hz tz8;have z0:=tz8.cell 0;have z1:=tz8.cell 1;have zl:=tz8.lt;have zf:=tz8.free 0;have zf1:=tz8.free 1;simp only [Lz,Ls] at z0 z1;clear tz8;refine aJ rfl rfl rfl (fun K hK=>?_);unfold aC;go_simp;refine hK _ _ ?_;clear hK K z0 z1 zl zf zf1;refine aH (fun _=>True) trivial (aB ?_);have kz:ab (·=zb) w8 ((w8.setCell ⟨zb,0,none⟩ (.int .i64 r1)).setCell ⟨zb,1,none⟩ (.int .i64 r2)):=((ab.refl (·=zb) w8).setCell (.inl rfl) _).setCell (.inl rfl) _;have HI2:=Hz (HI8.out.other kz ⟨_,TZ.out⟩ T1.out TF8.out TL.out);have tz:ah ((w8.setCell ⟨zb,0,none⟩ (.int .i64 r1)).setCell ⟨zb,1,none⟩ (.int .i64 r2)) zb [.int .i64 r1, .int .i64 r2] 96:=(TZ.out.aO 0 (.int .i64 r1)).aO 1 (.int .i64 r2);clear HI8 kz TZ TF8 T1 TL;generalize (w8.setCell ⟨zb,0,none⟩ (.int .i64 r1)).setCell ⟨zb,1,none⟩ (.int .i64 r2)=w9 at *;have HL2:=Hz (show Sl w9 96 2 (.slice lo j lc) j (aA (NS W.gr n m s j).1) by have:=HI2.out.L;rw [HJL.out] at this;exact this);have z0:=tz.cell 0;have z1:=tz.cell 1;have zl:=tz.lt;simp only [Lz,Ls] at z0 z1;generalize zb=tv at *;clear tz;go_wp2_with (at_builtin;refine bN rfl (.tmp 71) (.tmp 73) 38 rfl 96 vi (.agg #[.int .i64 0, .int .i64 0]) 2 16 Tryz.underlying38 Vi.out Vz0.out Vz1.out Vz2.out rfl (by decide) _ j (aA (NS W.gr n m s j).1) rfl (HL2.out.ae ((Kz w9).alloc _) (fun _ _ h=>h)) ⟨w9.heap.size,0,none⟩ 1 1 [.int .i64 r1, .int .i64 r2] rfl rfl (bW w9 96 #[.int .i64 r1, .int .i64 r2]) (by intro u hu;simp at hu;rcases hu with rfl | rfl <;> rfl) (by have:=HFL.out;unfold maxLen;omega) (by have:=HFL.out;omega) ?_)
      intro v10 w10 hs10 hk10 ho10;have HI10:=Hz (HI2.out.app (v:=(r1,r2)) ((Kz w9).alloc _) (by rw [HJL.out];exact hs10) hk10 (by simpa using ho10));clear hs10 hk10 ho10 HL2 HI2 z0 z1 zl;have hfl:=HFL.out;go_wp2_with fail;go_roundw
      case rel=>exact ⟨j+1,_,_,_,by omega,by go_num,by rw [HST.out];exact HI10.out⟩
      case measure=>simp [intOf];omega
    ·obtain rfl:j=fs.length:=by omega
     clear hlt hj;obtain ⟨wo,wc,ewv,-,-,-⟩:=hI.V.H.hw.rd;have EWV:=Hz ewv;have hwn:W.wait.length≤24:=by have:=hI.V.H.ok.hq;omega
     have HWN:=Hz hwn;have e3:=hI.V.H.cells.2.2.2.1;have el:=hI.V.H.hp.lt;rw [ewv] at e3;have a0:=hI.V.hw.cell 0;have al:=hI.V.hw.lt;simp only [Lz] at a0;have HGW:=Hz (show ∀ p,p<W.wait.length→kd=5→(W.wait.getD p (0,0)).1=(m:Int)→(W.gr m).2[fs.length+eC W.wait m p]? = some (3,(W.wait.getD p (0,0)).2) from fun p hp h5 he=>by
      unfold Wd.gr;dsimp only;rw [HTH.out,List.getElem?_append_right (by dsimp only;omega)];dsimp only;rw [Nat.add_sub_cancel_left,if_pos h5,List.getElem?_map,AE hp he]
      rfl)
     have HKP:=Hz (fun q=>uD W.gr n (m:Int) s q HLL.out);have HFULL:=Hz (show ∀ p,(p=W.wait.length∨kd≠5)→(kd≠5→p=0)→NS W.gr n m s (fs.length+eC W.wait m p)=fldM (valM W.gr n) (W.gr m).2 (s.1 ++ [(m:Int)],s.2 ++ [((W.gr m).1,[])]) from fun p h1 h2=>by
      unfold NS;rw [List.take_of_length_le];rw [HGL.out];by_cases h5:kd=5
      ·rw [if_pos h5];rcases h1 with rfl | h1
       ·rw [zi];exact Nat.le_refl _
       ·exact absurd h5 h1
      ·rw [if_neg h5];omega)
     clear hI;go_wp2_with fail;clear a0 al e3 el t0 tl t1;go_loopw [10,13] (fun lv i wx=>∃ (p:Nat) (mv' nv':Value) (F':Nat→Prop),p≤W.wait.length∧(kd≠5→p=0)∧i=.int .i64 p∧i2 w1 g h W rv mv nv F xb rb tb [.int .i64 kd, .slice ao fs.length fc, .bool aP, .bool dead] [.int .i64 3, .int .i64 m] [.int .i64 0, .int .i64 0] ao fs (NS W.gr n m s (fs.length+eC W.wait m p)).2 lv (NS W.gr n m s (fs.length+eC W.wait m p)).1 wx mv' nv' F') (fun _ i _=>W.wait.length-(intOf i).toNat)
     case atStart=>
      exact ⟨0,_,_,_,Nat.zero_le _,fun _=>rfl,rfl,by rw [xN,Nat.add_zero];exact HI.out⟩
     case round=>
      clear HI;obtain ⟨p,mv9,nv9,F9,hp,hp5,rfl,hI⟩:=hrel;have HI:=Hz hI;have t0:=hI.T.cell 0;have tl:=hI.T.lt;have e3:=hI.V.H.cells.2.2.2.1;have el:=hI.V.H.hp.lt;rw [EWV.out] at e3;have a0:=hI.V.hw.cell 0;have al:=hI.V.hw.lt;simp only [Lz] at a0 t0;by_cases hlt:p<W.wait.length
      ·by_cases hk5:kd=5
       ·have hkb:(kd == 5)=true:=by simpa using hk5
        have HK5:=Hz hk5;obtain ⟨gw,ow,hwo,hown,hcell⟩:=HI.out.V.H.zj hlt EWV.out;subst hwo;have HCW:=Hz hcell;have HOW:=Hz hown;have HXW:=Hz (show (W.wait.getD p (0,0)).2 ∈ W.all from Wd.hH.2 (HI.out.V.H.ok.wv _ (by rw [Ld,Le hlt];exact List.getElem_mem hlt)).2.2);have HGP:=Hz (HGW.out p hlt hk5);have HSTP:=Hz (xO (g:=(m:Int)) hlt);obtain ⟨gwl,d0,d1⟩:=hcell _ HI.out.V.H;have b1:=HI.out.X.cell 1;have bl:=HI.out.X.lt;simp only [Lz,Ls] at b1;clear hI hcell hown hk5 hp5;generalize W.wait.getD p (0,0)=il at *;obtain ⟨x1,x2⟩:=il;dsimp only at d0 d1 HXW HGP HSTP;have hwn:=HWN.out;go_wp2_with fail;refine ay (.free 4 (.free 8 (.pure 0 (.free 1 (.free 2 (.pure 3 (.free 5 (.free 6 (.pure 7 (.pure 9 (.free 10 (.fin)))))))))))) [] (fun w'=>w'.cell? ⟨g.wb,0,none⟩=some (.pointer (some ⟨h.p,0,none⟩))∧w'.cell? ⟨h.p,3,none⟩=some (.slice (some ⟨gw,ow,none⟩) W.wait.length wc)∧w'.cell? ⟨gw,ow+p*2,none⟩=some (.int .i64 x1)∧w'.cell? ⟨xb,1,none⟩=some (.int .i64 m)) (by kernel_rfl) (by kernel_rfl) ⟨a0,e3,d0,b1⟩ ?_
        iterate 11 ((first | refine au rfl rfl fun K hK=>?_ | refine aq rfl rfl fun K hK=>?_ | refine aF rfl rfl fun K hK=>?_ | refine az rfl rfl fun K hK=>?_ | refine aE rfl rfl fun K hK=>?_);go_simp;refine hK _ ?_;clear hK K)
        refine aB ?_;have HI:=Hz (HI.out.same ((Kz wr).drew));clear a0 al e3 el t0 tl b1 bl gwl d0 d1;by_cases he:x1=m
        ·subst he;have hgp:=HGP.out rfl;have hjl0:fs.length+eC W.wait m p<(W.gr m).2.length:=(List.getElem?_eq_some_iff.1 hgp).1;have HFL:=Hz (show fs.length+eC W.wait m p≤40 by have h1:=HFL.out;have h2:=AF (l:=W.wait) (g:=(m:Int)) p;omega);obtain ⟨j,hj⟩:∃ j,fs.length+eC W.wait m p=j:=⟨_,rfl⟩;have HJQ:=Hz hj;rw [hj] at HI HFL hgp hjl0;clear hj;have HST:=Hz (nX W.gr n m s hgp);have hjl:=pP W.gr n m s (j:=j) (by omega);have HJL:=Hz hjl;obtain ⟨lo,lc,rfl,-,-,-⟩:=HI.out.L.rd;rw [hjl] at HI ⊢;clear hgp hjl0 hjl;generalize wr.drew=wr at *;have a0:=HI.out.V.hw.cell 0;have al:=HI.out.V.hw.lt;have e3:=HI.out.V.H.cells.2.2.2.1;have el:=HI.out.V.H.hp.lt;rw [EWV.out] at e3;have c0:=HI.out.V.hf.cell 0;have cl:=HI.out.V.hf.lt;simp only [Lz] at a0 c0;obtain ⟨gwl,-,d1⟩:=HCW.out _ HI.out.V.H;unfold iz.fn at c0;have hwn:=HWN.out;go_wp2_with fail;refine ay (.free 5 (.pure 0 (.pure 1 (.free 2 (.free 3 (.pure 4 (.free 6 (.free 7 (.pure 8 (.free 9 (.two 10 (.run 11 (.run 12 (.swi [] (.fin)))) 11 (.run 10 (.swi [12] (.run 12 (.swi [] (.fin)))))))))))))))) [12] (fun w'=>w'.cell? ⟨g.fb,0,none⟩=some (.func (.func 104) #[] #[.pointer (some ⟨g.mb,0,none⟩), .pointer (some ⟨g.wb,0,none⟩), .pointer (some ⟨g.vb,0,none⟩), .pointer (some ⟨g.fb,0,none⟩)])∧w'.cell? ⟨g.wb,0,none⟩=some (.pointer (some ⟨h.p,0,none⟩))∧w'.cell? ⟨h.p,3,none⟩=some (.slice (some ⟨gw,ow,none⟩) W.wait.length wc)∧w'.cell? ⟨gw,ow+p*2+1,none⟩=some (.int .i64 x2)) (by kernel_rfl) (by kernel_rfl) ⟨c0,a0,e3,d1⟩ ?_
         iterate 10 ((first | refine au rfl rfl fun K hK=>?_ | refine aq rfl rfl fun K hK=>?_ | refine aF rfl rfl fun K hK=>?_ | refine az rfl rfl fun K hK=>?_ | refine aE rfl rfl fun K hK=>?_);go_simp;refine hK _ ?_;clear hK K)
         refine gM rfl rfl rfl rfl (fun K hK=>?_) (fun K hK=>?_)
         ·unfold aC;go_simp;refine (HIH.out (3,x2) mv9 nv9 F9 _ _ (HI.out.V.same ((Kz wr).drew)) (fun _=>HXW.out) (HUN.out j).1 (HUN.out j).2 (HNL.out j)).mono ?_;rintro e w8 ⟨rfl,mv8,nv8,F8,V8,k8,p0,p1,p2⟩;have HI8:=Hz ((HI.out.same ((Kz wr).drew)).rU V8 k8 p0 p1 p2);obtain ⟨⟨⟨r1,r2⟩,sr⟩,hr⟩:∃ t,valM W.gr n (3,x2) (NS W.gr n m s j).2=t:=⟨_,rfl⟩;rw [hr] at HI8 HST ⊢;dsimp only at HI8 HST ⊢;refine hK _ _ (fun h=>h) (fun _ _=>⟨HI8.out.V.hf.cell 0,HI8.out.V.hw.cell 0,by have:=HI8.out.V.H.cells.2.2.2.1;rw [EWV.out] at this;exact this,(HCW.out _ HI8.out.V.H).2.2⟩) ?_;clear hK K V8 k8 p0 p1 p2 hr a0 al e3 el c0 cl gwl d1 HI;refine aM rfl rfl (fun K hK=>?_);unfold aC;go_simp;have kz:ab (fun _=>False) w8 (w8.alloc (.cells #[.int .i64 0, .int .i64 0] 96)).drew:=((Kz w8).alloc _).drew;have tz:ah (w8.alloc (.cells #[.int .i64 0, .int .i64 0] 96)).drew w8.heap.size [.int .i64 0, .int .i64 0] 96:=(ah.new w8 [.int .i64 0, .int .i64 0] 96).drew;have HI9:=Hz (HI8.out.same kz);refine hK _ _ (fun _=>⟨HI9.out.V.hf.cell 0,HI9.out.V.hw.cell 0,by have:=HI9.out.V.H.cells.2.2.2.1;rw [EWV.out] at this;exact this,(HCW.out _ HI9.out.V.H).2.2⟩) ?_;clear hK K;have z0:=tz.cell 0;have z1:=tz.cell 1;have zl:=tz.lt;have zf:=tz.free 0;have zf1:=tz.free 1;simp only [Lz,Ls] at z0 z1;clear kz tz;refine aJ rfl rfl rfl (fun K hK=>?_);unfold aC;go_simp;refine hK _ _ ?_;clear hK K z0 z1 zl zf zf1 HI9;refine aH (fun _=>True) trivial (aB ?_);have kz:ab (fun _=>False) w8 (w8.alloc (.cells #[.int .i64 r1, .int .i64 r2] 96)):=((Kz w8).alloc _);have tz:ah (w8.alloc (.cells #[.int .i64 r1, .int .i64 r2] 96)) w8.heap.size [.int .i64 r1, .int .i64 r2] 96:=(ah.new w8 [.int .i64 r1, .int .i64 r2] 96);have HI2:=Hz (HI8.out.same kz);clear HI8 kz;generalize w8.alloc (.cells #[.int .i64 r1, .int .i64 r2] 96)=w9 at *;have HL2:=Hz (show Sl w9 96 2 (.slice lo j lc) j (aA (NS W.gr n m s j).1) by have:=HI2.out.L;rw [HJL.out] at this;exact this);have z0:=tz.cell 0;have z1:=tz.cell 1;have zl:=tz.lt;simp only [Lz,Ls] at z0 z1;generalize w8.heap.size=tv at *;clear tz;go_wp2_with (at_builtin;refine bN rfl (.tmp 111) (.tmp 113) 38 rfl 96 vi (.agg #[.int .i64 0, .int .i64 0]) 2 16 Tryz.underlying38 Vi.out Vz0.out Vz1.out Vz2.out rfl (by decide) _ j (aA (NS W.gr n m s j).1) rfl (HL2.out.ae ((Kz w9).alloc _) (fun _ _ h=>h)) ⟨w9.heap.size,0,none⟩ 1 1 [.int .i64 r1, .int .i64 r2] rfl rfl (bW w9 96 #[.int .i64 r1, .int .i64 r2]) (by intro u hu;simp at hu;rcases hu with rfl | rfl <;> rfl) (by have:=HFL.out;unfold maxLen;omega) (by have:=HFL.out;omega) ?_);intro v10 w10 hs10 hk10 ho10;have HI10:=Hz (HI2.out.app (v:=(r1,r2)) ((Kz w9).alloc _) (by rw [HJL.out];exact hs10) hk10 (by simpa using ho10));clear hs10 hk10 ho10 HL2 HI2 z0 z1 zl;have hfl:=HFL.out;have hwn:=HWN.out;go_wp2_with fail;go_roundw
          case rel=>exact ⟨p+1,_,_,_,hlt,fun h=>absurd HK5.out h,by go_num,by rw [HSTP.out,if_pos (by trivial),←Nat.add_assoc,HJQ.out,HST.out];exact HI10.out⟩
          case measure=>simp [intOf];omega
         ·unfold aC;go_simp;have kz:ab (fun _=>False) wr (wr.alloc (.cells #[.int .i64 0, .int .i64 0] 96)).drew:=((Kz wr).alloc _).drew;have tz:ah (wr.alloc (.cells #[.int .i64 0, .int .i64 0] 96)).drew wr.heap.size [.int .i64 0, .int .i64 0] 96:=(ah.new wr [.int .i64 0, .int .i64 0] 96).drew;have HIA:=Hz (HI.out.same kz);have TF:=Hz (show ¬ F9 wr.heap.size from fun hf=>by have:=(HI.out.V.hF _ hf).1;omega);have TL:=Hz (show ¬ ai (.slice lo j lc) wr.heap.size from fun hf=>by have:=(HI.out.L.own hf).1;omega);have T1:=Hz (show w1.heap.size≤wr.heap.size from HI.out.K.size);have TZ:=Hz tz;refine hK _ _ (fun h=>h) (fun _ _=>⟨HIA.out.V.hf.cell 0,HIA.out.V.hw.cell 0,by have:=HIA.out.V.H.cells.2.2.2.1;rw [EWV.out] at this;exact this,(HCW.out _ HIA.out.V.H).2.2⟩) ?_;clear hK K kz tz HI a0 al e3 el c0 cl gwl d1;generalize (wr.alloc (.cells #[.int .i64 0, .int .i64 0] 96)).drew=wa at *;generalize wr.heap.size=zb at *;refine aM rfl rfl (fun K hK=>?_);unfold aC;go_simp;refine (HIH.out (3,x2) mv9 nv9 F9 _ _ HIA.out.V (fun _=>HXW.out) (HUN.out j).1 (HUN.out j).2 (HNL.out j)).mono ?_;rintro e w8 ⟨rfl,mv8,nv8,F8,V8,k8,p0,p1,p2⟩;have HI8:=Hz (HIA.out.rU V8 k8 p0 p1 p2);obtain ⟨⟨⟨r1,r2⟩,sr⟩,hr⟩:∃ t,valM W.gr n (3,x2) (NS W.gr n m s j).2=t:=⟨_,rfl⟩;rw [hr] at HI8 HST ⊢;dsimp only at HI8 HST ⊢;have TF8:=Hz (show ¬ F8 zb from fun hf=>by rcases p2 _ hf with h | h;exact TF.out h;exact absurd h (Nat.not_le.2 TZ.out.lt));have tz8:=k8.ak TZ.out (HIA.out.V.ei TZ.out (by decide) (by decide) (by decide) (by decide));refine hK _ _ (fun _=>⟨HI8.out.V.hf.cell 0,HI8.out.V.hw.cell 0,by have:=HI8.out.V.H.cells.2.2.2.1;rw [EWV.out] at this;exact this,(HCW.out _ HI8.out.V.H).2.2⟩) ?_;clear hK K V8 k8 p0 p1 p2 hr TZ TF HIA;refine aH (fun _=>True) trivial ?_;have TZ:=Hz tz8;have z0:=tz8.cell 0;have z1:=tz8.cell 1;have zl:=tz8.lt;have zf:=tz8.free 0;have zf1:=tz8.free 1;simp only [Lz,Ls] at z0 z1;clear tz8;refine aJ rfl rfl rfl (fun K hK=>?_);unfold aC;go_simp;refine hK _ _ ?_;clear hK K z0 z1 zl zf zf1;refine aH (fun _=>True) trivial (aB ?_);have kz:ab (·=zb) w8 ((w8.setCell ⟨zb,0,none⟩ (.int .i64 r1)).setCell ⟨zb,1,none⟩ (.int .i64 r2)):=((ab.refl (·=zb) w8).setCell (.inl rfl) _).setCell (.inl rfl) _;have HI2:=Hz (HI8.out.other kz ⟨_,TZ.out⟩ T1.out TF8.out TL.out);have tz:ah ((w8.setCell ⟨zb,0,none⟩ (.int .i64 r1)).setCell ⟨zb,1,none⟩ (.int .i64 r2)) zb [.int .i64 r1, .int .i64 r2] 96:=(TZ.out.aO 0 (.int .i64 r1)).aO 1 (.int .i64 r2);clear HI8 kz TZ TF8 T1 TL;generalize (w8.setCell ⟨zb,0,none⟩ (.int .i64 r1)).setCell ⟨zb,1,none⟩ (.int .i64 r2)=w9 at *;have HL2:=Hz (show Sl w9 96 2 (.slice lo j lc) j (aA (NS W.gr n m s j).1) by have:=HI2.out.L;rw [HJL.out] at this;exact this);have z0:=tz.cell 0;have z1:=tz.cell 1;have zl:=tz.lt;simp only [Lz,Ls] at z0 z1;generalize zb=tv at *;clear tz;go_wp2_with (at_builtin;refine bN rfl (.tmp 111) (.tmp 113) 38 rfl 96 vi (.agg #[.int .i64 0, .int .i64 0]) 2 16 Tryz.underlying38 Vi.out Vz0.out Vz1.out Vz2.out rfl (by decide) _ j (aA (NS W.gr n m s j).1) rfl (HL2.out.ae ((Kz w9).alloc _) (fun _ _ h=>h)) ⟨w9.heap.size,0,none⟩ 1 1 [.int .i64 r1, .int .i64 r2] rfl rfl (bW w9 96 #[.int .i64 r1, .int .i64 r2]) (by intro u hu;simp at hu;rcases hu with rfl | rfl <;> rfl) (by have:=HFL.out;unfold maxLen;omega) (by have:=HFL.out;omega) ?_)
          intro v10 w10 hs10 hk10 ho10;have HI10:=Hz (HI2.out.app (v:=(r1,r2)) ((Kz w9).alloc _) (by rw [HJL.out];exact hs10) hk10 (by simpa using ho10));clear hs10 hk10 ho10 HL2 HI2 z0 z1 zl;have hfl:=HFL.out;have hwn:=HWN.out;go_wp2_with fail;go_roundw
          case rel=>exact ⟨p+1,_,_,_,hlt,fun h=>absurd HK5.out h,by go_num,by rw [HSTP.out,if_pos (by trivial),←Nat.add_assoc,HJQ.out,HST.out];exact HI10.out⟩
          case measure=>simp [intOf];omega
        ·have hd:(x1 == (m:Int))=false:=by simpa using he
         have HSTP:=Hz (show eC W.wait m (p+1)=eC W.wait m p by rw [HSTP.out,if_neg he];rfl);clear he;go_wp2_with fail;go_roundw
         case rel=>exact ⟨p+1,_,_,_,hlt,fun h=>absurd HK5.out h,by go_num,by rw [HSTP.out];exact HI.out⟩
         case measure=>simp [intOf];omega
       ·have hkb:(kd == 5)=false:=by simpa using hk5
        obtain rfl:p=0:=hp5 hk5;have HEN:=Hz (HFULL.out 0 (.inr hk5) hp5);have HI9:=Hz hI;obtain ⟨cs9,hs9,hr9⟩:=hI.V.N;have hkp:=HKP.out (fs.length+eC W.wait m 0);have hlt9:s.1.length<(NS W.gr n m s (fs.length+eC W.wait m 0)).2.2.length:=(List.getElem?_eq_some_iff.1 hkp).1;have HKP9:=Hz hkp;obtain ⟨g9,o9,cap9,cur,rfl,hb9,h91,h92,h93,h94⟩:=hs9.laid (by omega);have c1:=hI.V.hv.cell 1;have cl:=hI.V.hv.lt;have g1:=hb9.cell (o9+s.1.length*2+1);have gl:=hb9.lt;have gf9:=hb9.free (o9+s.1.length*2+1);obtain ⟨u9,hu9⟩:∃ u,cur[o9+s.1.length*2+1]? = some u:=⟨_,Le (by omega)⟩;simp only [Lz,Ls] at c1;rw [hu9] at g1;obtain ⟨lo9,lc9,rfl,-,-,-⟩:=hI.L.rd;have hs9m:(NS W.gr n m s (fs.length+eC W.wait m 0)).2.2.length≤cap9:=h91;clear hI hr9 hs9 hb9 h92 h93 h94 h91 hu9 hkp;go_upto_region 25 with (fail)
        obtain ⟨hd1,rd9⟩:=HI9.out.done (kd:=kd) (n:=s.1.length) rfl rfl (by have hkp:=HKP9.out;rw [HGR1.out] at hkp;exact hkp);have HD9:=Hz hd1;have RD9:=Hz rd9;clear c1 cl g1 gl gf9 HI9 hd1 rd9;generalize wr.setCell ⟨g9,o9+s.1.length*2+1,none⟩ _=w9 at *;have r0:=RD9.out.cell 0;have r1:=RD9.out.cell 1;have rl:=RD9.out.lt;have f0:=RD9.out.free 0;have f1:=RD9.out.free 1;simp only [Lz,Ls] at r0 r1;go_wp2_with fail;have c9:=(RD9.out.aO 0 (.int .i64 3)).aO 1 (.int .i64 s.1.length);have x0':=c9.cell 0;have x1':=c9.cell 1;simp only [List.set_cons_zero,List.set_cons_succ,Lz,Ls] at x0' x1';refine bodyPost_ret (v:=.agg #[.int .i64 3, .int .i64 s.1.length]) (by simp [results,Tryz.results104,go_sem,x0',x1']) rfl ?_;unfold lq;rw [HNEW.out];dsimp only;refine ⟨rfl,?_⟩;have set:=((ab.refl (·=rb) w9).setCell (p:=⟨rb,0,none⟩) (.inl rfl) (.int .i64 3)).setCell (p:=⟨rb,1,none⟩) (.inl rfl) (.int .i64 s.1.length);rw [←HEN.out,HGR1.out];exact iO.done K1.out HD9.out HRB.out RB.out.lt RNF.out RNO.out ⟨_,RD9.out⟩ set
      ·obtain rfl:p=W.wait.length:=by omega
       have HEN:=Hz (HFULL.out W.wait.length (.inl rfl) hp5);have HI9:=Hz hI;obtain ⟨cs9,hs9,hr9⟩:=hI.V.N;have hkp:=HKP.out (fs.length+eC W.wait m W.wait.length);have hlt9:s.1.length<(NS W.gr n m s (fs.length+eC W.wait m W.wait.length)).2.2.length:=(List.getElem?_eq_some_iff.1 hkp).1;have HKP9:=Hz hkp;obtain ⟨g9,o9,cap9,cur,rfl,hb9,h91,h92,h93,h94⟩:=hs9.laid (by omega);have c1:=hI.V.hv.cell 1;have cl:=hI.V.hv.lt;have g1:=hb9.cell (o9+s.1.length*2+1);have gl:=hb9.lt;have gf9:=hb9.free (o9+s.1.length*2+1);obtain ⟨u9,hu9⟩:∃ u,cur[o9+s.1.length*2+1]? = some u:=⟨_,Le (by omega)⟩;simp only [Lz,Ls] at c1;rw [hu9] at g1;obtain ⟨lo9,lc9,rfl,-,-,-⟩:=hI.L.rd;have hs9m:(NS W.gr n m s (fs.length+eC W.wait m W.wait.length)).2.2.length≤cap9:=h91;clear hI hr9 hs9 hb9 h92 h93 h94 h91 hu9 hkp;go_upto_region 25 with (fail)
       obtain ⟨hd1,rd9⟩:=HI9.out.done (kd:=kd) (n:=s.1.length) rfl rfl (by have hkp:=HKP9.out;rw [HGR1.out] at hkp;exact hkp);have HD9:=Hz hd1;have RD9:=Hz rd9;clear c1 cl g1 gl gf9 HI9 hd1 rd9;generalize wr.setCell ⟨g9,o9+s.1.length*2+1,none⟩ _=w9 at *;have r0:=RD9.out.cell 0;have r1:=RD9.out.cell 1;have rl:=RD9.out.lt;have f0:=RD9.out.free 0;have f1:=RD9.out.free 1;simp only [Lz,Ls] at r0 r1;go_wp2_with fail;have c9:=(RD9.out.aO 0 (.int .i64 3)).aO 1 (.int .i64 s.1.length);have x0':=c9.cell 0;have x1':=c9.cell 1;simp only [List.set_cons_zero,List.set_cons_succ,Lz,Ls] at x0' x1';refine bodyPost_ret (v:=.agg #[.int .i64 3, .int .i64 s.1.length]) (by simp [results,Tryz.results104,go_sem,x0',x1']) rfl ?_;unfold lq;rw [HNEW.out];dsimp only;refine ⟨rfl,?_⟩;have set:=((ab.refl (·=rb) w9).setCell (p:=⟨rb,0,none⟩) (.inl rfl) (.int .i64 3)).setCell (p:=⟨rb,1,none⟩) (.inl rfl) (.int .i64 s.1.length);rw [←HEN.out,HGR1.out];exact iO.done K1.out HD9.out HRB.out RB.out.lt RNF.out RNO.out ⟨_,RD9.out⟩ set
end
end
section
theorem CG {g:iz} {h:RW} {W:Wd} {rv:Value} (hT:W.T.length≤100000) (n:Nat):BH g h W rv n:=by
 induction n with
 | zero=>
  intro v mv nv F s w V hx hu hc hl;by_cases h3:v.1=3
  ·obtain ⟨v1,v2⟩:=v;dsimp only at h3 hx;subst h3;by_cases hm:v2 ∈ s.1
   ·exact qE v2 0 V hm (by omega)
   ·have:=jw (hx rfl) hm;omega
  ·exact nR v 0 V h3
 | succ n ih=>
  intro v mv nv F s w V hx hu hc hl;by_cases h3:v.1=3
  ·obtain ⟨v1,v2⟩:=v;dsimp only at h3 hx;subst h3;by_cases hm:v2 ∈ s.1
   ·exact qE v2 (n+1) V hm (by omega)
   ·exact v7 n ih v2 V (hx rfl) hm hu hc hl hT
  ·exact nR v (n+1) V h3
end
section
open Go.RowKit
section
variable {w:World} {g:iz} {h:RW} {W:Wd} {tb:Nat}
structure gF (w:World) (g:iz) (h:RW) (W:Wd) (tb:Nat) (wr:World) (rv mv nv:Value) (F:Nat→Prop) (s:VS) (l:List Vl):Prop where
 V:dO wr g h W rv mv nv F s
 K:ab (fun _=>False) w wr
 o0:∀ k,ai mv k→w.heap.size≤k
 o1:∀ k,ai nv k→w.heap.size≤k
 o2:∀ k,F k→w.heap.size≤k
 L:Sl wr 96 2 rv l.length (aA l)
 o3:∀ k,ai rv k→w.heap.size≤k∧¬ F k
 om:w.heap.size≤g.mb
 ov:w.heap.size≤g.vb
 ot:w.heap.size≤tb
 nt:tb≠g.vb
 ol:∀ k,h.Own k→k<w.heap.size
 B:ah wr tb [.slice none 0 0, .slice none 0 0] 41
variable {wr w2:World} {rv mv nv:Value} {F:Nat→Prop} {s s2:VS} {l:List Vl}
theorem gF.pQ (I:gF w g h W tb wr rv mv nv F s l) {k:Nat} (hk:ai rv k):¬ gE g mv nv k:=by
 obtain ⟨_,c,hc⟩:=I.L.own hk;exact I.V.ei hc (by decide) (by decide) (by decide) (by decide)
theorem gF.Co (I:gF w g h W tb wr rv mv nv F s l):¬ gE g mv nv tb:=fun e=>by
 rcases e with e | e | e | e
 ·exact I.B.ne I.V.hm (by decide) e
 ·exact I.nt e
 ·obtain ⟨_,c,hc⟩:=I.V.M.own e;exact I.B.ne hc (by decide) rfl
 ·obtain ⟨_,c,hc⟩:=I.V.N.own e;exact I.B.ne hc (by decide) rfl
theorem gF.told {mv2 nv2:Value} {F2:Nat→Prop} (I:gF w g h W tb wr rv mv nv F s l) (V2:dO w2 g h W rv mv2 nv2 F2 s2) (k2:ab (gE g mv nv) wr w2) (p0:∀ k,ai mv2 k→ai mv k∨wr.heap.size≤k) (p1:∀ k,ai nv2 k→ai nv k∨wr.heap.size≤k) (p2:∀ k,F2 k→F k∨wr.heap.size≤k) :
  gF w g h W tb w2 rv mv2 nv2 F2 s2 l:=by
 have hz:=I.K.size;refine ⟨V2,I.K.then k2 (fun j hj=>?_),fun j hj=>?_,fun j hj=>?_,fun j hj=>?_,I.L.ae k2 (fun j hj=>I.pQ hj),fun j hj=>⟨(I.o3 j hj).1,fun hf=>?_⟩,I.om,I.ov,I.ot,I.nt,I.ol,k2.ak I.B I.Co⟩
 ·rcases hj with rfl | rfl | hj | hj
  ·exact .inr I.om
  ·exact .inr I.ov
  ·exact .inr (I.o0 j hj)
  ·exact .inr (I.o1 j hj)
 ·rcases p0 j hj with h | h
  ·exact I.o0 j h
  ·omega
 ·rcases p1 j hj with h | h
  ·exact I.o1 j h
  ·omega
 ·rcases p2 j hj with h | h
  ·exact I.o2 j h
  ·omega
 ·rcases p2 j hf with h | h
  ·exact (I.o3 j hj).2 h
  ·have:=(I.L.own hj).1;omega
theorem gF.same (I:gF w g h W tb wr rv mv nv F s l) (k:ab (fun _=>False) wr w2):gF w g h W tb w2 rv mv nv F s l:=
 ⟨I.V.same k,I.K.trans k,I.o0,I.o1,I.o2,I.L.ae k (fun _ _ h=>h),I.o3,I.om,I.ov,I.ot,I.nt,I.ol,k.ak I.B (fun h=>h)⟩
theorem gF.app {v:Vl} {v2:Value} {wa:World} (I:gF w g h W tb wr rv mv nv F s l) (ka:ab (fun _=>False) wr wa) (hs:Sl w2 96 2 v2 (l.length+1) (aA l ++ [.int .i64 v.1, .int .i64 v.2])) (hk:ab (ai rv) wa w2)
  (ho:∀ k,ai v2 k→ai rv k∨wa.heap.size≤k):gF w g h W tb (w2.setCell ⟨g.vb,0,none⟩ v2) v2 mv nv F s (l ++ [v]):=by
 have k2:=(ka.mono (T:=ai rv) (fun _ _ h=>h.elim)).trans hk;have hz:=ka.size;have hz2:=I.K.size;have nr:∀ {b:Nat} {c:List Value} {T:TypeId},ah wr b c T→T≠96→¬ ai rv b:=fun hb hT e=>by obtain ⟨_,c',hc'⟩:=I.L.own e;exact hb.ne hc' hT rfl
 have hv2:=k2.ak I.V.hv (nr I.V.hv (by decide));have set:=(ab.refl (·=g.vb) w2).setCell (p:=⟨g.vb,0,none⟩) (.inl rfl) v2;have kk:ab (fun k=>ai rv k∨k=g.vb) wr (w2.setCell ⟨g.vb,0,none⟩ v2):=(k2.mono (fun _ _ h=>.inl h)).then set (fun b hb=>.inl (.inr hb));have nb:∀ {b:Nat} {c:List Value} {T:TypeId},ah wr b c T→T≠96→T≠41→¬ (ai rv b∨b=g.vb):=fun hb h1 h2 e=>by
  rcases e with e | e
  ·exact nr hb h1 e
  ·exact hb.ne I.V.hv h2 e
 have nF:∀ b,F b→¬ (ai rv b∨b=g.vb):=fun b hb e=>by
  rcases e with e | e
  ·exact (I.o3 b e).2 hb
  ·obtain ⟨_,c,hc⟩:=I.V.hF b hb;exact hc.ne I.V.hv (by decide) e
 refine ⟨⟨I.V.H.ae kk (fun b hb e=>?_),kk.ak I.V.hm (nb I.V.hm (by decide) (by decide)),kk.ak I.V.hw (nb I.V.hw (by decide) (by decide)),by simpa using hv2.aO 0 v2,kk.ak I.V.hf (nb I.V.hf (by decide) (by decide)),I.V.M.ae kk (fun b hb=>?_),I.V.N.ae kk (fun b hb _=>nF b hb) (fun b hb=>?_),fun b hb=>?_,I.V.bd⟩,I.K.then kk (fun j hj=>?_),I.o0,I.o1,I.o2,?_,fun j hj=>?_,I.om,I.ov,I.ot,I.nt,I.ol,kk.ak I.B (fun e=>?_)⟩
 ·have h1:=I.ol b hb;rcases e with e | e
  ·have:=(I.o3 b e).1;omega
  ·have:=I.ov;omega
 ·obtain ⟨_,c,hc⟩:=I.V.M.own hb;exact nb hc (by decide) (by decide)
 ·obtain ⟨_,c,hc⟩:=I.V.N.own hb;exact nb hc (by decide) (by decide)
 ·obtain ⟨a,c,hc⟩:=I.V.hF b hb;exact ⟨Nat.lt_of_lt_of_le a kk.size,c,kk.ak hc (nF b hb)⟩
 ·rcases hj with hj | hj
  ·exact .inr (I.o3 j hj).1
  ·exact .inr (by rw [hj];exact I.ov)
 ·have e:aA (l ++ [v])=aA l ++ [.int .i64 v.1, .int .i64 v.2]:=by simp [aA]
  rw [e,List.length_append];exact hs.ae set (fun b hb e=>by obtain ⟨_,c,hc⟩:=hs.own hb;exact hc.ne hv2 (by decide) e)
 ·rcases ho j hj with h1 | h1
  ·exact I.o3 j h1
  ·exact ⟨by omega,fun hf=>by have:=(I.V.hF j hf).1;omega⟩
 ·rcases e with e | e
  ·exact nr I.B (by decide) e
  ·exact I.nt e
end
def TR (W:Wd) (k:Nat):List Vl × VS:=fldM (valM W.gr 5000) (W.roots.take k) ([],[])
theorem AH {W:Wd} {k:Nat} (h:k<W.roots.length):TR W (k+1)=((TR W k).1 ++ [(valM W.gr 5000 (W.roots.getD k (0,0)) (TR W k).2).1],(valM W.gr 5000 (W.roots.getD k (0,0)) (TR W k).2).2):=by
 unfold TR;have e:W.roots[k]? = some (W.roots.getD k (0,0)):=by rw [Le h];simp [List.getD,h]
 rw [List.take_add_one,e,Option.toList_some,lW]
 rfl
theorem BI {W:Wd} {k:Nat} (h:k≤W.roots.length):(TR W k).1.length=k:=by
 unfold TR;rw [lX,List.length_take];omega
theorem zk {W:Wd} (k:Nat):(TR W k).2.2.length=(TR W k).2.1.length:=by
 unfold TR;exact j3 (j4 W.gr 5000) _ _ rfl
theorem Cp {W:Wd} (h:W.ok) (k:Nat):dz W.all (TR W k).2.1≤5000∧(TR W k).2.1.length+dz W.all (TR W k).2.1≤5000:=by
 have I:=Wd.rh h;unfold TR;have h1:=Wd.qT h;have h2:=qJ W.all;have h3:=gX (f:=valM W.gr 5000) (U:=W.all) (j5 I 5000) (W.roots.take k) ([],[]) (fun v hv h3=>Wd.hH.2 (Wd.bh (h.rv v (List.mem_of_mem_take hv)) h3));simp only [List.length_nil] at h3;exact ⟨by omega,by omega⟩
end
section
open Go.RowKit
@[go_sem] theorem xP {P:Program} {a:Addr} {m:Mode} {w:World} (f:Fn) (x y:Array Value):(store a (.func f x y) m).run P w=stored P w a (.func f x y) m:=run_store P w a _ m rfl
theorem gF.other {w wr w2:World} {g:iz} {h:RW} {W:Wd} {tb:Nat} {rv mv nv:Value} {F:Nat→Prop} {s:VS} {l:List Vl} {b:Nat} (I:gF w g h W tb wr rv mv nv F s l) (k:ab (·=b) wr w2) (hb:∃ c,ah wr b c 96) (h0:w.heap.size≤b) (h1:¬ F b) (h2:¬ ai rv b) :
  gF w g h W tb w2 rv mv nv F s l:=by
 obtain ⟨c,hc⟩:=hb;have ho:¬ h.Own b:=fun e=>by have:=I.ol b e;omega
 have fp:=I.V.ei hc (by decide) (by decide) (by decide) (by decide);exact ⟨I.V.other k fp ho h1 (hc.ne I.V.hw (by decide)) (hc.ne I.V.hf (by decide)),I.K.then k (fun j hj=>.inr (by rw [hj];exact h0)),I.o0,I.o1,I.o2,I.L.ae k (fun j hj e=>h2 (e ▸ hj)),I.o3,I.om,I.ov,I.ot,I.nt,I.ol,k.ak I.B (fun e=>hc.ne I.B (by decide) e.symm)⟩
section
variable {h:RW} {W:Wd}
theorem AJ (w:World) (H:aZ w h W) (hT:W.T.length≤100000) :
  Calls Tryz.prog 35 #[.pointer (some ⟨h.p,0,none⟩)] w fun e w'=>uE w W.view e w':=by
 have HH:=Hz H;have HT:=Hz hT;obtain ⟨vi,hi,hz0,hz1,hz2⟩:=cZ iG;have Vi:=Hz hi;have Vz0:=Hz hz0;have Vz1:=Hz hz1;have Vz2:=Hz hz2;clear hi hz0 hz1 hz2;have h12:=H.ok.hr;obtain ⟨ro,rc,hro,-,-,-⟩:=H.hr.rd;have HRO:=Hz hro;have HRR:=Hz H.hr;clear H hT hro;go_enter Tryz.func35,Tryz.ntmps35;go_upto_region 4 with fail
 have HB:Hid (∃ w1,((((w.alloc (.cells #[.pointer (some ⟨h.p,0,none⟩)] 35)).alloc (.cells #[.slice none 0 0, .slice none 0 0] 41)).alloc (.cells #[.slice none 0 0, .slice none 0 0] 41)).alloc (.cells #[.slice none 0 0] 83)).alloc (.cells #[.nilFunc] 155)=w1∧ab (fun _=>False) w w1∧ah w1 w.heap.size [.pointer (some ⟨h.p,0,none⟩)] 35∧ah w1 (w.heap.size+1) [.slice none 0 0, .slice none 0 0] 41∧ah w1 (w.heap.size+1+1) [.slice none 0 0, .slice none 0 0] 41∧ah w1 (w.heap.size+1+1+1) [.slice none 0 0] 83∧ah w1 (w.heap.size+1+1+1+1) [.nilFunc] 155):=
  ⟨_,rfl,(((((Kz w).alloc _).alloc _).alloc _).alloc _).alloc _,((((ah.newAt _ rfl rfl).alloc _).alloc _).alloc _).alloc _,(((ah.newAt _ (by simp) rfl).alloc _).alloc _).alloc _,((ah.newAt _ (by simp) rfl).alloc _).alloc _,(ah.newAt _ (by simp) rfl).alloc _,ah.newAt _ (by simp) rfl⟩
 obtain ⟨w1,hw1,k1,bw,bt,bv,bm,bf⟩:=HB.out;rw [hw1];clear HB hw1;have f0:=bf.cell 0;have fl:=bf.lt;have ff:=bf.free 0;simp only [Lz] at f0;have H1:=Hz (HH.out.same k1);have K1:=Hz k1;have BW:=Hz bw;have BT:=Hz bt;have BV:=Hz bv;have BM:=Hz bm;have BF:=Hz bf;clear k1 bw bt bv bm bf;go_wp2_with fail;clear f0 fl ff;have set:=(ab.refl (·=w.heap.size+1+1+1+1) w1).setCell (p:=⟨w.heap.size+1+1+1+1,0,none⟩) (.inl rfl) (iz.fn ⟨w.heap.size+1+1+1,w.heap.size,w.heap.size+1+1,w.heap.size+1+1+1+1⟩);have hol:∀ k,h.Own k→k<w.heap.size:=fun k hk=>(HH.out.bB hk).1;have HOL:=Hz hol;have BF2:=Hz (BF.out.aO 0 (iz.fn ⟨w.heap.size+1+1+1,w.heap.size,w.heap.size+1+1,w.heap.size+1+1+1+1⟩));have V2:dO (w1.setCell ⟨w.heap.size+1+1+1+1,0,none⟩ (iz.fn ⟨w.heap.size+1+1+1,w.heap.size,w.heap.size+1+1,w.heap.size+1+1+1+1⟩)) ⟨w.heap.size+1+1+1,w.heap.size,w.heap.size+1+1,w.heap.size+1+1+1+1⟩ h W (.slice none 0 0) (.slice none 0 0) (.slice none 0 0) (fun _=>False) ([],[]):=
  ⟨H1.out.ae set (fun b hb e=>by have:=hol b hb;omega),set.ak BM.out (by dsimp only;omega),set.ak BW.out (by dsimp only;omega),set.ak BV.out (by dsimp only;omega),BF2.out,Sl.nil _ _ _,dR.nil _ _,fun _ h=>h.elim,fun _ h=>by cases h⟩
 have HI0:=Hz (show gF w ⟨w.heap.size+1+1+1,w.heap.size,w.heap.size+1+1,w.heap.size+1+1+1+1⟩ h W (w.heap.size+1) _ (.slice none 0 0) (.slice none 0 0) (.slice none 0 0) (fun _=>False) (TR W 0).2 (TR W 0).1 from
  ⟨V2,K1.out.setCell (p:=⟨w.heap.size+1+1+1+1,0,none⟩) (.inr (show w.heap.size≤w.heap.size+1+1+1+1 by omega)) _,fun _ h=>(bM h).elim,fun _ h=>(bM h).elim,fun _ h=>h.elim,Sl.nil _ _ _,fun _ h=>(bM h).elim,by dsimp only;omega,by dsimp only;omega,by omega,by dsimp only;omega,hol,set.ak BT.out (by omega)⟩)
 clear set hol V2 BF2 BF BM BV BT BW HOL K1 H1;generalize hfb:w.heap.size+1+1+1+1=fb at *;generalize hmb:w.heap.size+1+1+1=mb at *;generalize hvb:w.heap.size+1+1=vb at *;generalize htb:w.heap.size+1=tb at *;generalize hwb:w.heap.size=wb at *;clear hfb hmb hvb htb hwb;unfold iz.fn at HI0;dsimp only at HI0;generalize w1.setCell _ _=w2 at *;have HT':=Hz (fun g rv=>CG (g:=g) (h:=h) (W:=W) (rv:=rv) HT.out 5000);go_wp2_with fail;go_loopw [6] (fun i wr=>∃ (k:Nat) (rv mv nv:Value) (F:Nat→Prop),k≤12∧i=.int .i64 k∧gF w ⟨mb,wb,vb,fb⟩ h W tb wr rv mv nv F (TR W k).2 (TR W k).1) (fun i _=>12-(intOf i).toNat)
 case atStart=>exact ⟨0,_,_,_,_,Nat.zero_le _,rfl,HI0.out⟩
 case round=>
  clear HI0;obtain ⟨k,rv,mv,nv,F,hk,rfl,hI⟩:=hrel;have HI:=Hz hI;have hkl:=BI (W:=W) (k:=k) (by rw [HH.out.ok.hr];exact hk);have HKL:=Hz hkl;by_cases hlt:k<12
  ·have a0:=hI.V.hw.cell 0;have al:=hI.V.hw.lt;have e1:=hI.V.H.cells.2.1;have el:=hI.V.H.hp.lt;rw [HRO.out,h12] at e1;have f0:=hI.V.hf.cell 0;have fl:=hI.V.hf.lt;unfold iz.fn at f0;simp only [Lz] at a0 f0;have HST:=Hz (AH (W:=W) (k:=k) (by rw [HH.out.ok.hr];exact hlt));obtain ⟨gr,og,rc',erv,ggl,d0,d1⟩:=hI.V.H.root hlt;rw [HRO.out] at erv;cases erv;have hm:W.roots.getD k (0,0) ∈ W.roots:=by rw [Ld,Le (by rw [HH.out.ok.hr];exact hlt)];exact List.getElem_mem _
   have HAL:=Hz (show (W.roots.getD k (0,0)).1=3→(W.roots.getD k (0,0)).2 ∈ W.all from fun h3=>Wd.hH.2 (Wd.bh (HH.out.ok.rv _ hm) h3));have hrt:W.rt (k:Int)=W.roots.getD k (0,0):=by unfold Wd.rt;rw [Int.toNat_natCast]
   rw [hrt] at d0 d1;clear hrt hm;generalize W.roots.getD k (0,0)=v at *;obtain ⟨f1,f2⟩:=v;dsimp only at d0 d1;have OWN:=Hz (show h.Own gr from .inr (.inr (.inl (by rw [HRO.out];rfl))));have UN:=Hz (Cp HH.out.ok k);have NL:=Hz (zk (W:=W) k);obtain ⟨lo,lc,rfl,-,-,-⟩:=hI.L.rd;rw [hkl] at HI;clear hI hkl;go_wp2_with fail;refine ay (.free 5 (.pure 0 (.pure 1 (.free 2 (.free 3 (.pure 4 (.free 6 (.pure 7 (.two 8 (.run 9 (.run 10 (.swi [] (.fin)))) 9 (.run 8 (.swi [10] (.run 10 (.swi [] (.fin)))))))))))))) [10] (fun w'=>w'.cell? ⟨fb,0,none⟩=some (.func (.func 104) #[] #[.pointer (some ⟨mb,0,none⟩), .pointer (some ⟨wb,0,none⟩), .pointer (some ⟨vb,0,none⟩), .pointer (some ⟨fb,0,none⟩)])∧w'.cell? ⟨wb,0,none⟩=some (.pointer (some ⟨h.p,0,none⟩))∧w'.cell? ⟨h.p,1,none⟩=some (.slice (some ⟨gr,og,none⟩) 12 rc)∧w'.cell? ⟨gr,og+k*2,none⟩=some (.int .i64 f1)∧w'.cell? ⟨gr,og+k*2+1,none⟩=some (.int .i64 f2)) (by kernel_rfl) (by kernel_rfl) ⟨f0,a0,e1,d0,d1⟩ ?_
   iterate 8 ((first | refine au rfl rfl fun K hK=>?_ | refine aq rfl rfl fun K hK=>?_ | refine aF rfl rfl fun K hK=>?_ | refine az rfl rfl fun K hK=>?_ | refine aE rfl rfl fun K hK=>?_);go_simp;refine hK _ ?_;clear hK K)
   refine gM rfl rfl rfl rfl (fun K hK=>?_) (fun K hK=>?_)
   ·unfold aC;go_simp;refine (HT'.out _ _ (f1,f2) mv nv F _ _ (HI.out.V.same ((Kz wr).drew)) HAL.out UN.out.1 UN.out.2 NL.out).mono ?_;rintro e w8 ⟨rfl,mv8,nv8,F8,V8,k8,p0,p1,p2⟩;have HI8:=Hz ((HI.out.same ((Kz wr).drew)).told V8 k8 p0 p1 p2);obtain ⟨⟨⟨r1,r2⟩,sr⟩,hr⟩:∃ t,valM W.gr 5000 (f1,f2) (TR W k).2=t:=⟨_,rfl⟩;rw [hr] at HI8 HST ⊢;dsimp only at HI8 HST ⊢;have hgf8:=Nat.lt_of_lt_of_le ggl k8.size;have d8:=(k8.cellAt ggl (HI.out.V.fH OWN.out) _).trans d0;have d9:=(k8.cellAt ggl (HI.out.V.fH OWN.out) _).trans d1;have e8:=HI8.out.V.H.cells.2.1;rw [HRO.out,h12] at e8;refine hK _ _ (fun h=>h) (fun _ _=>⟨HI8.out.V.hf.cell 0,HI8.out.V.hw.cell 0,e8,d8,d9⟩) ?_;clear hK K V8 k8 p0 p1 p2 hr a0 e1 d0 d1 ggl al el f0 fl HI;refine aM rfl rfl (fun K hK=>?_);unfold aC;go_simp;have kz:ab (fun _=>False) w8 (w8.alloc (.cells #[.int .i64 0, .int .i64 0] 96)).drew:=((Kz w8).alloc _).drew;have tz:ah (w8.alloc (.cells #[.int .i64 0, .int .i64 0] 96)).drew w8.heap.size [.int .i64 0, .int .i64 0] 96:=(ah.new w8 [.int .i64 0, .int .i64 0] 96).drew;have HI9:=Hz (HI8.out.same kz);have e9:=HI9.out.V.H.cells.2.1;rw [HRO.out,h12] at e9;refine hK _ _ (fun _=>⟨HI9.out.V.hf.cell 0,HI9.out.V.hw.cell 0,e9,(kz.cellAt hgf8 (fun h=>h) _).trans d8,(kz.cellAt hgf8 (fun h=>h) _).trans d9⟩) ?_;clear hK K d8 d9 hgf8 e8 e9;have z0:=tz.cell 0;have z1:=tz.cell 1;have zl:=tz.lt;have zf:=tz.free 0;have zf1:=tz.free 1;simp only [Lz,Ls] at z0 z1;clear kz tz;refine aJ rfl rfl rfl (fun K hK=>?_);unfold aC;go_simp;refine hK _ _ ?_;clear hK K z0 z1 zl zf zf1 HI9;refine aH (fun _=>True) trivial (aB ?_);have kz:ab (fun _=>False) w8 (w8.alloc (.cells #[.int .i64 r1, .int .i64 r2] 96)):=((Kz w8).alloc _);have tz:ah (w8.alloc (.cells #[.int .i64 r1, .int .i64 r2] 96)) w8.heap.size [.int .i64 r1, .int .i64 r2] 96:=(ah.new w8 [.int .i64 r1, .int .i64 r2] 96);have HI2:=Hz (HI8.out.same kz);clear HI8 kz;generalize w8.alloc (.cells #[.int .i64 r1, .int .i64 r2] 96)=w9 at *;have HL2:=Hz (show Sl w9 96 2 (.slice lo k lc) k (aA (TR W k).1) by have:=HI2.out.L;rw [HKL.out] at this;exact this);have z0:=tz.cell 0;have z1:=tz.cell 1;have zl:=tz.lt;simp only [Lz,Ls] at z0 z1;have c2:=HI2.out.V.hv.cell 0;have cl:=HI2.out.V.hv.lt;simp only [Lz] at c2;generalize w8.heap.size=tv at *;clear tz;go_wp2_with (at_builtin;refine bN rfl (.tmp 28) (.tmp 30) 38 rfl 96 vi (.agg #[.int .i64 0, .int .i64 0]) 2 16 Tryz.underlying38 Vi.out Vz0.out Vz1.out Vz2.out rfl (by decide) _ k (aA (TR W k).1) rfl (HL2.out.ae ((Kz w9).alloc _) (fun _ _ h=>h)) ⟨w9.heap.size,0,none⟩ 1 1 [.int .i64 r1, .int .i64 r2] rfl rfl (bW w9 96 #[.int .i64 r1, .int .i64 r2]) (by intro u hu;simp at hu;rcases hu with rfl | rfl <;> rfl) (by unfold maxLen;omega) (by omega) ?_);intro v10 w10 hs10 hk10 ho10;have HI10:=Hz (HI2.out.app (v:=(r1,r2)) ((Kz w9).alloc _) (by rw [HKL.out];exact hs10) hk10 (by simpa using ho10));have hp3:=hk10.ak (((Kz w9).alloc _).ak HI2.out.V.hv (fun h=>h)) (fun hv=>by obtain ⟨_,c',hc⟩:=(HL2.out.ae ((Kz w9).alloc (.cells #[.int .i64 r1, .int .i64 r2] 96)) (fun _ _ h=>h)).own hv;exact (((Kz w9).alloc _).ak HI2.out.V.hv (fun h=>h)).ne hc (by decide) rfl)
    have x0:=hp3.cell 0;have xf:=hp3.free 0;have xl:=hp3.lt;simp only [Lz,Ls] at x0;obtain ⟨lo3,lc3,rfl,-,-,-⟩:=hs10.rd;clear hs10 hk10 ho10 HL2 HI2 z0 z1 zl hp3 c2 cl;go_wp2_with fail;go_roundw
    case rel=>exact ⟨k+1,_,_,_,_,by omega,by go_num,by rw [HST.out];exact HI10.out⟩
    case measure=>simp [intOf];omega
   ·unfold aC;go_simp;have kz:ab (fun _=>False) wr (wr.alloc (.cells #[.int .i64 0, .int .i64 0] 96)).drew:=((Kz wr).alloc _).drew;have tz:ah (wr.alloc (.cells #[.int .i64 0, .int .i64 0] 96)).drew wr.heap.size [.int .i64 0, .int .i64 0] 96:=(ah.new wr [.int .i64 0, .int .i64 0] 96).drew;have HIA:=Hz (HI.out.same kz);have TF:=Hz (show ¬ F wr.heap.size from fun hf=>by have:=(HI.out.V.hF _ hf).1;omega);have TL:=Hz (show ¬ ai (.slice lo k lc) wr.heap.size from fun hf=>by have:=(HI.out.L.own hf).1;omega);have T1:=Hz (show w.heap.size≤wr.heap.size from HI.out.K.size);have TZ:=Hz tz;have d8:=(kz.cellAt ggl (fun h=>h) _).trans d0;have d9:=(kz.cellAt ggl (fun h=>h) _).trans d1;have hgf8:=Nat.lt_of_lt_of_le ggl kz.size;have e8:=HIA.out.V.H.cells.2.1;rw [HRO.out,h12] at e8;refine hK _ _ (fun h=>h) (fun _ _=>⟨HIA.out.V.hf.cell 0,HIA.out.V.hw.cell 0,e8,d8,d9⟩) ?_;clear hK K kz tz HI ggl d0 d1 a0 e1 al el f0 fl e8;generalize (wr.alloc (.cells #[.int .i64 0, .int .i64 0] 96)).drew=wa at *;generalize wr.heap.size=zb at *;refine aM rfl rfl (fun K hK=>?_);unfold aC;go_simp;refine (HT'.out _ _ (f1,f2) mv nv F _ _ HIA.out.V HAL.out UN.out.1 UN.out.2 NL.out).mono ?_;rintro e w8 ⟨rfl,mv8,nv8,F8,V8,k8,p0,p1,p2⟩;have HI8:=Hz (HIA.out.told V8 k8 p0 p1 p2);obtain ⟨⟨⟨r1,r2⟩,sr⟩,hr⟩:∃ t,valM W.gr 5000 (f1,f2) (TR W k).2=t:=⟨_,rfl⟩;rw [hr] at HI8 HST ⊢;dsimp only at HI8 HST ⊢;have TF8:=Hz (show ¬ F8 zb from fun hf=>by rcases p2 _ hf with h | h;exact TF.out h;exact absurd h (Nat.not_le.2 TZ.out.lt));have tz8:=k8.ak TZ.out (HIA.out.V.ei TZ.out (by decide) (by decide) (by decide) (by decide));have e8:=HI8.out.V.H.cells.2.1;rw [HRO.out,h12] at e8;refine hK _ _ (fun _=>⟨HI8.out.V.hf.cell 0,HI8.out.V.hw.cell 0,e8,(k8.cellAt hgf8 (HIA.out.V.fH OWN.out) _).trans d8,(k8.cellAt hgf8 (HIA.out.V.fH OWN.out) _).trans d9⟩) ?_;clear hK K V8 k8 p0 p1 p2 hr d8 d9 hgf8 TZ TF HIA e8;refine aH (fun _=>True) trivial ?_;have TZ:=Hz tz8;have z0:=tz8.cell 0;have z1:=tz8.cell 1;have zl:=tz8.lt;have zf:=tz8.free 0;have zf1:=tz8.free 1;simp only [Lz,Ls] at z0 z1;clear tz8;refine aJ rfl rfl rfl (fun K hK=>?_);unfold aC;go_simp;refine hK _ _ ?_;clear hK K z0 z1 zl zf zf1;refine aH (fun _=>True) trivial (aB ?_);have kz:ab (·=zb) w8 ((w8.setCell ⟨zb,0,none⟩ (.int .i64 r1)).setCell ⟨zb,1,none⟩ (.int .i64 r2)):=((ab.refl (·=zb) w8).setCell (.inl rfl) _).setCell (.inl rfl) _;have HI2:=Hz (HI8.out.other kz ⟨_,TZ.out⟩ T1.out TF8.out TL.out);have tz:ah ((w8.setCell ⟨zb,0,none⟩ (.int .i64 r1)).setCell ⟨zb,1,none⟩ (.int .i64 r2)) zb [.int .i64 r1, .int .i64 r2] 96:=(TZ.out.aO 0 (.int .i64 r1)).aO 1 (.int .i64 r2);clear HI8 kz TZ TF8 T1 TL;generalize (w8.setCell ⟨zb,0,none⟩ (.int .i64 r1)).setCell ⟨zb,1,none⟩ (.int .i64 r2)=w9 at *;have HL2:=Hz (show Sl w9 96 2 (.slice lo k lc) k (aA (TR W k).1) by have:=HI2.out.L;rw [HKL.out] at this;exact this);have z0:=tz.cell 0;have z1:=tz.cell 1;have zl:=tz.lt;simp only [Lz,Ls] at z0 z1;have c2:=HI2.out.V.hv.cell 0;have cl:=HI2.out.V.hv.lt;simp only [Lz] at c2;generalize zb=tv at *
    clear tz;go_wp2_with (at_builtin;refine bN rfl (.tmp 28) (.tmp 30) 38 rfl 96 vi (.agg #[.int .i64 0, .int .i64 0]) 2 16 Tryz.underlying38 Vi.out Vz0.out Vz1.out Vz2.out rfl (by decide) _ k (aA (TR W k).1) rfl (HL2.out.ae ((Kz w9).alloc _) (fun _ _ h=>h)) ⟨w9.heap.size,0,none⟩ 1 1 [.int .i64 r1, .int .i64 r2] rfl rfl (bW w9 96 #[.int .i64 r1, .int .i64 r2]) (by intro u hu;simp at hu;rcases hu with rfl | rfl <;> rfl) (by unfold maxLen;omega) (by omega) ?_);intro v10 w10 hs10 hk10 ho10;have HI10:=Hz (HI2.out.app (v:=(r1,r2)) ((Kz w9).alloc _) (by rw [HKL.out];exact hs10) hk10 (by simpa using ho10));have hp3:=hk10.ak (((Kz w9).alloc _).ak HI2.out.V.hv (fun h=>h)) (fun hv=>by obtain ⟨_,c',hc⟩:=(HL2.out.ae ((Kz w9).alloc (.cells #[.int .i64 r1, .int .i64 r2] 96)) (fun _ _ h=>h)).own hv;exact (((Kz w9).alloc _).ak HI2.out.V.hv (fun h=>h)).ne hc (by decide) rfl);have x0:=hp3.cell 0;have xf:=hp3.free 0;have xl:=hp3.lt;simp only [Lz,Ls] at x0;obtain ⟨lo3,lc3,rfl,-,-,-⟩:=hs10.rd;clear hs10 hk10 ho10 HL2 HI2 z0 z1 zl hp3 c2 cl;go_wp2_with fail;go_roundw
    case rel=>exact ⟨k+1,_,_,_,_,by omega,by go_num,by rw [HST.out];exact HI10.out⟩
    case measure=>simp [intOf];omega
  ·obtain rfl:k=12:=by omega
   obtain ⟨lo,lc,rfl,hrr,-,-⟩:=hI.L.rd;obtain ⟨cs,hns,hnr⟩:=hI.V.N;obtain ⟨no,nc,rfl,-,-,-⟩:=hns.rd;have c2:=hI.V.hv.cell 0;have c3:=hI.V.hv.cell 1;have cl:=hI.V.hv.lt;have b0:=hI.B.cell 0;have b1:=hI.B.cell 1;have bl:=hI.B.lt;have f0:=hI.B.free 0;have f1:=hI.B.free 1;simp only [Lz,Ls] at c2 c3 b0 b1;have a0:=hI.V.hw.cell 0;have al:=hI.V.hw.lt;have e1:=hI.V.H.cells.2.1;have el:=hI.V.H.hp.lt;rw [HRO.out,h12] at e1;simp only [Lz] at a0;have HVE:=Hz (show W.view=((TR W 12).1,(TR W 12).2.2) by
    unfold Wd.view j2 TR deep
    rw [List.take_of_length_le (by rw [HH.out.ok.hr];exact Nat.le_refl _)])
   clear hI hrr hns hnr hlt hk hkl;go_wp2_with (refine cF rfl 41 (.tmp 3) rfl (by kernel_rfl) vb 0 rfl _ _ c2 c3 ?_);have c9:=(HI.out.B.aO 0 (.slice lo (TR W 12).1.length lc)).aO 1 (.slice no (TR W 12).2.2.length nc);have x0:=c9.cell 0;have x1:=c9.cell 1;simp only [List.set_cons_zero,List.set_cons_succ,Lz,Ls] at x0 x1;refine bodyPost_ret (v:=.agg #[.slice lo (TR W 12).1.length lc, .slice no (TR W 12).2.2.length nc]) (by simp [results,Tryz.results35,go_sem,x0,x1]) rfl ?_;refine ⟨_,rfl,?_,(HI.out.K.setCell (p:=⟨tb,0,none⟩) (.inr HI.out.ot) _).setCell (p:=⟨tb,1,none⟩) (.inr HI.out.ot) _⟩;rw [HVE.out];have ke:=((ab.refl (·=tb) wr).setCell (p:=⟨tb,0,none⟩) (.inl rfl) (.slice lo (TR W 12).1.length lc)).setCell (p:=⟨tb,1,none⟩) (.inl rfl) (.slice no (TR W 12).2.2.length nc);refine ⟨lo,lc,no,nc,F,rfl,HI.out.L.ae ke (fun j hj e=>?_),HI.out.V.N.ae ke (fun j hj _ e=>?_) (fun j hj e=>?_),fun j hj=>?_⟩
   ·subst e;obtain ⟨_,c,hc⟩:=HI.out.L.own hj;exact hc.ne HI.out.B (by decide) rfl
   ·subst e;obtain ⟨_,c,hc⟩:=HI.out.V.hF _ hj;exact hc.ne HI.out.B (by decide) rfl
   ·subst e;obtain ⟨_,c,hc⟩:=HI.out.V.N.own hj;exact hc.ne HI.out.B (by decide) rfl
   ·have hks:=ke.size;rcases hj with hj | hj | hj
    ·exact ⟨HI.out.o2 j hj,by have:=(HI.out.V.hF j hj).1;omega⟩
    ·exact ⟨(HI.out.o3 j hj).1,by have:=(HI.out.L.own hj).1;omega⟩
    ·exact ⟨HI.out.o1 j hj,by have:=(HI.out.V.N.own hj).1;omega⟩
end
end
section
open Go.RowKit
structure HW (w0 w:World) (p q:Nat) (h:HH) (b:RW) (O:Wo) (W:Wd):Prop where
 A:HM w0 w p h O
 B:aZ w b W
 e:b.p=q
 own:∀ k,b.Own k→w0.heap.size≤k
section
variable {w0 w w':World} {p q:Nat} {h:HH} {b:RW} {O O':Wo} {W W':Wd}
theorem HW.apart (M:HW w0 w p q h b O W) (k:Nat):¬ (h.Own k∧b.Own k):=by
 rintro ⟨h1,h2⟩;obtain ⟨_,c',T',hc',hT'⟩:=M.B.bB h2;rcases h1 with rfl | h1
 ·rcases hT' with rfl | rfl | rfl | rfl <;> exact M.A.B.hp.ne hc' (by decide) rfl
 ·obtain ⟨c,T,hc,hT⟩:=M.A.B.H.bB h1;rcases hT with rfl | rfl | rfl | rfl | rfl | rfl | rfl <;> rcases hT' with rfl | rfl | rfl | rfl <;> exact hc.ne hc' (by decide) rfl
theorem HW.same (M:HW w0 w p q h b O W) (k:ab (fun _=>False) w w'):HW w0 w' p q h b O W:=⟨M.A.same k,M.B.same k,M.e,M.own⟩
theorem HW.heap (M:HW w0 w p q h b O W) (t:a6 w h w' O'):∃ h',HW w0 w' p q h' b O' W:=by
 obtain ⟨h',M'⟩:=M.A.to t;obtain ⟨_,_,_,k,_⟩:=t;exact ⟨h',M',M.B.ae k (fun j hj e=>M.apart j ⟨e,hj⟩),M.e,M.own⟩
theorem HW.world (M:HW w0 w p q h b O W) (t:aK w b w' W'):∃ b',HW w0 w' p q h b' O W':=by
 obtain ⟨b',B',e,k,o⟩:=t;refine ⟨b',⟨M.A.B.ae k (fun j hj e=>M.apart j ⟨hj,e⟩),M.A.e,M.A.K.then k (fun j hj=>.inr (M.own j hj)),M.A.own⟩,B',e.trans M.e,fun j hj=>?_⟩;rcases o j hj with h1 | h1
 ·exact M.own j h1
 ·have:=M.A.K.size;omega
theorem HW.pc (M:HW w0 w p q h b O W):w.cell? ⟨p,0,none⟩=some (.pointer (some ⟨h.a.p,0,none⟩))∧p<w.heap.size:=M.A.pc
theorem HW.ql (M:HW w0 w p q h b O W):q<w.heap.size:=by have:=M.B.hp.lt;rw [M.e] at this;exact this
theorem HM.zm (M:HM w0 w p h O) {φ:Int→Int} (R:aL O W φ) (x:St) :
  Calls Tryz.prog 32 #[.pointer (some ⟨p,0,none⟩), .agg #[.int .i64 x.k, .int .i64 x.r, .int .i64 x.a, .int .i64 x.b, .int .i64 x.i, .int .i64 x.n]] w (bO w h O x):=by
 have:=Cm x R M.B;rw [M.e] at this;exact this
theorem HW.zm (M:HW w0 w p q h b O W) (hT:W.T.length≤90000) (x:St) (hn:br x.n) :
  Calls Tryz.prog 33 #[.pointer (some ⟨q,0,none⟩), .agg #[.int .i64 x.k, .int .i64 x.r, .int .i64 x.a, .int .i64 x.b, .int .i64 x.i, .int .i64 x.n]] w (tF w b W x):=by
 have:=Cn x M.B hT hn;rw [M.e] at this;exact this
end
end
section
open Go.RowKit
def zn (w wr:World) (p q k:Nat):Prop:=∃ h b O W,HW w wr p q h b O W∧W.T.length≤k∧∃ φ,aL O W φ
section
variable {w w':World}
theorem tG (n o:Int) (lo:Option Addr) (lc m:Nat) (xs:List Int) (w:World) (h0:Rd w lo (xs.map (Value.int .i64))) (hx:xs.length=m*6) (hb:∀ x ∈ xs,br x) :
  Calls Tryz.prog 7 #[.int .i64 n, .int .i64 o, .slice lo m lc] w fun e w'=>e=.returned (.bool true)∧ab (fun _=>False) w w':=by
 have H0:=Hz h0;have HX:=Hz hx;have HBD:=Hz hb;clear h0 hx hb;go_enter Tryz.func7,Tryz.ntmps7;go_wp2_with fail;refine (ug _).mono ?_;rintro e w1 ⟨rfl,hk1⟩;have HK1:=Hz hk1;clear hk1;by_cases hm:250<m
 ·go_wp2_with fail;go_ret;exact ⟨rfl,HK1.out⟩
 have hm250:m≤250:=by omega
 cases hfit:Ar.fits n o
 ·go_wp2_with fail;refine (Af n o _ hfit).mono ?_;rintro e w2 ⟨rfl,hk2⟩;have HK2:=Hz (HK1.out.trans hk2);clear hk2;have HF:=Hz (show iy n o=(1,-1) by unfold iy;rw [hfit];rfl);go_wp2_with fail;refine (oP n o _).mono ?_;rintro e w3 ⟨rfl,hk3⟩;rw [HF.out];dsimp only;have HK3:=Hz ((HK2.out.alloc (.cells #[.int .i64 1, .int .i64 (-1)] 28)).trans hk3);have aw:=hk3.ak (show ah (w2.alloc (.cells #[.int .i64 1, .int .i64 (-1)] 28)) w2.heap.size [.int .i64 1, .int .i64 (-1)] 28 from ah.newAt _ rfl rfl) (fun h=>h);have b0:=aw.cell 0;have b1:=aw.cell 1;have bl:=aw.lt;simp only [Lz,Ls] at b0 b1;clear hk3 aw;go_wp2_with fail;go_ret;exact ⟨rfl,HK3.out.alloc _⟩
 have HF:=Hz (show iy n o=(0,0) by unfold iy;rw [hfit];rfl);have hno:16≤n∧n≤256∧0≤o∧o≤1024:=by simp [Ar.fits] at hfit;omega
 have HNO:=Hz hno;have HFIT:=Hz hfit;clear hno;go_wp2_with fail;refine (sW n o _ hfit).mono ?_;rintro e w2 ⟨h,rfl,A2,k2,o2⟩;have M2:=Hz (show HM w w2 h.p h _ from ⟨A2,rfl,HK1.out.trans k2,fun k hk=>Nat.le_trans HK1.out.size (o2 k hk)⟩);clear A2 k2 o2 HK1 hfit;generalize h.p=p at *;go_wp2_with fail;refine (oP n o _).mono ?_;rintro e w3 ⟨rfl,hk3⟩;rw [HF.out];dsimp only;have hka:=(Kz w2).alloc (.cells #[.int .i64 0, .int .i64 0] 28);have M3:=Hz (M2.out.same (hka.trans hk3));have aw:=hk3.ak (show ah (w2.alloc (.cells #[.int .i64 0, .int .i64 0] 28)) w2.heap.size [.int .i64 0, .int .i64 0] 28 from ah.newAt _ rfl rfl) (fun h=>h);have b0:=aw.cell 0;have b1:=aw.cell 1;have bl:=aw.lt;simp only [Lz,Ls] at b0 b1;clear hk3 hka aw M2;go_wp2_with fail;refine (tN n o HNO.out.1 HNO.out.2.1 HNO.out.2.2.1 HNO.out.2.2.2 _).mono ?_;rintro e w4 ⟨b,rfl,B4,k4,o4⟩;have hka:=(Kz w3).alloc (.cells #[.int .i64 0, .int .i64 0] 28);have HI:=Hz (show zn w w4 p b.p 0 from ⟨h,b,_,_,⟨M3.out.same (hka.trans k4),B4,rfl,fun k hk=>by have:=o4 k hk;have:=M3.out.K.size;simp at *;omega⟩,by simp [Wd.new],_,aL.new HFIT.out⟩);clear hka k4 o4 B4 M3 HF HFIT HNO b0 b1 bl;generalize b.p=q at *;go_wp2_with fail;refine sn (fun i=>Nat.blt 43 i || Nat.blt 10 i && Nat.blt i 16) (fun s wr=>∃ k:Nat,k≤m∧s 11=.int .i64 k∧zn w wr p q k) (fun s _=>m-(intOf (s 11)).toNat) ?_ ?_
 ·exact ⟨0,Nat.zero_le _,rfl,HI.out⟩
 ·intro u0 wr hrel K hK;clear HI;obtain ⟨k,hk,e11,hI⟩:=hrel;have e11:u0 11=.int .i64 k:=e11;have HI:=Hz hI;clear hI;simp only [gH,overL,List.toList_toArray,Nat.blt,Nat.beq,Nat.ble,Nat.reduceAdd,Bool.or_false,Bool.false_or,Bool.or_true,Bool.true_or,Bool.and_true,Bool.true_and,Bool.and_false,Bool.false_and,cond_true,cond_false];rw [e11];have E11:=Hz e11;clear e11;by_cases hlt:k<m
  ·obtain ⟨h1,b1,O1,W1,M1,hT1,φ1,R1⟩:=HI.out;obtain ⟨gs,os,rfl,hgl,d0⟩:=H0.out.nth (k*6) (by rw [HX.out];omega);obtain ⟨_,_,e',-,d1⟩:=H0.out.nth (k*6+1) (by rw [HX.out];omega);cases e';obtain ⟨_,_,e',-,d2⟩:=H0.out.nth (k*6+2) (by rw [HX.out];omega);cases e';obtain ⟨_,_,e',-,d3⟩:=H0.out.nth (k*6+3) (by rw [HX.out];omega);cases e';obtain ⟨_,_,e',-,d4⟩:=H0.out.nth (k*6+4) (by rw [HX.out];omega);cases e';obtain ⟨_,_,e',-,d5⟩:=H0.out.nth (k*6+5) (by rw [HX.out];omega);cases e';rw [←Nat.add_assoc] at d1 d2 d3 d4 d5;have HZ:=Hz (show br (xs.getD (k*6+5) 0) from HBD.out _ (by rw [Ld,Le (by rw [HX.out];omega)];exact List.getElem_mem _));generalize xs.getD (k*6) 0=d at *;generalize xs.getD (k*6+1) 0=r at *;generalize xs.getD (k*6+2) 0=a at *;generalize xs.getD (k*6+3) 0=b at *;generalize xs.getD (k*6+4) 0=i at *;generalize xs.getD (k*6+5) 0=z at *;have hcl:∀ w',ab (fun _=>False) w w'→w'.cell? ⟨gs,os+k*6,none⟩=some (.int .i64 d)∧w'.cell? ⟨gs,os+k*6+1,none⟩=some (.int .i64 r)∧w'.cell? ⟨gs,os+k*6+2,none⟩=some (.int .i64 a)∧w'.cell? ⟨gs,os+k*6+3,none⟩=some (.int .i64 b)∧w'.cell? ⟨gs,os+k*6+4,none⟩=some (.int .i64 i)∧w'.cell? ⟨gs,os+k*6+5,none⟩=some (.int .i64 z):=fun w' kk=>by
    have hcc:∀ q,w'.cell? ⟨gs,q,none⟩=w.cell? ⟨gs,q,none⟩:=fun q=>World.cell?_of_block (w:=w) (a:=⟨gs,q,none⟩) (kk.block gs hgl (fun h=>h));exact ⟨(hcc _).trans d0,(hcc _).trans d1,(hcc _).trans d2,(hcc _).trans d3,(hcc _).trans d4,(hcc _).trans d5⟩
   have HCL:=Hz hcl;clear d0 d1 d2 d3 d4 d5 hcl;obtain ⟨d0,d1,d2,d3,d4,d5⟩:=HCL.out _ (M1.A.K);have hgl:=Nat.lt_of_lt_of_le hgl (ab.size (M1.A.K));have M:=Hz M1;have R:=Hz R1;have HT:=Hz hT1;clear HI M1 R1 hT1;have hdo:=fun w' (M':HM w w' p h1 O1)=>M'.zm R.out ⟨d,r,a,b,i,z⟩;have hwd:=fun w' h' O' (M':HW w w' p q h' b1 O' W1)=>M'.zm (by have:=HT.out;omega) ⟨d,r,a,b,i,z⟩ HZ.out;have hrd2:=R.out.do ⟨d,r,a,b,i,z⟩
   have hln:=Wd.BB W1 ⟨d,r,a,b,i,z⟩;unfold bO at hdo;unfold tF at hwd;obtain ⟨hcc,ψ,hR2⟩:=hrd2;obtain ⟨⟨c,P⟩,hP⟩:∃ t,O1.do ⟨d,r,a,b,i,z⟩=t:=⟨_,rfl⟩
   obtain ⟨⟨c',V⟩,hV⟩:∃ t,W1.do ⟨d,r,a,b,i,z⟩=t:=⟨_,rfl⟩
   rw [hP,hV] at hcc;simp only [hP] at hdo;rw [hP,hV] at hR2;simp only [hV] at hwd;rw [hV] at hln;dsimp only at hcc hdo hR2 hln;subst hcc;have HDO:=Hz hdo;have HWD:=Hz hwd;have R2:=Hz hR2;have HT2:=Hz (show V.T.length≤k+1 by have:=HT.out;omega);clear hdo hwd hR2 hln hP hV R;have hcb:(c != c)=false:=by simp
   have hki:(k:Int)<m:=by omega
   go_wp2_with fail;refine ay (.free 0 (.free 1 (.free 2 (.free 3 (.free 6 (.free 7 (.free 8 (.free 9 (.pure 4 (.pure 10 (.run 5 (.run 11 (.swi [] (.free 12 (.fin))))))))))))))) [11,12] (fun w'=>w'.cell? ⟨gs,os+k*6,none⟩=some (.int .i64 d)∧w'.cell? ⟨gs,os+k*6+1,none⟩=some (.int .i64 r)∧w'.cell? ⟨gs,os+k*6+2,none⟩=some (.int .i64 a)∧w'.cell? ⟨gs,os+k*6+3,none⟩=some (.int .i64 b)∧w'.cell? ⟨gs,os+k*6+4,none⟩=some (.int .i64 i)∧w'.cell? ⟨gs,os+k*6+5,none⟩=some (.int .i64 z)) (by kernel_rfl) (by kernel_rfl) ⟨d0,d1,d2,d3,d4,d5⟩ ?_
   iterate 10 ((first | refine au rfl rfl fun K hK=>?_ | refine aq rfl rfl fun K hK=>?_ | refine jH rfl rfl _ (fun w' hG=>by obtain ⟨d0,d1,d2,d3,d4,d5⟩:=hG;exact mS (cs:=[_,_,_,_,_,_]) rfl (by decide +kernel) rfl (aa (by assumption) (aa (by assumption) (aa (by assumption) (aa (by assumption) (aa (by assumption) (aa (by assumption) aQ))))))) (fun K hK=>?_) | refine aF rfl rfl fun K hK=>?_ | refine az rfl rfl fun K hK=>?_ | refine aE rfl rfl fun K hK=>?_);go_simp;refine hK _ ?_;clear hK K)
   refine aM rfl rfl (fun K hK=>?_);unfold aC;go_simp;have hk1:=(Kz wr).drew;have MD:=Hz (M.out.same hk1);refine (HDO.out _ MD.out.A).mono ?_;rintro e w5 ⟨rfl,ht⟩;obtain ⟨h5,M5'⟩:=MD.out.heap ht;have M5:=Hz M5';refine hK _ _ (fun _=>HCL.out _ M5.out.A.K) ?_;clear hK K ht M5' hk1 MD M d0 d1 d2 d3 d4 d5 hgl;refine aM rfl rfl (fun K hK=>?_);unfold aC;go_simp;refine (HWD.out _ _ _ M5.out).mono ?_;rintro e w6 ⟨rfl,ht⟩;obtain ⟨b6,M6'⟩:=M5.out.world ht;have M6:=Hz M6';refine hK _ _ (fun _=>HCL.out _ M6.out.A.K) ?_;clear hK K ht M6' M5 HDO HWD;refine aH (fun _=>True) trivial ?_
   iterate 1 ((first | refine au rfl rfl fun K hK=>?_ | refine aq rfl rfl fun K hK=>?_);go_simp;refine hK _ ?_;clear hK K)
   refine aB ?_;obtain ⟨c0,pl⟩:=M6.out.pc;have ql:=M6.out.ql;have q0:=M6.out.A.B.H.dZ.1;have qa:=M6.out.A.B.H.hp.lt;have EY:=Hz R2.out.sy.symm;have EO:=Hz R2.out.Az.symm;go_wp2_with fail;refine (lH _ M6.out.A.B.H.ha).mono ?_;rintro e w7 ⟨rfl,hk⟩;have M7:=Hz (M6.out.same hk);clear hk c0 pl ql q0 qa M6;have ql:=M7.out.ql;have hwu:=qO M7.out.B (by have:=HT2.out;omega);rw [M7.out.e] at hwu;have HWU:=Hz hwu;clear hwu;go_wp2_with fail;refine HWU.out.mono ?_;rintro e w8 ⟨rfl,hk⟩;have M8:=Hz (M7.out.same hk);clear hk ql M7 HWU;rw [EY.out,EO.out];obtain ⟨c0,pl⟩:=M8.out.pc;have ql:=M8.out.ql;generalize ((P.ar.yng:Nat):Int)=ya at *;generalize ((P.ar.grn-P.ar.nur:Nat):Int)=ga at *;have e1:(ya != ya)=false:=by simp
   have e2:(ga != ga)=false:=by simp
   go_wp2_with fail;refine (wK _ M8.out.A.B.H).mono ?_;rintro e w9 ⟨v9,rfl,hv9,hk9⟩;have M9:=Hz (M8.out.same hk9);have V9:=Hz hv9;clear hv9 hk9 M8 c0 pl ql;have ql:=M9.out.ql;have hwv:=AJ _ M9.out.B (by have:=HT2.out;omega);rw [M9.out.e] at hwv;have HWV:=Hz hwv;clear hwv;go_wp2_with fail;refine HWV.out.mono ?_;rintro e w10 ⟨v10,rfl,hv10,hk10⟩;have M10:=Hz (M9.out.same hk10);have V10:=Hz (V9.out.ae hk10 (fun _ _ _ h=>h));have U10:=Hz hv10;clear hv10 hk10 M9 V9 HWV ql;go_wp2_with fail;refine (sj _ _ P.view _ (V10.out.rep R2.out) (by have:=U10.out;rw [←R2.out.view] at this;exact this.rep R2.out)).mono ?_;rintro e w11 ⟨rfl,hk11⟩;have HIK:=Hz (show zn w w11 p q (k+1) from ⟨h5,b6,_,_,M10.out.same hk11,HT2.out,ψ,R2.out⟩);clear hk11 M10 V10 U10;go_wp2_with fail;refine ⟨⟨by kernel_rfl,?rel⟩,?measure⟩
   case rel=>exact ⟨k+1,hlt,by go_num,HIK.out⟩
   case measure=>exact Aa (by go_num) (by first | rfl | exact E11.out) hlt
  ·obtain rfl:k=m:=by omega
   obtain ⟨h1,b1,O1,W1,M1,-⟩:=HI.out;have K1:=Hz M1.A.K;clear HI M1;go_wp2_with fail;go_ret;exact ⟨rfl,K1.out⟩
theorem rO (n o:Int) (lo:Option Addr) (lc m:Nat) (xs:List Int) (w:World) (_:br n) (_:br o) (h0:Rd w lo (xs.map (Value.int .i64))) (hx:xs.length=m*6) (_:m≤maxLen) (hb:∀ x ∈ xs,br x) :
  Calls Tryz.prog 7 #[.int .i64 n, .int .i64 o, .slice lo m lc] w fun e w'=>e=.returned (.bool true)∧Below w.heap.size w w':=
 (tG n o lo lc m xs w h0 hx hb).mono fun e w' ⟨h1,h2⟩=>⟨h1,h2.below (fun _ _ h=>h)⟩
end
end
end Go.Proofs.YtjifdalflepcoacGreat
