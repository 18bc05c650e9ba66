/-
  Parts of the proof, merged: what the functions do, and plain laws.
-/
import Derived.Test.YtjifdalflepcoacGreatHDesP2
import Derived.Test.YtjifdalflepcoacGreatHDesP0
set_option maxHeartbeats 16000000
set_option maxRecDepth 100000
set_option linter.unusedVariables false
set_option linter.unusedSimpArgs false
namespace Go.Proofs.YtjifdalflepcoacGreat
section
open Go.RowKit
theorem nA:(Tryz.prog.info? 152).map (fun i=>(i.zero,i.size,i.bytes))=some (some (.agg #[.int .i64 0, .int .i64 0]),2,16):=by kernel_rfl
structure iY (w0 wr:World) (h:RW) (W:Wd) (iv:Value) (is:List Bool) (g8 g9:Nat) (items:List It) (x1:Nat) (qv:Value) (q:List (Int × Int)):Prop where
 K:ab (fun _=>False) w0 wr
 I:Sl wr 4 1 iv is.length (is.map Value.bool)
 D:ah wr g8 (items.map fun i=>.bool i.2.1) 4
 M:ah wr g9 (items.map fun i=>.bool i.2.2) 4
 X:ah wr x1 [h.tv,h.rv,h.gv,qv, .int .i64 W.most, .int .i64 W.grow] 147
 Q:Sl wr 152 2 qv q.length (aA q)
 i8:¬ ai iv g8
 i9:¬ ai iv g9
 n:g8≠g9
 oi:∀ k,ai iv k→w0.heap.size≤k
 o8:w0.heap.size≤g8
 o9:w0.heap.size≤g9
 ox:w0.heap.size≤x1
 oq:∀ k,ai qv k→w0.heap.size≤k
section
variable {w0 wr w2:World} {h:RW} {W:Wd} {iv qv:Value} {is:List Bool} {g8 g9 x1:Nat} {items:List It} {q:List (Int × Int)}
theorem iY.same (C:iY w0 wr h W iv is g8 g9 items x1 qv q) (k:ab (fun _=>False) wr w2):iY w0 w2 h W iv is g8 g9 items x1 qv q:=
 ⟨C.K.trans k,C.I.ae k (fun _ _ h=>h),k.ak C.D (fun h=>h),k.ak C.M (fun h=>h),k.ak C.X (fun h=>h),C.Q.ae k (fun _ _ h=>h),C.i8,C.i9,C.n,C.oi,C.o8,C.o9,C.ox,C.oq⟩
theorem iY.gr (C:iY w0 wr h W iv is g8 g9 items x1 qv q) (H:aZ w0 h W):qQ wr x1 h.tv qv h.F W q:=
 ⟨⟨_,_,_,_,C.X⟩,H.ht.ae C.K (fun _ _ _ h=>h) (fun _ _ h=>h),C.Q⟩
theorem iY.grown (C:iY w0 wr h W iv is g8 g9 items x1 qv q) {ao:Option Addr} {l:List Bool} {cap:Nat} (hs:Sl w2 4 1 (.slice ao l.length cap) l.length (l.map Value.bool)) (k:ab (fun _=>False) wr w2) (ho:∀ j,ai (.slice ao l.length cap) j→wr.heap.size≤j) :
  iY w0 w2 h W (.slice ao l.length cap) l g8 g9 items x1 qv q:=by
 have C2:=C.same k;exact ⟨C2.K,hs,C2.D,C2.M,C2.X,C2.Q,fun hb=>by have:=ho _ hb;have:=C.D.lt;omega,fun hb=>by have:=ho _ hb;have:=C.M.lt;omega,C.n,fun j hj=>Nat.le_trans C.K.size (ho j hj),C.o8,C.o9,C.ox,C.oq⟩
theorem iY.wait (C:iY w0 wr h W iv is g8 g9 items x1 qv q) {wa:World} {e:Int × Int} {v2:Value} (ka:ab (fun _=>False) wr wa) (hs:Sl w2 152 2 v2 (q.length+1) (aA q ++ [.int .i64 e.1, .int .i64 e.2])) (k:ab (ai qv) wa w2)
  (ho:∀ j,ai v2 j→ai qv j∨wa.heap.size≤j):iY w0 (w2.setCell ⟨x1,3,none⟩ v2) h W iv is g8 g9 items x1 v2 (q ++ [e]):=by
 have C1:=C.same ka;have ne:∀ {b:Nat} {c:List Value} {T:TypeId},ah wa b c T→T≠152→¬ ai qv b:=fun hb hT hq=>by
  obtain ⟨_,c',hc⟩:=C1.Q.own hq;exact hb.ne hc hT rfl
 have hX:=k.ak C1.X (ne C1.X (by decide));have set:=(ab.refl (·=x1) w2).setCell (p:=⟨x1,3,none⟩) (.inl rfl) v2;have nx:∀ {b:Nat} {c:List Value} {T:TypeId},ah w2 b c T→T≠147→¬ b=x1:=fun hb hT=>hb.ne hX hT;have hD:=k.ak C1.D (ne C1.D (by decide));have hM:=k.ak C1.M (ne C1.M (by decide));have hI:=C1.I.ae k (fun b hb=>by obtain ⟨_,c,hc⟩:=C1.I.own hb;exact ne hc (by decide));refine ⟨(C1.K.then k (fun j hj=>.inr (C.oq j hj))).then set (fun j hj=>.inr (by rw [hj];exact C.ox)),hI.ae set (fun b hb=>by obtain ⟨_,c,hc⟩:=hI.own hb;exact nx hc (by decide)),set.ak hD (nx hD (by decide)),set.ak hM (nx hM (by decide)),by simpa using hX.aO 3 v2,?_,C.i8,C.i9,C.n,C.oi,C.o8,C.o9,C.ox,?_⟩
 ·have e1:(q ++ [e]).length=q.length+1:=by simp
  have e2:aA (q ++ [e])=aA q ++ [.int .i64 e.1, .int .i64 e.2]:=by simp [aA]
  rw [e1,e2];exact hs.ae set (fun b hb=>by obtain ⟨_,c,hc⟩:=hs.own hb;exact nx hc (by decide))
 ·intro j hj;rcases ho j hj with h1 | h1
  ·exact C.oq j h1
  ·have:=C1.K.size;omega
theorem iY.alive (C:iY w0 wr h W iv is g8 g9 items x1 qv q) {g o cap i:Nat} (e:iv=.slice (some ⟨g,o,none⟩) is.length cap) (hi:i<is.length):iY w0 (wr.setCell ⟨g,o+i,none⟩ (.bool true)) h W iv (is.set i true) g8 g9 items x1 qv q:=by
 have hown:ai iv g:=by rw [e];rfl
 obtain ⟨_,c,hg⟩:=C.I.own hown;have set:=(ab.refl (·=g) wr).setCell (p:=⟨g,o+i,none⟩) (.inl rfl) (.bool true);have nx:∀ {b:Nat} {c:List Value} {T:TypeId},ah wr b c T→T≠4→¬ b=g:=fun hb hT=>hb.ne hg hT;refine ⟨C.K.then set (fun j hj=>.inr (by rw [hj];exact C.oi g hown)),?_,set.ak C.D (fun e=>C.i8 (by rw [e];exact hown)),set.ak C.M (fun e=>C.i9 (by rw [e];exact hown)),set.ak C.X (nx C.X (by decide)),C.Q.ae set (fun b hb=>by obtain ⟨_,c,hc⟩:=C.Q.own hb;exact nx hc (by decide)),C.i8,C.i9,C.n,C.oi,C.o8,C.o9,C.ox,C.oq⟩;have hs:=C.I;rw [e] at hs ⊢;have:=hs.set (j:=i) (u:=.bool true) (by omega);rw [List.length_set,List.map_set];exact this
theorem iY.Ca (C:iY w0 wr h W iv is g8 g9 items x1 qv q) {k:Nat} (hk:k<items.length) {e:Int × Int} {d:Bool} {b:Bool} (hi:items[k]=(e,d,b)):iY w0 (wr.setCell ⟨g9,k,none⟩ (.bool true)) h W iv is g8 g9 (items.set k (e,d,true)) x1 qv q:=by
 have set:=(ab.refl (·=g9) wr).setCell (p:=⟨g9,k,none⟩) (.inl rfl) (.bool true);have nx:∀ {b:Nat} {c:List Value} {T:TypeId},ah wr b c T→T≠4→¬ b=g9:=fun hb hT=>hb.ne C.M hT;have e1:(items.set k (e,d,true)).map (fun i=>Value.bool i.2.1)=items.map fun i=>.bool i.2.1:=by
  rw [List.map_set];apply List.ext_getElem (by simp);intro j h1 h2;rw [List.getElem_set];split
  ·rename_i e;subst e;simp [hi]
  ·rfl
 refine ⟨C.K.then set (fun j hj=>.inr (by rw [hj];exact C.o9)),C.I.ae set (fun b hb e=>C.i9 (by rw [←e];exact hb)),by rw [e1];exact set.ak C.D (fun e=>C.n e),?_,set.ak C.X (nx C.X (by decide)),C.Q.ae set (fun b hb=>by obtain ⟨_,c,hc⟩:=C.Q.own hb;exact nx hc (by decide)),C.i8,C.i9,C.n,C.oi,C.o8,C.o9,C.ox,C.oq⟩;rw [List.map_set];exact C.M.aO k (.bool true)
end
theorem iB.put {w:World} {v:Value} {F F':Nat→Prop} {l:List Th} {g o cap k j:Nat} {t':Th} {u:Value} (H:iB w v F l) (e:v=.slice (some ⟨g,o,none⟩) l.length cap) (hk:k<l.length) (hj:j<4) (hF:∀ b,F b→b≠g) (hFF:∀ b,F b→F' b)
  (hR:∀ r,r.length=4→g6 (w.setCell ⟨g,o+k*4+j,none⟩ u) F' l[k] r→g6 (w.setCell ⟨g,o+k*4+j,none⟩ u) F' t' (r.set j u)):iB (w.setCell ⟨g,o+k*4+j,none⟩ u) v F' (l.set k t'):=by
 obtain ⟨cs,hs,hr⟩:=H;have set:=(ab.refl (·=g) w).setCell (p:=⟨g,o+k*4+j,none⟩) (.inl rfl) u;refine ⟨cs.set (k*4+j) u,?_,?_⟩
 ·rw [List.length_set];rw [e] at hs ⊢;have hm:k*4+4≤l.length*4:=by omega
  have:=hs.set (j:=k*4+j) (u:=u) (by omega);rw [Nat.add_assoc];exact this
 ·have hr':=hr.mono (Q:=g6 (w.setCell ⟨g,o+k*4+j,none⟩ u) F') (fun a _ r h=>(h.ae set (fun b hb _=>hF b hb)).more hFF);exact cn.setCell hk hj hr' hR
structure fI (w0 wr:World) (h:RW) (W:Wd) (gv wv:Value) (rg wt:List (Int × Int)) (F:Nat→Prop) (T:List Th) (iv:Value) (is:List Bool):Prop where
 hp:ah wr h.p [h.tv,h.rv,gv,wv, .int .i64 W.most, .int .i64 W.grow] 147
 ht:iB wr h.tv F T
 hr:Sl wr 96 2 h.rv W.roots.length (aA W.roots)
 hg:Sl wr 152 2 gv rg.length (aA rg)
 hw:Sl wr 152 2 wv wt.length (aA wt)
 I:Sl wr 4 1 iv is.length (is.map Value.bool)
 K:ab h.Own w0 wr
 ap:∀ k,¬ (ai gv k∧ai wv k)
 af:∀ k,F k→(h.F k∨w0.heap.size≤k)∧k<wr.heap.size∧(∃ c,ah wr k c 96)∧¬ ai h.rv k
 og:∀ k,ai gv k→w0.heap.size≤k
 ow:∀ k,ai wv k→w0.heap.size≤k
section
variable {w0 wr w2:World} {h:RW} {W:Wd} {gv wv iv:Value} {rg wt:List (Int × Int)} {F:Nat→Prop} {T:List Th} {is:List Bool}
theorem fI.same (M:fI w0 wr h W gv wv rg wt F T iv is) (k:ab (fun _=>False) wr w2):fI w0 w2 h W gv wv rg wt F T iv is:=
 ⟨k.ak M.hp (fun h=>h),M.ht.ae k (fun _ _ _ h=>h) (fun _ _ h=>h),M.hr.ae k (fun _ _ h=>h),M.hg.ae k (fun _ _ h=>h),M.hw.ae k (fun _ _ h=>h),M.I.ae k (fun _ _ h=>h),M.K.trans (k.mono fun _ _ h=>h.elim),M.ap,
  fun j hj=>by
   obtain ⟨h1,h2,⟨c,h3⟩,h4⟩:=M.af j hj
   exact ⟨h1,Nat.lt_of_lt_of_le h2 k.size,⟨c,k.ak h3 (fun h=>h)⟩,h4⟩,M.og,M.ow⟩
theorem fI.put {F':Nat→Prop} {g o cap k j:Nat} {t':Th} {u:Value} (M:fI w0 wr h W gv wv rg wt F T iv is) (e:h.tv=.slice (some ⟨g,o,none⟩) T.length cap) (hk:k<T.length) (hj:j<4) (hFF:∀ b,F b→F' b)
  (hF':∀ b,F' b→F b∨(w0.heap.size≤b∧b<wr.heap.size∧(∃ c,ah wr b c 96)∧¬ ai h.rv b))
  (hR:∀ r,r.length=4→g6 (wr.setCell ⟨g,o+k*4+j,none⟩ u) F' T[k] r→g6 (wr.setCell ⟨g,o+k*4+j,none⟩ u) F' t' (r.set j u)):fI w0 (wr.setCell ⟨g,o+k*4+j,none⟩ u) h W gv wv rg wt F' (T.set k t') iv is:=by
 have hown:ai h.tv g:=by rw [e];rfl
 obtain ⟨c,hg⟩:∃ c,ah wr g c 154:=by obtain ⟨cs,hs,_⟩:=M.ht;exact (hs.own hown).2
 have set:=(ab.refl (·=g) wr).setCell (p:=⟨g,o+k*4+j,none⟩) (.inl rfl) u;have nx:∀ {b:Nat} {c:List Value} {U:TypeId},ah wr b c U→U≠154→¬ b=g:=fun hb hT=>hb.ne hg hT;have nF:∀ b,F b→b≠g:=fun b hb=>by obtain ⟨_,_,⟨c,hc⟩,_⟩:=M.af b hb;exact nx hc (by decide)
 refine ⟨set.ak M.hp (nx M.hp (by decide)),M.ht.put e hk hj nF hFF hR,M.hr.ae set (fun b hb=>by obtain ⟨_,c,hc⟩:=M.hr.own hb;exact nx hc (by decide)),M.hg.ae set (fun b hb=>by obtain ⟨_,c,hc⟩:=M.hg.own hb;exact nx hc (by decide)),
  M.hw.ae set (fun b hb=>by obtain ⟨_,c,hc⟩:=M.hw.own hb;exact nx hc (by decide)),M.I.ae set (fun b hb=>by obtain ⟨_,c,hc⟩:=M.I.own hb;exact nx hc (by decide)),M.K.trans (set.mono (fun b _ hb=>.inr (.inl (by rw [hb];exact hown)))),M.ap,fun b hb=>?_,M.og,M.ow⟩
 rcases hF' b hb with h1 | ⟨h1,h2,⟨c,h3⟩,h4⟩
 ·obtain ⟨a1,a2,⟨c,a3⟩,a4⟩:=M.af b h1;exact ⟨a1,by simpa using a2,⟨c,set.ak a3 (nx a3 (by decide))⟩,a4⟩
 ·exact ⟨.inr h1,by simpa using h2,⟨c,set.ak h3 (nx h3 (by decide))⟩,h4⟩
theorem fI.z5 {g o cap k:Nat} (M:fI w0 wr h W gv wv rg wt F T iv is) (e:h.tv=.slice (some ⟨g,o,none⟩) T.length cap) (hk:k<T.length):fI w0 (wr.setCell ⟨g,o+k*4+3,none⟩ (.bool true)) h W gv wv rg wt F (T.set k ⟨T[k].k,T[k].fs,T[k].aP,true⟩) iv is:=
 M.put e hk (by decide) (fun _ h=>h) (fun _ h=>.inl h) (fun r _ hr=>by
  obtain ⟨ao,cap,rfl,h1,h2,h3⟩:=hr
  exact ⟨ao,cap,rfl,h1,h2,h3⟩)
theorem fI.A8 {g o cap k:Nat} (M:fI w0 wr h W gv wv rg wt F T iv is) (e:h.tv=.slice (some ⟨g,o,none⟩) T.length cap) (hk:k<T.length):fI w0 (wr.setCell ⟨g,o+k*4+1,none⟩ (.slice none 0 0)) h W gv wv rg wt F (T.set k ⟨T[k].k,[],T[k].aP,T[k].dead⟩) iv is:=
 M.put e hk (by decide) (fun _ h=>h) (fun _ h=>.inl h) (fun r _ hr=>by
  obtain ⟨ao,cap,rfl,h1,h2,h3⟩:=hr
  exact ⟨none,0,rfl,Rd.nil _ _,(fun a h=>by cases h),Nat.zero_le _⟩)
theorem fI.A9 {g o cap k:Nat} (M:fI w0 wr h W gv wv rg wt F T iv is) (e:h.tv=.slice (some ⟨g,o,none⟩) T.length cap) (hk:k<T.length):fI w0 (wr.setCell ⟨g,o+k*4+2,none⟩ (.bool true)) h W gv wv rg wt F (T.set k ⟨T[k].k,T[k].fs,true,T[k].dead⟩) iv is:=
 M.put e hk (by decide) (fun _ h=>h) (fun _ h=>.inl h) (fun r _ hr=>by
  obtain ⟨ao,cap,rfl,h1,h2,h3⟩:=hr
  exact ⟨ao,cap,rfl,h1,h2,h3⟩)
theorem fI.rR {g o cap k b:Nat} {u v:Vl} (M:fI w0 wr h W gv wv rg wt F T iv is) (e:h.tv=.slice (some ⟨g,o,none⟩) T.length cap) (hk:k<T.length) (hb:ah wr b (aA [u,v]) 96) (h0:w0.heap.size≤b) (hr:¬ ai h.rv b) :
  fI w0 (wr.setCell ⟨g,o+k*4+1,none⟩ (.slice (some ⟨b,0,none⟩) 2 2)) h W gv wv rg wt (fun j=>F j∨j=b) (T.set k ⟨T[k].k,[u,v],T[k].aP,T[k].dead⟩) iv is:=by
 have hown:ai h.tv g:=by rw [e];rfl
 obtain ⟨c,hg⟩:∃ c,ah wr g c 154:=by obtain ⟨cs,hs,_⟩:=M.ht;exact (hs.own hown).2
 refine M.put e hk (by decide) (fun _ h=>.inl h) (fun j hj=>?_) (fun r _ hr=>?_)
 ·rcases hj with hj | rfl
  ·exact .inl hj
  ·exact .inr ⟨h0,hb.lt,⟨_,hb⟩,hr⟩
 ·obtain ⟨ao,cap,rfl,h1,h2,h3⟩:=hr;have hb':=hb.ew (a:=⟨g,o+k*4+1,none⟩) (hb.ne hg (by decide)) (.slice (some ⟨b,0,none⟩) 2 2);exact ⟨some ⟨b,0,none⟩,2,rfl,Rd.ak hb' 0 _ rfl,(fun a ha=>by cases ha;exact .inr rfl),by show 2≤maxLen;unfold maxLen;decide⟩
theorem fI.uJ {T':List Th} (M:fI w0 wr h W gv wv rg wt F T iv is) (e:T=T'):fI w0 wr h W gv wv rg wt F T' iv is:=e ▸ M
theorem fI.cells {no:Option Addr} {nc k:Nat} (M:fI w0 wr h W gv wv rg wt F T iv is) (e:h.tv=.slice no T.length nc) (hk:k<T.length):∃ g o fo fc,no=some ⟨g,o,none⟩∧g<wr.heap.size∧(∀ i,wr.frozen? ⟨g,i,none⟩=false)∧wr.cell? ⟨g,o+k*4,none⟩=some (.int .i64 T[k].k)∧wr.cell? ⟨g,o+k*4+1,none⟩=some (.slice fo T[k].fs.length fc) ∧
  wr.cell? ⟨g,o+k*4+2,none⟩=some (.bool T[k].aP)∧wr.cell? ⟨g,o+k*4+3,none⟩=some (.bool T[k].dead)∧Rd wr fo (aA T[k].fs):=by
 obtain ⟨no',nc',e',N⟩:=M.ht.nth;rw [e] at e';obtain ⟨rfl,-,rfl⟩:=Value.slice.inj e';obtain ⟨g,o,fo,fc,rfl,hgo,hg,t0,t1,t2,t3,hr,-,-⟩:=N k hk;obtain ⟨c,hb⟩:∃ c,ah wr g c 154:=by obtain ⟨cs,hs,_⟩:=M.ht;exact (hs.own hgo).2
 have e2:T.getD k Th.none=T[k]:=by rw [Ld,Le hk];rfl
 rw [e2] at t0 t1 t2 t3 hr;exact ⟨g,o,fo,fc,rfl,hg,fun i=>hb.free i,t0,t1,t2,t3,hr⟩
theorem fI.done {major:Bool} {is:List Bool} (M:fI w0 wr h W gv wv (W.after major).av (W.after major).wait F (ma (W.pass major).1 W.T) iv is) (hok:(W.after major).ok) (H:aZ w0 h W):aK w0 h wr (W.after major):=by
 refine ⟨⟨h.p,h.tv,h.rv,gv,wv,F⟩,⟨M.hp,M.ht,M.hr,M.hg,M.hw,M.ap,fun k hk=>by
  obtain ⟨_,h2,h3,h4⟩:=M.af k hk
  exact ⟨h2,h3,h4⟩,hok⟩,rfl,M.K,?_⟩
 rintro k (hk | hk | hk | hk | hk | hk)
 ·exact .inl (.inl hk)
 ·exact .inl (.inr (.inl hk))
 ·exact .inl (.inr (.inr (.inl hk)))
 ·exact .inr (M.og k hk)
 ·exact .inr (M.ow k hk)
 ·rcases (M.af k hk).1 with h1 | h1
  ·exact .inl (.inr (.inr (.inr (.inr (.inr h1)))))
  ·exact .inr h1
end
end
section
open Go.RowKit
theorem nC {P:Program} {w:World} {ops:Array Oper} {o:Oper} {a:Act} {rest:List Oper} {Q:Exit→Act→World→Prop} (hw:Region.wanted o (yielded ops a.tmps)=true) (t:TypeId) (x:Operand) (ho:o.op=.load t x) (hr:rowB P t 2=true) (b off:Nat) (hx:a.eval x=.pointer (some ⟨b,off,none⟩)) (v0 v1:Value)
  (h0:w.cell? ⟨b,off,none⟩=some v0) (h1:w.cell? ⟨b,off+1,none⟩=some v1) (h:wpList P ops Q rest (a.put o.dst (.agg #[v0,v1])) w):wpList P ops Q (o :: rest) a w:=by
 obtain ⟨d,hu,hd,hi⟩:=jI hr;exact wpList_step fun K hK=>by
  rw [if_pos hw];exact wp_load_mid t x ho b off hx [v0,v1] d (oQ h0 h1) hu hd hi (hK _ _ h)
end
end Go.Proofs.YtjifdalflepcoacGreat
