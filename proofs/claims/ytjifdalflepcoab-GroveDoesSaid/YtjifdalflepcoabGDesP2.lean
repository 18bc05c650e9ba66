/-
  Parts of the proof, merged: what the functions do, and plain laws.
-/
import Derived.Test.YtjifdalflepcoabGDesP1
import Derived.Test.YtjifdalflepcoabGDesP0
import Derived.Deep.MidRow
set_option maxHeartbeats 16000000
set_option maxRecDepth 100000
set_option linter.unusedVariables false
set_option linter.unusedSimpArgs false
namespace Go.Proofs.Ytjifdalflepcoab
section
open Go.RowKit
theorem dp:∀ (l:List (Int × Int)) (k:Nat) (v:Int × Int),au (l.set k v)=((au l).set (k*2) (.int .i64 v.1)).set (k*2+1) (.int .i64 v.2)
 | [],k,v=>by simp [au]
 | e :: l,0,v=>by rw [List.set_cons_zero,dN,dN];rfl
 | e :: l,k+1,v=>by
  rw [List.set_cons_succ,dN,dN,dp l k v];rw [show (k+1)*2=k*2+1+1 by omega]
  rfl
theorem jT {P:Program} {ops:Array Oper} {rest:List Oper} {o:Oper} {a:Act} {w:World} {Q:Exit→Act→World→Prop} (hgd:o.guard=none) (ty:TypeId) (x y:Operand) (ho:o.op=.store ty x y) (hd:o.dst=none)
  (g off n cap k:Nat) (xs:List Value) (e:Nat) (v0 v1:Value) (hx:a.eval x=.pointer (some ⟨g,off+k*2,none⟩)) (hy:a.eval y=.agg #[v0,v1])
  (hs:Sl w e 2 (.slice (some ⟨g,off,none⟩) n cap) n xs) (hk:k<n) (hi:(P.info? ty).map (·.size)=some 2) (h0:v0.oneCell'=true) (h1:v1.oneCell'=true)
  (h:∀ w',Sl w' e 2 (.slice (some ⟨g,off,none⟩) n cap) n ((xs.set (k*2) v0).set (k*2+1) v1)→aa (·=g) w w'→w'.heap.size=w.heap.size→wpList P ops Q rest a w'):wpList P ops Q (o :: rest) a w:=by
 obtain ⟨g',o',cap',cur,e1,hb,hc1,hc2,hc3,hc4⟩:=hs.laid (by omega);cases e1;have hth:w.there g (off+k*2) 2:=fun j hj=>by
  have hl:off+k*2+j<cur.length:=by omega
  refine ⟨?_,hb.free _⟩;rw [hb.cell,Le hl];rfl
 refine wpList_store_mid hgd ty x y ho g (off+k*2) #[v0,v1] hx hy hth (by simpa using hi) (all_oneCell_toArray (cs:=[v0,v1]) (by intro v hv;simp at hv;rcases hv with rfl | rfl <;> assumption)) ?_;rw [hd];refine h _ ?_ ?_ ?_
 ·have s1:=hs.set (j:=k*2) (u:=v0) (by omega);have s2:=s1.set (j:=k*2+1) (u:=v1) (by omega);rw [←Nat.add_assoc] at s2;exact s2
 ·exact ((aa.refl (·=g) w).setCell (p:=⟨g,off+k*2,none⟩) (.inl rfl) v0).setCell (p:=⟨g,off+k*2+1,none⟩) (.inl rfl) v1
 ·show (World.setCell _ _ _).heap.size=_
  simp
theorem aS {P:Program} {o:Oper} {a:Act} {w:World} {K:Act→World→Prop} (ty:TypeId) (x y:Operand) (ho:o.op=.store ty x y) (hd:o.dst=none)
  (g off n cap k:Nat) (xs:List Value) (e:Nat) (v0 v1:Value) (hx:a.eval x=.pointer (some ⟨g,off+k*2,none⟩)) (hy:a.eval y=.agg #[v0,v1])
  (hs:Sl w e 2 (.slice (some ⟨g,off,none⟩) n cap) n xs) (hk:k<n) (hi:(P.info? ty).map (·.size)=some 2) (h0:v0.oneCell'=true) (h1:v1.oneCell'=true)
  (h:∀ w',Sl w' e 2 (.slice (some ⟨g,off,none⟩) n cap) n ((xs.set (k*2) v0).set (k*2+1) v1)→aa (·=g) w w'→w'.heap.size=w.heap.size→K a w'):aM P o a w K:=by
 obtain ⟨g',o',cap',cur,e1,hb,hc1,hc2,hc3,hc4⟩:=hs.laid (by omega);cases e1;have hth:w.there g (off+k*2) 2:=fun j hj=>by
  have hl:off+k*2+j<cur.length:=by omega
  refine ⟨?_,hb.free _⟩;rw [hb.cell,Le hl];rfl
 have hh:K a (w.setCells g (off+k*2) [v0,v1]):=by
  refine h _ ?_ ?_ ?_
  ·have s1:=hs.set (j:=k*2) (u:=v0) (by omega);have s2:=s1.set (j:=k*2+1) (u:=v1) (by omega);rw [←Nat.add_assoc] at s2;exact s2
  ·exact ((aa.refl (·=g) w).setCell (p:=⟨g,off+k*2,none⟩) (.inl rfl) v0).setCell (p:=⟨g,off+k*2+1,none⟩) (.inl rfl) v1
  ·show (World.setCell _ _ _).heap.size=_
   simp
 unfold aM execOp;simp only [ho,hx,hy,Instr.storeAt,Instr.sureAddr,Sem.run_bind,Sem.run_pure,Result.andThen_ok,run_storeVar_mid w g (off+k*2) ty #[v0,v1] hth (by simpa using hi) (all_oneCell_toArray (cs:=[v0,v1]) (by intro v hv;simp at hv;rcases hv with rfl | rfl <;> assumption))]
 first | exact hh | (show K (a.put o.dst undef) _;rw [hd];exact hh)
end
section
open Go.RowKit
theorem eT {P:Program} {w:World} {ops:Array Oper} {o:Oper} {a:Act} {rest:List Oper} {Q:Exit→Act→World→Prop} (hw:Region.wanted o (yielded ops a.tmps)=true) (t:TypeId) (x:Operand) (ho:o.op=.load t x) (hr:rowB P t 2=true) (b off:Nat) (hx:a.eval x=.pointer (some ⟨b,off,none⟩)) (v0 v1:Value)
  (h0:w.cell? ⟨b,off,none⟩=some v0) (h1:w.cell? ⟨b,off+1,none⟩=some v1) (h:wpList P ops Q rest (a.put o.dst (.agg #[v0,v1])) w):wpList P ops Q (o :: rest) a w:=by
 obtain ⟨d,hu,hd,hi⟩:=fB hr;exact wpList_step fun K hK=>by
  rw [if_pos hw];exact wp_load_mid t x ho b off hx [v0,v1] d (jI h0 h1) hu hd hi (hK _ _ h)
end
section
open Go.RowKit
section
variable {w w':World} {tv:Value} {fv:Nat→Value} {L:List Th} {i:Nat} {is:List Bool} {ib:Nat}
theorem cS {cs:List Value} {i n:Nat} (hl:cs.length=n*4) (hi:i<n) (j:Nat) (hj:j<4) (k:Nat) (hk:k<4) (v:Value) :
  (cs.set (i*4+j) v)[i*4+k]? = if j=k then some v else cs[i*4+k]? := by
 rw [List.getElem?_set];by_cases e:j=k
 ·subst e;simp;omega
 ·rw [if_neg (by omega),if_neg e]
theorem dS {cs:List Value} {i m:Nat} (h:m≠i) (j:Nat) (hj:j<4) (k:Nat) (hk:k<4) (v:Value):(cs.set (i*4+j) v)[m*4+k]? = cs[m*4+k]? := by
 rw [List.getElem?_set,if_neg (by omega)]
theorem qW {L:List Th} {i:Nat} (hi:i<L.length) (t:Th) (j:Nat):(L.set i t).getD j Th.none=if j=i then t else L.getD j Th.none:=by
 simp only [Ld,List.getElem?_set];by_cases e:i=j
 ·subst e;simp [hi]
 ·rw [if_neg e,if_neg (fun h=>e h.symm)]
theorem cI.row {g o nc:Nat} (T:cI w (.slice (some ⟨g,o,none⟩) L.length nc) fv L) (hi:i<L.length):g<w.heap.size∧(∀ j,w.frozen? ⟨g,j,none⟩=false) ∧
  iz w (fv i) (L.getD i Th.none) (w.cell? ⟨g,o+i*4,none⟩) (w.cell? ⟨g,o+i*4+1,none⟩) (w.cell? ⟨g,o+i*4+2,none⟩) (w.cell? ⟨g,o+i*4+3,none⟩):=by
 obtain ⟨cs,hs,hr⟩:=T;obtain ⟨g',o',cap,cur,e,hb,h1,h2,h3,h4⟩:=hs.laid (by omega);cases e;have hl:=hs.1;have hc:∀ j,j<L.length*4→w.cell? ⟨g,o+j,none⟩=cs[j]? := fun j hj=>by
  rw [hb.cell,←h4,List.getElem?_take,if_pos hj,List.getElem?_drop]
 refine ⟨hb.lt,hb.free,?_⟩;have:=hr i hi;rw [hc (i*4) (by omega),Nat.add_assoc o (i*4) 1,hc (i*4+1) (by omega),Nat.add_assoc o (i*4) 2,hc (i*4+2) (by omega),Nat.add_assoc o (i*4) 3,hc (i*4+3) (by omega)];exact this
theorem cI.qX (T:cI w tv fv L) (k:aa (fun _=>False) w w'):cI w' tv fv L:=T.ae k (fun _ _ h=>h) (fun _ _ _ h=>h)
theorem sk {f:Vl→Vl} {fs:List Vl} {q:Nat}:((fs.take q).map f ++ fs.drop q).getD q (0,0)=fs.getD q (0,0):=by
 simp only [Ld];by_cases h:q<fs.length
 ·rw [List.getElem?_append_right (by simp;omega)];simp [Nat.min_eq_left (Nat.le_of_lt h)]
 ·rw [List.getElem?_eq_none (by simp;omega),List.getElem?_eq_none (by omega)]
theorem ss {f:Vl→Vl} {fs:List Vl} {q:Nat} (h:q<fs.length):(fs.take (q+1)).map f ++ fs.drop (q+1)=((fs.take q).map f ++ fs.drop q).set q (f (fs.getD q (0,0))):=by
 rw [List.set_append_right _ _ (by simp;omega),←List.take_append_getElem h,List.map_append,List.append_assoc];congr 1;rw [List.length_map,List.length_take,Nat.min_eq_left (Nat.le_of_lt h),Nat.sub_self,List.drop_eq_getElem_cons h,List.set_cons_zero];rw [Ld,Le h]
 rfl
theorem ts {f:Vl→Vl} {fs:List Vl} {q:Nat} (h:q<fs.length) (e:f (fs.getD q (0,0))=fs.getD q (0,0)):(fs.take (q+1)).map f ++ fs.drop (q+1)=(fs.take q).map f ++ fs.drop q:=by
 rw [ss h,e];apply List.ext_getElem?;intro j;rw [List.getElem?_set];by_cases hj:q=j
 ·subst hj;have hl:q<((fs.take q).map f ++ fs.drop q).length:=by simp;omega
  rw [if_pos rfl,if_pos hl,←sk (f:=f),Ld,Le hl];rfl
 ·rw [if_neg hj]
theorem cI.aR {g o nc:Nat} (T:cI w (.slice (some ⟨g,o,none⟩) L.length nc) fv L) (hi:i<L.length) (hf:∀ j b,ag (fv j) b→b≠g) :
  cI (w.setCell ⟨g,o+i*4+2,none⟩ (.bool true)) (.slice (some ⟨g,o,none⟩) L.length nc) fv (L.set i { L.getD i Th.none with aR:=true })∧aa (·=g) w (w.setCell ⟨g,o+i*4+2,none⟩ (.bool true)):=by
 have K:=(aa.refl (·=g) w).setCell (p:=⟨g,o+i*4+2,none⟩) (.inl rfl) (.bool true);obtain ⟨cs,hs,hr⟩:=T;have hl:=hs.1;have hs2:=hs.set (j:=i*4+2) (u:=.bool true) (by omega);rw [←Nat.add_assoc] at hs2;refine ⟨⟨_,by rw [List.length_set];exact hs2,fun j hj=>?_⟩,K⟩;rw [List.length_set] at hj;have h:=hr j hj;rw [qW hi];by_cases e:j=i
 ·subst e;rw [if_pos rfl,←Nat.add_zero (j*4),cS hl hi 2 (by decide) 0 (by decide),cS hl hi 2 (by decide) 1 (by decide),cS hl hi 2 (by decide) 2 (by decide),cS hl hi 2 (by decide) 3 (by decide)];obtain ⟨a,b,c,h0,h1,h2⟩:=h.c;exact ⟨h.d,h.k,h.f,fun _=>rfl,fun hd=>(h.s hd).ae K (fun b hb e=>hf j b hb e),a,b,true,h0,h1,rfl⟩
 ·rw [if_neg e,←Nat.add_zero (j*4),dS e 2 (by decide) 0 (by decide),dS e 2 (by decide) 1 (by decide),dS e 2 (by decide) 2 (by decide),dS e 2 (by decide) 3 (by decide)];exact ⟨h.d,h.k,h.f,h.o,fun hd=>(h.s hd).ae K (fun b hb e=>hf j b hb e),h.c⟩
theorem cI.gone {g o nc:Nat} {cs:List Value} {t:Th} (hs:Sl w 188 4 (.slice (some ⟨g,o,none⟩) L.length nc) L.length cs)
  (hr:∀ i,i<L.length→iz w (fv i) (L.getD i Th.none) cs[i*4]? cs[i*4+1]? cs[i*4+2]? cs[i*4+3]?) (hi:i<L.length) (hf:∀ j b,ag (fv j) b→b≠g) (ht:t.dead=true)
  (hs':Sl w' 188 4 (.slice (some ⟨g,o,none⟩) L.length nc) L.length ((((cs.set (i*4) (.int .i64 0)).set (i*4+1) (.slice none 0 0)).set (i*4+2) (.bool false)).set (i*4+3) (.bool true))) (K:aa (·=g) w w') :
  cI w' (.slice (some ⟨g,o,none⟩) L.length nc) (fun j=>if j=i then .slice none 0 0 else fv j) (L.set i t):=by
 have hl:=hs.1;refine ⟨_,by rw [List.length_set];exact hs',fun j hj=>?_⟩;rw [List.length_set] at hj;have h:=hr j hj;rw [qW hi];rw [←Nat.add_zero (i*4)]
 show iz w' (if j=i then Value.slice none 0 0 else fv j) _ _ _ _ _
 have l1:(cs.set (i*4+0) (.int .i64 0)).length=L.length*4:=by simpa using hl
 have l2:((cs.set (i*4+0) (.int .i64 0)).set (i*4+0+1) (.slice none 0 0)).length=L.length*4:=by simpa using hl
 have l3:(((cs.set (i*4+0) (.int .i64 0)).set (i*4+0+1) (.slice none 0 0)).set (i*4+0+2) (.bool false)).length=L.length*4:=by simpa using hl
 by_cases e:j=i
 ·subst e;rw [if_pos rfl,if_pos rfl];refine ⟨?_,fun h=>?_,fun h=>?_,fun h=>?_,fun h=>?_,0, .slice none 0 0,false,?_,?_,?_⟩
  ·simp only [Nat.add_zero] at l3 ⊢;rw [cS l3 hi 3 (by decide) 3 (by decide),if_pos rfl,ht]
  ·rw [ht] at h;cases h
  ·rw [ht] at h;cases h
  ·rw [ht] at h;cases h
  ·rw [ht] at h;cases h
  ·simp only [Nat.add_zero] at l1 l2 l3 ⊢;have e3:=cS l3 hi 3 (by decide) 0 (by decide) (.bool true);have e2:=cS l2 hi 2 (by decide) 0 (by decide) (.bool false);have e1:=cS l1 hi 1 (by decide) 0 (by decide) (.slice none 0 0);have e0:=cS hl hi 0 (by decide) 0 (by decide) (.int .i64 0);simp only [Nat.add_zero] at e0 e1 e2 e3;rw [e3,if_neg (by decide),e2,if_neg (by decide),e1,if_neg (by decide),e0];simp
  ·simp only [Nat.add_zero] at l1 l2 l3 ⊢;rw [cS l3 hi 3 (by decide) 1 (by decide),if_neg (by decide),cS l2 hi 2 (by decide) 1 (by decide),if_neg (by decide),cS l1 hi 1 (by decide) 1 (by decide),if_pos rfl]
  ·simp only [Nat.add_zero] at l1 l2 l3 ⊢;rw [cS l3 hi 3 (by decide) 2 (by decide),if_neg (by decide),cS l2 hi 2 (by decide) 2 (by decide),if_pos rfl]
 ·rw [if_neg e,if_neg e,←Nat.add_zero (j*4)];have H:∀ k,k<4→((((cs.set (i*4+0) (.int .i64 0)).set (i*4+0+1) (.slice none 0 0)).set (i*4+0+2) (.bool false)).set (i*4+0+3) (.bool true))[j*4+k]? = cs[j*4+k]? := fun k hk=>by
   simp only [Nat.add_zero];rw [dS e 3 (by decide) k hk,dS e 2 (by decide) k hk,dS e 1 (by decide) k hk];have:=dS (cs:=cs) e 0 (by decide) k hk (.int .i64 0);simpa using this
  rw [H 0 (by decide),H 1 (by decide),H 2 (by decide),H 3 (by decide)];exact ⟨h.d,h.k,h.f,h.o,fun hd=>(h.s hd).ae K (fun b hb e=>hf j b hb e),h.c⟩
theorem cI.bU {fs:List Vl} (T:cI w tv fv L) (hi:i<L.length) (hd:(L.getD i Th.none).dead=false) (K:aa (ag (fv i)) w w') (hs:Sl w' 78 2 (fv i) fs.length (au fs))
  (ht:∀ b,ag tv b→¬ ag (fv i) b) (hf:∀ j b,ag (fv i) b→ag (fv j) b→j=i):cI w' tv fv (L.set i { L.getD i Th.none with fs:=fs }):=by
 obtain ⟨cs,hc,hr⟩:=T;refine ⟨cs,by rw [List.length_set];exact hc.ae K ht,fun j hj=>?_⟩;rw [List.length_set] at hj;have h:=hr j hj;rw [qW hi];by_cases e:j=i
 ·subst e;rw [if_pos rfl];exact ⟨h.d,h.k,h.f,h.o,fun _=>hs,h.c⟩
 ·rw [if_neg e];exact ⟨h.d,h.k,h.f,h.o,fun hd=>(h.s hd).ae K (fun b hb h2=>e (hf j b h2 hb)),h.c⟩
theorem iW {P:Program} {ops:Array Oper} {rest:List Oper} {o:Oper} {a:Act} {w:World} {Q:Exit→Act→World→Prop} (hgd:o.guard=none) (ty:TypeId) (x y:Operand) (ho:o.op=.store ty x y) (hd:o.dst=none)
  (g off n cap k:Nat) (xs:List Value) (e:Nat) (v0 v1 v2 v3:Value) (hx:a.eval x=.pointer (some ⟨g,off+k*4,none⟩)) (hy:a.eval y=.agg #[v0,v1,v2,v3])
  (hs:Sl w e 4 (.slice (some ⟨g,off,none⟩) n cap) n xs) (hk:k<n) (hi:(P.info? ty).map (·.size)=some 4) (h0:∀ v ∈ [v0,v1,v2,v3],v.oneCell'=true)
  (h:∀ w',Sl w' e 4 (.slice (some ⟨g,off,none⟩) n cap) n ((((xs.set (k*4) v0).set (k*4+1) v1).set (k*4+2) v2).set (k*4+3) v3)→aa (·=g) w w'→w'.heap.size=w.heap.size→wpList P ops Q rest a w'):wpList P ops Q (o :: rest) a w:=by
 obtain ⟨g',o',cap',cur,e1,hb,hc1,hc2,hc3,hc4⟩:=hs.laid (by omega);cases e1;have hth:w.there g (off+k*4) 4:=fun j hj=>by
  have hl:off+k*4+j<cur.length:=by omega
  refine ⟨?_,hb.free _⟩;rw [hb.cell,Le hl];rfl
 refine wpList_store_mid hgd ty x y ho g (off+k*4) #[v0,v1,v2,v3] hx hy hth (by simpa using hi) (all_oneCell_toArray (cs:=[v0,v1,v2,v3]) h0) ?_;rw [hd];refine h _ ?_ ?_ ?_
 ·have s1:=hs.set (j:=k*4) (u:=v0) (by omega);have s2:=s1.set (j:=k*4+1) (u:=v1) (by omega);have s3:=s2.set (j:=k*4+2) (u:=v2) (by omega);have s4:=s3.set (j:=k*4+3) (u:=v3) (by omega);simp only [←Nat.add_assoc] at s4;exact s4
 ·exact ((((aa.refl (·=g) w).setCell (p:=⟨g,off+k*4,none⟩) (.inl rfl) v0).setCell (p:=⟨g,off+k*4+1,none⟩) (.inl rfl) v1).setCell (p:=⟨g,off+k*4+2,none⟩) (.inl rfl) v2).setCell (p:=⟨g,off+k*4+3,none⟩) (.inl rfl) v3
 ·show (World.setCell _ _ _).heap.size=_
  simp
theorem ng (v:Vl) {bb n:Nat} (hb:ah w bb [.slice (some ⟨ib,0,none⟩) n n] 76) (hi:ah w ib (is.map Value.bool) 4) (hn:is.length=n) (hl:n≤1000000) (hv:v.1=3→0≤v.2∧v.2<n) :
  Calls Try.prog 162 #[.agg #[.int .i64 v.1, .int .i64 v.2], .pointer (some ⟨bb,0,none⟩)] w fun e w'=>e=.returned (.bool (!a5 is v))∧aa (fun _=>False) w w':=by
 obtain ⟨kd,x⟩:=v;dsimp only at hv ⊢;have b0:=hb.cell 0;have bl:=hb.lt;simp only [Lz] at b0;by_cases h3:kd=3
 ·subst h3;obtain ⟨x0,x1⟩:=hv rfl;obtain ⟨x,rfl⟩:=Int.eq_ofNat_of_zero_le x0;have hxl:x<is.length:=by omega
  have hc:w.cell? ⟨ib,x,none⟩=some (.bool (is.getD x false)):=by rw [hi.cell,List.getElem?_map,Ld,Le hxl];rfl
  have hil:=hi.lt;have HE:=Hz (show (!a5 is (3,(x:Int)))=!is.getD x false by unfold a5;rw [bS];simp);generalize is.getD x false=bv at *;clear hb hi hv x0;go_enter Try.func162,Try.ntmps162;go_wp2_with fail;go_ret;exact ⟨cG HE.out.symm,(aa.refl _ _).alloc _⟩
 ·have e3:(kd == 3)=false:=by simpa using h3
  have HE:=Hz (show (!a5 is (kd,x))=false by unfold a5;simp [h3]);clear hb hi hv h3;go_enter Try.func162,Try.ntmps162;go_wp2_with fail;go_ret;exact ⟨cG HE.out.symm,(aa.refl _ _).alloc _⟩
end
end
section
open Go.RowKit
def gI (is:List Bool) (i:Nat) (t:Th):Th:=if is.getD i false=true then ⟨t.k,t.fs.map (db is (dZ is t)),true,t.dead⟩ else ⟨t.k,[],t.aR,true⟩
structure su (L:List Th) (is:List Bool) (i:Nat):Prop where
 d:is.getD i false=true→(L.getD i Th.none).dead=false
 v:is.getD i false=true→∀ v ∈ (L.getD i Th.none).fs,v.1=3→0≤v.2∧v.2<L.length
 n:is.getD i false=true→(L.getD i Th.none).fs.length≤1000
 f:is.getD i false=true→(L.getD i Th.none).k=4→0<(L.getD i Th.none).fs.length
section
variable {w w':World} {tv:Value} {fv:Nat→Value} {L:List Th} {i:Nat} {is:List Bool} {ib:Nat}
def pd (w:World) (tv:Value) (fv:Nat→Value) (L:List Th) (is:List Bool) (i:Nat) (w':World):Prop:=
 ∃ fv',cI w' tv fv' (L.set i (gI is i (L.getD i Th.none)))∧aa (fun k=>ag tv k∨ag (fv i) k) w w'∧(∀ j b,ag (fv' j) b→∃ c,ah w' b c 78) ∧
  (fv'=if is.getD i false=true then fv else fun j=>if j=i then .slice none 0 0 else fv j)
theorem pe (i:Nat) {gp:Nat} {pc:List Value} (P:ah w gp pc 146) (hpc:pc[0]? = some tv) (T:cI w tv fv L) (F:∀ j b,ag (fv j) b→∃ c,ah w b c 78) (fi:∀ i j k,ag (fv i) k→ag (fv j) k→i=j)
  (HI:ah w ib (is.map Value.bool) 4) (hn:is.length=L.length) (hL:L.length≤100000) (hi:i<L.length) (ok:su L is i) :
  Calls Try.prog 143 #[.pointer (some ⟨gp,0,none⟩), .int .i64 i, .slice (some ⟨ib,0,none⟩) L.length L.length] w fun e w'=>e=.returned (.tuple #[])∧pd w tv fv L is i w':=by
 have p0:=P.cell 0;have pl:=P.lt;rw [hpc] at p0;obtain ⟨cs,hs,hr⟩:=T;obtain ⟨g,o,nc,cur,rfl,hb,-,-,-,-⟩:=hs.laid (by omega);have hc:w.cell? ⟨ib,i,none⟩=some (.bool (is.getD i false)):=by rw [HI.cell,List.getElem?_map,Ld,Le (by omega)];rfl
 have hil:=HI.lt;have hii:(i:Int)<L.length:=by omega
 have hgl:=hb.lt;have HB:=Hz hb;have HS:=Hz hs;have HR:=Hz hr;have HF:=Hz F;have HFI:=Hz fi;have HOK:=Hz ok;have HHI:=Hz HI;have HP:=Hz P;have HNL:=Hz hn;have HLL:=Hz hi;have HFG:=Hz (show ∀ j b,ag (fv j) b→b≠g from fun j b hb' e=>by
  obtain ⟨c,hc⟩:=F j b hb'
  exact hc.ne hb (by decide) e)
 have hka:=(Kz w).alloc (.cells #[.slice (some ⟨ib,0,none⟩) L.length L.length] 76);have BB:=Hz (show ah (w.alloc (.cells #[.slice (some ⟨ib,0,none⟩) L.length L.length] 76)) w.heap.size _ 76 from ah.newAt _ rfl rfl);have KA:=Hz hka;clear hb hs hr F fi ok HI P hn hka hi;cases hbv:is.getD i false
 ·rw [hbv] at hc;have HE:=Hz hbv;clear hbv;go_enter Try.func143,Try.ntmps143;have SA:=Hz (HS.out.ae KA.out (fun _ _ h=>h));go_wp2_with (refine iW rfl 188 (.tmp 24) (.tmp 23) rfl rfl g o L.length nc i cs 188 (.int .i64 0) (.slice none 0 0) (.bool false) (.bool true) rfl rfl SA.out HLL.out (by kernel_rfl) (by intro v hv;simp at hv;rcases hv with rfl | rfl | rfl | rfl <;> rfl) ?_);intro w2 hs2 hk2 hz2;have T2:=Hz (cI.gone (t:=⟨(L.getD i Th.none).k,[],(L.getD i Th.none).aR,true⟩) SA.out (fun j hj=>by
   have h:=HR.out j hj
   exact ⟨h.d,h.k,h.f,h.o,fun hd=>(h.s hd).ae KA.out (fun _ _ h=>h),h.c⟩) HLL.out HFG.out rfl hs2 hk2)
  have K2:=Hz ((KA.out.mono (T:=fun k=>ag (.slice (some ⟨g,o,none⟩) L.length nc) k∨ag (fv i) k) (fun _ _ h=>h.elim)).trans (hk2.mono (fun k _ e=>by subst e;exact .inl rfl)));have F2:=Hz (show ∀ j b,ag ((fun j=>if j=i then Value.slice none 0 0 else fv j) j) b→∃ c,ah w2 b c 78 from fun j b hb=>by
   dsimp only at hb;split at hb
   ·exact absurd hb (by intro h;cases h)
   ·obtain ⟨c,hc⟩:=HF.out j b hb
    exact ⟨c,hk2.ai (KA.out.ai hc (fun h=>h)) (HFG.out j b hb)⟩)
  clear hs2 hk2 hz2;go_wp2_with fail
  ((try simp only [Exit.inBlock,Exit.then]);refine bodyPost_ret (results_none rfl _ _ _) rfl ?_)
  refine ⟨rfl,_,?_,K2.out,F2.out,?_⟩
  ·have:gI is i (L.getD i Th.none)=⟨(L.getD i Th.none).k,[],(L.getD i Th.none).aR,true⟩:=by unfold gI;rw [HE.out];rfl
   rw [this];exact T2.out
  ·rw [HE.out];rfl
 ·rw [hbv] at hc;have HE:=Hz hbv;have hded:=HOK.out.d hbv;have hvv:=HOK.out.v hbv;have hvn:=HOK.out.n hbv;have hvf:=HOK.out.f hbv;have T1:=Hz (show cI w (.slice (some ⟨g,o,none⟩) L.length nc) fv L from ⟨cs,HS.out,HR.out⟩);obtain ⟨-,hfree,hrow⟩:=T1.out.row HLL.out;have t2:=hrow.o hded;have tf:=hfree (o+i*4+2);have T2:=Hz (T1.out.aR HLL.out HFG.out);have FS:=Hz (hrow.s hded);obtain ⟨fo,fc,efv,-,-,-⟩:=FS.out.rd;have HEF:=Hz efv;have HTG:Hid (∀ b,ag (.slice (some ⟨g,o,none⟩) L.length nc) b→¬ ag (fv i) b):=fun b h1 h2=>by
   have e:g=b:=by simpa [ag,Value.ownBlock] using h1
   exact HFG.out i b h2 e.symm
  have HG:=Hz (show gI is i (L.getD i Th.none)=⟨(L.getD i Th.none).k,(L.getD i Th.none).fs.map (db is (dZ is (L.getD i Th.none))),true,false⟩ by unfold gI;rw [if_pos hbv,hded]);have HBK:=Hz (show dZ is (L.getD i Th.none)=decide ((L.getD i Th.none).k=4∧a5 is ((L.getD i Th.none).fs.getD 0 (0,0))=false) from rfl);have HST:=Hz (show (L.getD i Th.none).dead=false from hded);have HL2:=Hz (show (L.set i { L.getD i Th.none with aR:=true }).length=L.length by simp);have HT2:=Hz (show (L.set i { L.getD i Th.none with aR:=true }).getD i Th.none={ L.getD i Th.none with aR:=true } by rw [qW HLL.out,if_pos rfl]);clear hrow hfree hbv hded;obtain ⟨th,hth⟩:∃ t,L.getD i Th.none=t:=⟨_,rfl⟩;rw [hth] at hvv hvn hvf t2 FS HG HBK HST T2 efv HL2 HT2 HEF;have HTH:=Hz hth;clear hth efv;obtain ⟨kd,fs,od,dd⟩:=th;dsimp only at hvv hvn hvf t2 FS HG HBK HST T2 HL2 HT2 HEF;have HVV:=Hz hvv;have HVN:=Hz hvn;go_enter Try.func143,Try.ntmps143;go_upto_region 5 with fail
  have ka:=(Kz (w.setCell ⟨g,o+i*4+2,none⟩ (.bool true))).alloc (.cells #[.slice (some ⟨ib,0,none⟩) L.length L.length] 76);have T3:=Hz (T2.out.1.qX ka);have K3:=Hz (T2.out.2.trans (ka.mono (fun _ _ h=>h.elim)));have B3:=Hz (show ah ((w.setCell ⟨g,o+i*4+2,none⟩ (.bool true)).alloc (.cells #[.slice (some ⟨ib,0,none⟩) L.length L.length] 76)) w.heap.size _ 76 from ah.newAt _ (by simp) rfl);have I3:=Hz (K3.out.ai HHI.out (fun e=>HHI.out.ne HB.out (by decide) e));have FS3:=Hz (FS.out.ae K3.out (fun b hb e=>HFG.out i b hb e));clear ka t2 tf p0 pl hc hil BB KA;generalize (w.setCell ⟨g,o+i*4+2,none⟩ (.bool true)).alloc (.cells #[.slice (some ⟨ib,0,none⟩) L.length L.length] 76)=w3 at *;generalize w.heap.size=bb at *;have hT3:=T3.out;rw [←HL2.out] at hT3;obtain ⟨hg3,-,hrow⟩:=hT3.row (i:=i) (by rw [HL2.out];exact HLL.out);rw [HT2.out] at hrow;have t0:=hrow.k HST.out;have t1:=hrow.f HST.out;rw [HEF.out] at t1;dsimp only at t0 t1;clear hrow hT3;have b0:=B3.out.cell 0;have bl:=B3.out.lt;simp only [Lz] at b0;obtain ⟨bk,hbk⟩:∃ b,dZ is ⟨kd,fs,od,dd⟩=b:=⟨_,rfl⟩;rw [hbk] at HG HBK;clear hbk;go_upto_region 6 with fail
  refine cY (fun i=>Nat.blt 28 i && Nat.blt i 44 || Nat.beq i 8) (fun s' wx=>s' 8=.bool bk∧aa (fun _=>False) w3 wx) ?_ ?_
  ·intro K' hK';by_cases h4:kd=4
   ·subst h4;have h0:0<fs.length:=hvf rfl;have rd3:Rd w3 fo (au fs):=by
     have:=FS3.out;rw [HEF.out] at this;obtain ⟨_,_,e',rd,-,-⟩:=this.rd;cases e';exact rd
    obtain ⟨gf,of,rfl,hgf,v0,v1⟩:=rd3.dM 0 h0;simp only [Nat.zero_mul,Nat.add_zero] at v0 v1;have hin:fs.getD 0 (0,0) ∈ fs:=by rw [Ld,Le h0];exact List.getElem_mem h0
    have hbk2:(!a5 is (fs.getD 0 (0,0)))=bk:=by rw [HBK.out];cases a5 is (fs.getD 0 (0,0)) <;> simp
    have HD:=Hz (ng (fs.getD 0 (0,0)) B3.out I3.out HNL.out (by omega) (hvv _ hin));rw [hbk2] at HD;clear hvv hvn hvf rd3 hin hbk2;generalize fs.getD 0 (0,0)=v at *;have hlf:(0:Int)<fs.length:=by omega
    go_wp2_with (refine eT (by kernel_rfl) 78 (.tmp 40) rfl (by kernel_rfl) gf of rfl _ _ v0 v1 ?_);refine HD.out.mono ?_;rintro e w4 ⟨rfl,hk⟩;go_wp2_with fail;refine ⟨by kernel_rfl,?_⟩;exact ⟨rfl,hk⟩
   ·have k4:(kd == 4)=false:=by simpa using h4
    have hbk2:bk=false:=by rw [HBK.out];simp [h4]
    subst hbk2;clear h4 hvv hvn hvf;go_wp2_with fail;refine ⟨by kernel_rfl,?_⟩;exact ⟨rfl,aa.refl _ _⟩
  intro u1 wx hR;obtain ⟨e8,hkx⟩:=hR;have e8:u1 8=.bool bk:=e8;simp (maxSteps:=2000000) only [da,overL,List.toList_toArray,Nat.blt,Nat.beq,Nat.ble,Nat.reduceAdd,Bool.or_false,Bool.false_or,Bool.or_true,Bool.true_or,Bool.and_true,Bool.true_and,Bool.and_false,Bool.false_and,cond_true,cond_false];rw [e8];clear e8 hvv hvn hvf t0 t1 hg3 b0 bl;rename_i Kc hKc;have TX:=Hz (T3.out.qX hkx);have BX:=Hz (hkx.ai B3.out (fun h=>h));have IX:=Hz (hkx.ai I3.out (fun h=>h));have FX:=Hz (FS3.out.ae hkx (fun _ _ h=>h));have KX:=Hz (K3.out.trans (hkx.mono (fun _ _ h=>h.elim)));clear T3 B3 I3 FS3 K3 hkx;have HTX:=Hz (show ∀ w',aa (ag (fv i)) wx w'→w'.cell? ⟨g,o+i*4+1,none⟩=some (.slice fo fs.length fc)∧g<w'.heap.size from fun w' k=>by
   have hT:=TX.out;rw [←HL2.out] at hT;obtain ⟨hg3,-,hrow⟩:=hT.row (i:=i) (by rw [HL2.out];exact HLL.out);rw [HT2.out] at hrow;have t1:=hrow.f HST.out;rw [HEF.out] at t1;refine ⟨?_,Nat.lt_of_lt_of_le hg3 k.size⟩;have:=k.block g hg3 (HTG.out g (by rfl));rw [←t1]
   simp only [World.cell?,this])
  obtain ⟨t1,hg3⟩:=HTX.out wx (aa.refl _ _);have HMX:=Hz (show ∀ v ∈ fs,v.1=3→0≤v.2∧v.2<(L.length:Int) from HVV.out);go_wp2_with fail;go_loopw [49] (fun u wr=>∃ q:Nat,q≤fs.length∧u=.int .i64 q∧Sl wr 78 2 (fv i) fs.length (au ((fs.take q).map (db is bk) ++ fs.drop q))∧aa (ag (fv i)) wx wr) (fun u _=>fs.length-(intOf u).toNat)
  case atStart=>exact ⟨0,Nat.zero_le _,rfl,by simpa using FX.out,aa.refl _ _⟩
  case round=>
   clear t1 hg3;obtain ⟨q,hq,rfl,hsl,hkr⟩:=hrel;have HSL:=Hz hsl;have HKR:=Hz hkr;clear hsl hkr;by_cases hlt:q<fs.length
   ·have rd3:Rd wr fo (au ((fs.take q).map (db is bk) ++ fs.drop q)):=by
     have:=HSL.out;rw [HEF.out] at this;obtain ⟨_,_,e',rd,-,-⟩:=this.rd;cases e';exact rd
    obtain ⟨gf,of,rfl,hgf,v0,v1⟩:=rd3.dM q (by simp;omega);rw [sk] at v0 v1;have hin:fs.getD q (0,0) ∈ fs:=by rw [Ld,Le hlt];exact List.getElem_mem hlt
    have HV:=Hz (HMX.out _ hin);have MS:=Hz (ss (f:=db is bk) hlt);have MN:=Hz (fun h=>ts (f:=db is bk) hlt h);have HC:=Hz (show db is bk (fs.getD q (0,0))=if (bk || !a5 is (fs.getD q (0,0)))=true then (2,0) else fs.getD q (0,0) by
     unfold db
     cases bk <;> cases a5 is (fs.getD q (0,0)) <;> simp)
    clear rd3 hin;generalize fs.getD q (0,0)=v at *;obtain ⟨t1,hg3⟩:=HTX.out wr HKR.out;have hqi:(q:Int)<fs.length:=by omega
    have hvn:=HVN.out;go_upto_region 10 with (refine aQ rfl 78 (.tmp 52) rfl (by kernel_rfl) gf (of+q*2) rfl _ _ v0 v1 ?_)
    have ka:=(Kz wr).alloc (.cells #[.int .i64 v.1, .int .i64 v.2] 78);have BV:=Hz (show ah (wr.alloc (.cells #[.int .i64 v.1, .int .i64 v.2] 78)) wr.heap.size _ 78 from ah.newAt _ rfl rfl);have KV:=Hz (HKR.out.trans (ka.mono (fun _ _ h=>h.elim)));have SV:=Hz (HSL.out.ae ka (fun _ _ h=>h));clear ka t1 hg3 v0 v1 hgf HSL HKR;generalize wr.alloc (.cells #[.int .i64 v.1, .int .i64 v.2] 78)=wv at *;generalize wr.heap.size=vb at *;have c0:=BV.out.cell 0;have c1:=BV.out.cell 1;have cl:=BV.out.lt;simp only [Lz,Ls] at c0 c1;have nvf:∀ b,ag (fv i) b→∃ c,ah wx b c 78:=fun b hb=>(FX.out.own hb).2;have DD:=Hz (ng v (KV.out.ai BX.out (fun h=>by obtain ⟨c,hc⟩:=nvf _ h;exact BX.out.ne hc (by decide) rfl)) (KV.out.ai IX.out (fun h=>by obtain ⟨c,hc⟩:=nvf _ h;exact IX.out.ne hc (by decide) rfl)) HNL.out (by omega) HV.out);refine cY (fun i=>Nat.blt 53 i && Nat.blt i 60) (fun s' wy=>s' 59=.bool (bk || !a5 is v)∧aa (fun _=>False) wv wy) ?_ ?_
    ·intro K' hK';cases bk
     ·go_wp2_with (refine eT (by kernel_rfl) 78 (.tmp 10) rfl (by kernel_rfl) vb 0 rfl _ _ c0 c1 ?_);refine DD.out.mono ?_;rintro e w4 ⟨rfl,hk⟩;go_wp2_with fail;refine ⟨by kernel_rfl,?_⟩;exact ⟨rfl,hk⟩
     ·go_wp2_with fail;refine ⟨by kernel_rfl,?_⟩;exact ⟨rfl,aa.refl _ _⟩
    intro u2 wy hR;obtain ⟨e59,hky⟩:=hR;have e59:u2 59=.bool (bk || !a5 is v):=e59;simp (maxSteps:=2000000) only [da,overL,List.toList_toArray,Nat.blt,Nat.beq,Nat.ble,Nat.reduceAdd,Bool.or_false,Bool.false_or,Bool.or_true,Bool.true_or,Bool.and_true,Bool.true_and,Bool.and_false,Bool.false_and,cond_true,cond_false];rw [e59];rename_i Kd hKd;have KY:=Hz (KV.out.trans (hky.mono (fun _ _ h=>h.elim)));have SY:=Hz (SV.out.ae hky (fun _ _ h=>h));clear hky KV SV BV DD c0 c1 cl e59;obtain ⟨t1,hg3⟩:=HTX.out wy KY.out;generalize (bk || !a5 is v)=cnd at *;cases cnd
    ·have ME:=Hz (MN.out (by rw [HC.out];rfl));go_wp2_with fail;go_roundw
     case rel=>exact ⟨q+1,hlt,by go_num,by rw [ME.out];exact SY.out,KY.out⟩
     case measure=>simp [intOf];omega
    ·have ME:=Hz (MS.out);rw [HC.out] at ME;rw [HEF.out] at SY;go_wp2_with (refine jT rfl 78 (.tmp 66) (.tmp 65) rfl rfl gf of fs.length fc q _ 78 (.int .i64 2) (.int .i64 0) rfl rfl SY.out hlt (by kernel_rfl) rfl rfl ?_);intro w5 hs5 hk5 hz5;have S5:=Hz (show Sl w5 78 2 (fv i) fs.length (au ((fs.take (q+1)).map (db is bk) ++ fs.drop (q+1))) from by
      rw [ME.out,HEF.out,dp,List.map_take];exact hs5)
     have K5:=Hz (KY.out.trans (hk5.mono (T:=ag (fv i)) (fun k _ e=>by rw [HEF.out];subst e;rfl)));clear hs5 hk5 hz5;go_wp2_with fail;go_roundw
     case rel=>exact ⟨q+1,hlt,by go_num,S5.out,K5.out⟩
     case measure=>simp [intOf];omega
   ·obtain rfl:q=fs.length:=by omega
    have SE:=HSL.out;rw [List.take_length,List.drop_length,List.append_nil] at SE;have SE:=Hz SE;go_wp2_with fail;go_end0;have hT:=TX.out;have hlen:(fs.map (db is bk)).length=fs.length:=by simp
    have hT2:=cI.bU (L:=L.set i ⟨kd,fs,true,dd⟩) (i:=i) (fs:=fs.map (db is bk)) hT (by rw [HL2.out];exact HLL.out) (by rw [HT2.out];exact HST.out) HKR.out (by rw [hlen];exact SE.out) HTG.out (fun j b h1 h2=>HFI.out j i b h2 h1);rw [HT2.out,List.set_set] at hT2;have hd:dd=false:=HST.out;refine ⟨rfl,fv,?_,KX.out.mono (fun k _ e=>by subst e;exact .inl rfl) |>.trans (HKR.out.mono (fun k _ h=>.inr h)),fun j b hb=>?_,?_⟩
    ·rw [HTH.out,HG.out];rw [hd] at hT2;exact hT2
    ·by_cases e:ag (fv i) b
     ·exact (SE.out.own e).2
     ·obtain ⟨c,hc⟩:=HF.out j b hb;exact ⟨c,HKR.out.ai (KX.out.ai hc (HFG.out j b hb)) e⟩
    ·rw [HE.out];rfl
end
end
section
def dE (M:List Int) (v:Vl):Vl:=lX (fun x=>((M.idxOf x:Nat):Int)) v
def kJ (M:List Int) (n:Nd):Nd:=(n.1,n.2.map (dE M))
theorem mh {M m:List Int} {v:Vl} (h:v.1=3→v.2 ∈ M):dE (M ++ m) v=dE M v:=by
 unfold dE lX;by_cases h3:v.1=3
 ·rw [if_pos h3,if_pos h3];dsimp only;rw [List.idxOf_append,if_pos (h h3)]
 ·rw [if_neg h3,if_neg h3]
theorem mi {M m:List Int} {l:List Vl} (h:∀ v ∈ l,v.1=3→v.2 ∈ M):l.map (dE (M ++ m))=l.map (dE M):=
 List.map_congr_left fun v hv=>mh (h v hv)
structure Told (G:Gr) (L:List Vl) (s s':VS):Prop where
 pre:∃ m,s'.1=s.1 ++ m
 len:s'.2.length=s'.1.length
 nodup:s.1.Nodup→s'.1.Nodup
 met:∀ v ∈ L,v.1=3→v.2 ∈ s'.1
 shut:∀ (k:Nat) (x:Int),s.1.length≤k→s'.1[k]? = some x→∀ v ∈ (G x).2,v.1=3→v.2 ∈ s'.1
 node:∀ (k:Nat) (x:Int),s.1.length≤k→s'.1[k]? = some x→s'.2[k]? = some (kJ s'.1 (G x))
 ae:∀ k,k<s.1.length→s'.2[k]? = s.2[k]?
 led:∀ (k:Nat) (x:Int),s.1.length≤k→s'.1[k]? = some x→((3,x):Vl) ∈ L∨∃ (j:Nat) (y:Int),s.1.length≤j∧j<k∧s'.1[j]? = some y∧((3,x):Vl) ∈ (G y).2
theorem Told.refl (G:Gr) {L:List Vl} {s:VS} (hl:s.2.length=s.1.length) (hm:∀ v ∈ L,v.1=3→v.2 ∈ s.1):Told G L s s:=
 have no:∀ (k:Nat) (x:Int),s.1.length≤k→s.1[k]? = some x→False:=fun k x h1 h2=>by
  rw [List.getElem?_eq_none h1] at h2;cases h2
 ⟨⟨[],by simp⟩,hl,fun h=>h,hm,fun k x h1 h2=>(no k x h1 h2).elim,fun k x h1 h2=>(no k x h1 h2).elim,fun _ _=>rfl,fun k x h1 h2=>(no k x h1 h2).elim⟩
theorem eU {α:Type} {a m:List α} {k:Nat} (h:k<a.length):(a ++ m)[k]? = a[k]? := List.getElem?_append_left h
theorem Told.then {G:Gr} {L L':List Vl} {s t u:VS} (A:Told G L s t) (B:Told G L' t u):Told G (L ++ L') s u:=by
 obtain ⟨m,hm⟩:=A.pre;obtain ⟨m',hm'⟩:=B.pre;have hsub:∀ x ∈ t.1,x ∈ u.1:=fun x hx=>by rw [hm'];simp [hx]
 have ht:s.1.length≤t.1.length:=by rw [hm];simp
 refine ⟨⟨m ++ m',by rw [hm',hm];simp⟩,B.len,fun h=>B.nodup (A.nodup h),fun v hv h3=>?_,fun k x hk hx v hv h3=>?_,fun k x hk hx=>?_,fun k hk=>?_,fun k x hk hx=>?_⟩
 ·rcases List.mem_append.1 hv with h | h
  ·exact hsub _ (A.met v h h3)
  ·exact B.met v h h3
 ·by_cases hlt:k<t.1.length
  ·rw [hm',eU hlt] at hx;exact hsub _ (A.shut k x hk hx v hv h3)
  ·exact B.shut k x (by omega) hx v hv h3
 ·by_cases hlt:k<t.1.length
  ·have hx':t.1[k]? = some x:=by rw [hm',eU hlt] at hx;exact hx
   rw [B.ae k hlt,A.node k x hk hx'];unfold kJ;rw [hm',mi (A.shut k x hk hx')]
  ·exact B.node k x (by omega) hx
 ·rw [B.ae k (by omega),A.ae k hk]
 ·by_cases hlt:k<t.1.length
  ·have hx':t.1[k]? = some x:=by rw [hm',eU hlt] at hx;exact hx
   rcases A.led k x hk hx' with h | ⟨j,y,h1,h0,h2,h3⟩
   ·exact .inl (by simp [h])
   ·exact .inr ⟨j,y,h1,h0,by rw [hm',eU (by omega)];exact h2,h3⟩
  ·rcases B.led k x (by omega) hx with h | ⟨j,y,h1,h0,h2,h3⟩
   ·exact .inl (by simp [h])
   ·exact .inr ⟨j,y,by omega,h0,h2,h3⟩
theorem iX {G:Gr} {U:List Int} {n:Nat} {f:Vl→VS→Vl × VS}
  (h:∀ v s,(v.1=3→v.2 ∈ U)→cC U s.1≤n→s.2.length=s.1.length→Told G [v] s (f v s).2∧(f v s).1=dE (f v s).2.1 v) :
  ∀ (l:List Vl) (s:VS),(∀ v ∈ l,v.1=3→v.2 ∈ U)→cC U s.1≤n→s.2.length=s.1.length→Told G l s (fldM f l s).2∧(fldM f l s).1=l.map (dE (fldM f l s).2.1)
 | [],s,_,_,hl=>⟨Told.refl G hl (fun v hv=>by cases hv),rfl⟩
 | v :: l,s,hL,hn,hl=>by
  obtain ⟨A,e⟩:=h v s (hL v (by simp)) hn hl;obtain ⟨m,hm⟩:=A.pre;have:=m5 U s.1 m;obtain ⟨B,e2⟩:=iX h l (f v s).2 (fun u hu=>hL u (by simp [hu])) (by rw [hm];omega) A.len;refine ⟨A.then B,?_⟩;simp only [fldM,List.map_cons];obtain ⟨m',hm'⟩:=B.pre;have h1:dE (fldM f l (f v s).2).2.1 v=dE (f v s).2.1 v:=by rw [hm'];exact mh (A.met v (by simp))
  rw [h1,←e,←e2]
theorem pf {G:Gr} {U:List Int} (I:oX G U):∀ (n:Nat) (v:Vl) (s:VS),(v.1=3→v.2 ∈ U)→cC U s.1≤n→s.2.length=s.1.length →
  Told G [v] s (valM G n v s).2∧(valM G n v s).1=dE (valM G n v s).2.1 v:=by
 intro n
 induction n with
 | zero=>
  intro v s hv hn hl;by_cases h3:v.1=3
  ·have hm:=lY (Nat.le_zero.1 hn) (hv h3);rw [dQ G _ h3 hm];refine ⟨Told.refl G hl (fun u hu h=>by rw [List.mem_singleton.1 hu];exact hm),?_⟩;simp [dE,lX,h3,eB]
  ·rw [cQ G _ _ h3];exact ⟨Told.refl G hl (fun u hu h=>absurd (by rw [←List.mem_singleton.1 hu];exact h) h3),by simp [dE,lX,h3]⟩
 | succ n ih=>
  intro v s hv hn hl;by_cases h3:v.1=3
  ·by_cases hm:v.2 ∈ s.1
   ·rw [dQ G _ h3 hm];refine ⟨Told.refl G hl (fun u hu h=>by rw [List.mem_singleton.1 hu];exact hm),?_⟩;simp [dE,lX,h3,eB]
   ·have hu:=fe (hv h3) hm;obtain ⟨A,e⟩:=iX ih (G v.2).2 (s.1 ++ [v.2],s.2 ++ [((G v.2).1,[])]) (I.shut _ (hv h3)) (Nat.le_of_lt_succ (Nat.lt_of_lt_of_le hu hn)) (by simp [hl]);obtain ⟨m,hmm⟩:=A.pre;dsimp only at hmm;rw [dt G n h3 hm];have hat:(fldM (valM G n) (G v.2).2 (s.1 ++ [v.2],s.2 ++ [((G v.2).1,[])])).2.1[s.1.length]? = some v.2:=by rw [hmm];simp
    have hlt:s.1.length<(fldM (valM G n) (G v.2).2 (s.1 ++ [v.2],s.2 ++ [((G v.2).1,[])])).2.1.length:=by rw [hmm];simp
    refine ⟨⟨⟨v.2 :: m,by dsimp only;rw [hmm];simp⟩,by dsimp only;rw [List.length_set];exact A.len,fun h=>A.nodup (by
      rw [List.nodup_append]
      exact ⟨h,by simp,fun a ha b hb e=>hm (by rw [←List.mem_singleton.1 hb,←e];exact ha)⟩),fun u hu h=>?_,fun k x hk hx u hu h=>?_,fun k x hk hx=>?_,fun k hk=>?_,fun k x hk hx=>?_⟩,?_⟩
    ·rw [List.mem_singleton.1 hu];dsimp only;rw [hmm];simp
    ·by_cases he:k=s.1.length
     ·subst he;dsimp only at hx ⊢;rw [hat] at hx;cases hx;exact A.met u hu h
     ·exact A.shut k x (by simp;omega) hx u hu h
    ·dsimp only at hx ⊢;by_cases he:k=s.1.length
     ·subst he;rw [hat] at hx;cases hx;rw [List.getElem?_set_self (by rw [A.len];exact hlt)];unfold kJ;rw [←e]
     ·rw [List.getElem?_set_ne (by omega)];exact A.node k x (by simp;omega) hx
    ·dsimp only;rw [List.getElem?_set_ne (by omega),A.ae k (by simp;omega)];dsimp only;rw [List.getElem?_append_left (by omega)]
    ·dsimp only at hx ⊢;by_cases he:k=s.1.length
     ·subst he;rw [hat] at hx;cases hx;left;rw [List.mem_singleton,←h3]
     ·right;rcases A.led k x (by simp;omega) hx with h | ⟨j,y,h1,h0,h2,h4⟩
      ·exact ⟨s.1.length,v.2,Nat.le_refl _,by omega,hat,h⟩
      ·exact ⟨j,y,by simp at h1;omega,h0,h2,h4⟩
    ·dsimp only;unfold dE lX;rw [if_pos h3,hmm];dsimp only;rw [List.idxOf_append,if_pos (by simp),List.idxOf_append,if_neg hm];simp [eB]
  ·rw [cQ G _ _ h3];exact ⟨Told.refl G hl (fun u hu h=>absurd (by rw [←List.mem_singleton.1 hu];exact h) h3),by simp [dE,lX,h3]⟩
def gy (G:Gr) (roots:List Vl):List Int:=(fldM (valM G deep) roots ([],[])).2.1
theorem nU {G:Gr} {U:List Int} (I:oX G U) (hU:U.length≤deep) {roots:List Vl} (hr:∀ v ∈ roots,v.1=3→v.2 ∈ U) :
  j9 G roots=(roots.map (dE (gy G roots)),(gy G roots).map fun x=>kJ (gy G roots) (G x))∧(gy G roots).Nodup∧(∀ v ∈ roots,v.1=3→v.2 ∈ gy G roots) ∧
  (∀ x ∈ gy G roots, ∀ v ∈ (G x).2,v.1=3→v.2 ∈ gy G roots)∧∀ (k:Nat) (x:Int),(gy G roots)[k]? = some x→((3,x):Vl) ∈ roots∨∃ (j:Nat) (y:Int),j<k∧(gy G roots)[j]? = some y∧((3,x):Vl) ∈ (G y).2:=by
 obtain ⟨A,e⟩:=iX (pf I deep) roots ([],[]) hr (Nat.le_trans (m6 U) hU) rfl;unfold j9;have hM:gy G roots=(fldM (valM G deep) roots ([],[])).2.1:=rfl;rw [←hM] at e;refine ⟨Prod.ext e ?_,A.nodup (by simp),A.met,fun x hx v hv h3=>?_,fun k x hx=>?_⟩
 ·refine List.ext_getElem? fun k=>?_;dsimp only;rw [List.getElem?_map,hM];cases hk:(fldM (valM G deep) roots ([],[])).2.1[k]? with
  | none=>
   rw [List.getElem?_eq_none_iff] at hk;rw [List.getElem?_eq_none (by rw [A.len];exact hk)];rfl
  | some x=>rw [A.node k x (by simp) hk];rfl
 ·obtain ⟨k,hk,rfl⟩:=List.mem_iff_getElem.1 hx;exact A.shut k _ (by simp) (Le hk) v hv h3
 ·rcases A.led k x (by simp) hx with h | ⟨j,y,h1,h0,h2,h3⟩
  ·exact .inl h
  ·exact .inr ⟨j,y,h0,h2,h3⟩
end
section
section
variable {O:Wo} {W:Wd} {φ:Int→Int}
def Wd.idx (W:Wd) (aR:Bool):List Int:=((List.range W.T.length).map (Int.ofNat ·)).filter fun i=>!(W.th i).dead && ((W.th i).aR == aR)
theorem Wd.nh {W:Wd} {b:Bool} {i:Int}:i ∈ W.idx b↔W.live i∧(W.th i).aR=b:=by
 unfold Wd.idx Wd.live;simp only [List.mem_filter,List.mem_map,List.mem_range,Bool.and_eq_true,Bool.not_eq_true',beq_iff_eq];constructor
 ·rintro ⟨⟨n,hn,rfl⟩,h1,h2⟩;exact ⟨⟨Int.natCast_nonneg n,Int.ofNat_lt.2 hn,h1⟩,h2⟩
 ·rintro ⟨⟨h0,h1,h2⟩,h3⟩;have h4:i.toNat<W.T.length:=by omega
  have h5:((i.toNat:Nat):Int)=i:=by omega
  exact ⟨⟨i.toNat,h4,h5⟩,h2,h3⟩
theorem qa {l m:List Int} (h:l.Perm m):l.sum=m.sum:=by
 induction h with
 | nil=>rfl
 | cons x _ ih=>simp [ih]
 | swap x y l=>simp;omega
 | trans _ _ ih1 ih2=>exact ih1.trans ih2
theorem nV {l:List Int} (h:∀ x ∈ l,0≤x):0≤l.sum:=by
 induction l with
 | nil=>simp
 | cons a l ih=>simp only [List.sum_cons];have:=h a (by simp);have:=ih (fun x hx=>h x (by simp [hx]));omega
theorem nj {f:Int→Int} (h0:∀ i,0≤f i):∀ {l m:List Int},l.Nodup→(∀ i ∈ l,i ∈ m)→(l.map f).sum≤(m.map f).sum
 | [],m,_,_=>by simpa using nV (l:=m.map f) (fun x hx=>by obtain ⟨i,_,rfl⟩:=List.mem_map.1 hx;exact h0 i)
 | a :: l,m,hn,hs=>by
  have ha:=hs a (by simp);have hp:m.Perm (a :: m.erase a):=List.perm_cons_erase ha;rw [qa (hp.map f)];simp only [List.map_cons,List.sum_cons];rw [List.nodup_cons] at hn;have:=nj h0 (l:=l) (m:=m.erase a) hn.2 (fun i hi=>(List.mem_erase_of_ne (fun e=>hn.1 (by rw [←e];exact hi))).2 (hs i (by simp [hi])));omega
theorem iB {p:Int→Bool} {f:Int→Int}:∀ (l:List Int),((l.filter p).map f).sum=(l.map fun i=>if p i then f i else 0).sum
 | []=>rfl
 | a :: l=>by
  simp only [List.filter_cons,List.map_cons,List.sum_cons];cases h:p a
  ·simp [iB l]
  ·simp [iB l]
theorem nW (W:Wd) (p:Th→Bool):cf W.T p=(((List.range W.T.length).map (Int.ofNat ·)).map fun i=>if p (W.th i) then (W.th i).words else 0).sum:=by
 unfold cf;congr 1;apply List.ext_getElem
 ·simp
 ·intro k h1 h2;simp only [List.length_map] at h1;simp only [List.getElem_map,List.getElem_range];have e:W.th (Int.ofNat k)=W.T[k]:=by
   unfold Wd.th;rw [Ld,show (Int.ofNat k).toNat=k from rfl,Le h1];rfl
  rw [e]
theorem Wd.rB (W:Wd) (b:Bool):((W.idx b).map fun i=>(W.th i).words).sum=cf W.T fun t=>!t.dead && (t.aR == b):=by
 rw [nW];unfold Wd.idx;rw [iB]
end
end
section
theorem mN {α β:Type} (f:Nat→α→β) (l:List α) (a:α):(l ++ [a]).mapIdx f=l.mapIdx f ++ [f l.length a]:=by
 simp [List.mapIdx_append]
def dG (is:List Bool) (l:List Th) (k:Nat):Int:=eR is (l.take k)
theorem iY {is:List Bool} {l:List Th} {k:Nat} (h:k<l.length):dG is l (k+1)=dG is l k+(if is.getD k false then (l.getD k Th.none).words else 0):=by
 unfold dG eR;rw [←List.take_append_getElem h,mN,List.sum_append,List.length_take,Nat.min_eq_left (by omega),Ld (l:=l),Le h];simp
theorem iZ (is:List Bool) (l:List Th):dG is l 0=0:=by simp [dG,eR]
theorem jU (is:List Bool) (l:List Th):dG is l l.length=eR is l:=by simp [dG]
theorem g6 {W:Wd} (h:W.ok) {is:List Bool} (hl:∀ i,az is i=true→W.live i):∀ k:Nat,k≤W.T.length→0≤dG is W.T k∧dG is W.T k≤13*k
 | 0,_=>by rw [iZ];omega
 | k+1,hk=>by
  have ih:=g6 h hl k (by omega);rw [iY (by omega)];split
  ·rename_i hb;have hlv:=hl (k:Int) (by rw [bS];exact hb);have hf:=bs (h.tk _ hlv);have e:W.th (k:Int)=W.T.getD k Th.none:=by unfold Wd.th;rw [Int.toNat_natCast]
   rw [e] at hf;unfold Th.words;omega
  ·omega
theorem Wd.qd {W:Wd} (h:W.ok) {q:List (Int × Int)} (hq:∀ e ∈ q,W.dx e) {is:List Bool} (hl:∀ i,az is i=true→W.live i):∀ i,az (W.bQ q is) i=true→W.live i:=fun i hi=>
 (b9.1 hi).2.2.least hl (Wd.dn h hq)
theorem Wd.nX (W:Wd) (q:List (Int × Int)) (is:List Bool):(W.bQ q is).length=is.length:=cA _ _ _
theorem Wd.nY {W:Wd} {q:List (Int × Int)} {is:List Bool} {g x:Int} (h0:0≤x) (h1:x<is.length):W.bQ (q ++ [(g,x)]) (is.set x.toNat true)=(W.a6 is q x).1:=by
 unfold Wd.a6 Wd.bQ;exact nP ((cE h0 h1).2 (.inl rfl))
theorem mm {W:Wd} {is:List Bool} (hl:∀ i,az is i=true→W.live i) {x:Int} (h0:0≤x) (h1:x<is.length) (hx:W.live x):∀ i,az (is.set x.toNat true) i=true→W.live i:=fun i hi=>by
 rcases (cE h0 h1).1 hi with rfl | hi
 ·exact hx
 ·exact hl i hi
structure dg (W:Wd) (is:List Bool) (q:List (Int × Int)) (items:List It):Prop where
 len:is.length=W.T.length
 live:∀ i,az is i=true→W.live i
 wv:∀ e ∈ q,W.dx e
 rg:items.map (·.1)=W.regs
 cnt:q.length+bM items≤24
theorem dg.start {W:Wd} (h:W.ok) (major:Bool):dg W (W.bQ W.wait (W.first major)) W.wait (bC az (W.bQ W.wait (W.first major)) W.regs):=by
 have m:=Wd.dO.start h major;have hq:=h.hq;refine ⟨m.len,m.live,h.wv,by simp [bC,Function.comp_def],?_⟩;have:bM (bC az (W.bQ W.wait (W.first major)) W.regs)=W.regs.length:=jO _ _;omega
theorem dg.sv {W:Wd} {is:List Bool} {q:List (Int × Int)} {l:List It} (P:dg W is q l):l.length=W.regs.length:=by
 have:=congrArg List.length P.rg;simpa using this
theorem dg.item {W:Wd} (h:W.ok) {is:List Bool} {q:List (Int × Int)} {a b:List It} {i:It} (P:dg W is q (a ++ i :: b)):W.dx i.1:=h.gv i.1 (by rw [←P.rg];simp)
theorem dg.lL {W:Wd} (h:W.ok) {is:List Bool} {q:List (Int × Int)} {a b:List It} {e:Int × Int} {d:Bool} (P:dg W is q (a ++ (e,d,false) :: b)) :
  dg W (W.a6 is q e.2).1 (q ++ [e]) (a ++ (e,d,true) :: b):=by
 have he:W.dx e:=P.item h;have hq2:∀ f ∈ q ++ [e],W.dx f:=fun f hf=>by
  rcases List.mem_append.1 hf with hf | hf
  ·exact P.wv f hf
  ·rw [List.mem_singleton] at hf;subst hf;exact he
 have h0:=he.2.2.1;have h1:=he.2.2.2.1;have hl:=mm P.live h0 (by rw [P.len];exact h1) he.2.2;refine ⟨?_,?_,hq2,by rw [←P.rg];simp,?_⟩
 ·unfold Wd.a6;rw [Wd.nX,List.length_set];exact P.len
 ·exact Wd.qd h P.wv hl
 ·have:=P.cnt;rw [gS,jm rfl] at this;rw [gS,iS,List.length_append];simp only [List.length_singleton];omega
theorem pg {W:Wd} {is:List Bool} {q:List (Int × Int)} {i:It} {l:List It} (hc:((i.2.1 && !i.2.2) && az is i.1.1)=false) :
  scanM az W.a6 is q (i :: l)=((scanM az W.a6 is q l).1,(scanM az W.a6 is q l).2.1,i :: (scanM az W.a6 is q l).2.2.1,(scanM az W.a6 is q l).2.2.2):=by
 simp only [scanM,hc,if_neg (show ¬ (false=true) by decide)]
theorem ph {W:Wd} {is:List Bool} {q:List (Int × Int)} {e:Int × Int} {l:List It} (hc:az is e.1=true) :
  scanM az W.a6 is q ((e,true,false) :: l)=((scanM az W.a6 (W.a6 is q e.2).1 (q ++ [e]) l).1,(scanM az W.a6 (W.a6 is q e.2).1 (q ++ [e]) l).2.1,(e,true,true) :: (scanM az W.a6 (W.a6 is q e.2).1 (q ++ [e]) l).2.2.1,true):=by
 simp only [scanM,hc,Bool.not_false,Bool.and_self,if_true]
 rfl
structure cT (W:Wd) (is0:List Bool) (q0:List (Int × Int)) (items:List It) (k:Nat) (x:Bool) (is:List Bool) (q:List (Int × Int)) (all:List It):Prop where
 ok:dg W is q all
 dr:all.drop k=items.drop k
 eq:scanM az W.a6 is0 q0 items=((scanM az W.a6 is q (items.drop k)).1,(scanM az W.a6 is q (items.drop k)).2.1,all.take k ++ (scanM az W.a6 is q (items.drop k)).2.2.1,x || (scanM az W.a6 is q (items.drop k)).2.2.2)
 fl:(x=false∧all=items)∨(x=true∧bM all<bM items)
 ln:all.length=items.length
theorem cT.start {W:Wd} {is0:List Bool} {q0:List (Int × Int)} {items:List It} (P:dg W is0 q0 items):cT W is0 q0 items 0 false is0 q0 items:=
 ⟨P,rfl,by simp, .inl ⟨rfl,rfl⟩,rfl⟩
theorem fj {α:Type} {l:List α} {k:Nat} (h:k<l.length):l.drop k=l[k] :: l.drop (k+1):=List.drop_eq_getElem_cons h
theorem cT.skip {W:Wd} {is0:List Bool} {q0:List (Int × Int)} {items:List It} {k:Nat} {x:Bool} {is:List Bool} {q:List (Int × Int)} {all:List It} (S:cT W is0 q0 items k x is q all) (hk:k<all.length) {i:It} (hi:all[k]'hk=i)
  (hc:((i.2.1 && !i.2.2) && az is i.1.1)=false):cT W is0 q0 items (k+1) x is q all:=by
 have hk2:k<items.length:=by rw [←S.ln];exact hk
 have hd:=S.dr;rw [fj hk,fj hk2,hi] at hd;obtain ⟨hi2,hd2⟩:=List.cons.inj hd;refine ⟨S.ok,hd2,?_,S.fl,S.ln⟩;rw [S.eq,fj hk2,←hi2,pg hc,←List.take_append_getElem hk,hi];simp
theorem cT.lL {W:Wd} (h:W.ok) {is0:List Bool} {q0:List (Int × Int)} {items:List It} {k:Nat} {x:Bool} {is:List Bool} {q:List (Int × Int)} {all:List It} (S:cT W is0 q0 items k x is q all) (hk:k<all.length) {e:Int × Int} (hi:all[k]'hk=(e,true,false))
  (hc:az is e.1=true):cT W is0 q0 items (k+1) true (W.a6 is q e.2).1 (q ++ [e]) (all.set k (e,true,true)):=by
 have hk2:k<items.length:=by rw [←S.ln];exact hk
 have hd:=S.dr;rw [fj hk,fj hk2,hi] at hd;obtain ⟨hi2,hd2⟩:=List.cons.inj hd;have hsp:all=all.take k ++ (e,true,false) :: all.drop (k+1):=by
  rw [←hi,←fj hk,List.take_append_drop]
 have hset:all.set k (e,true,true)=all.take k ++ (e,true,true) :: all.drop (k+1):=by
  rw [List.set_eq_take_append_cons_drop,if_pos hk]
 have P:=S.ok;rw [hsp] at P;have hlt:bM (all.set k (e,true,true))+1=bM all:=by
  rw [hset]
  conv=>rhs;rw [hsp]
  rw [gS,gS,iS,jm rfl];omega
 refine ⟨by rw [hset];exact P.lL h,?_,?_,?_,by simp [S.ln]⟩
 ·rw [List.drop_set_of_lt (by omega)];exact hd2
 ·rw [S.eq,fj hk2,←hi2,ph hc];have ht:(all.set k (e,true,true)).take (k+1)=all.take k ++ [(e,true,true)]:=by
   rw [hset,List.take_append,List.length_take,Nat.min_eq_left (by omega),show k+1-k=1 by omega,List.take_of_length_le (by simp;omega)]
   rfl
  rw [ht];simp
 ·right;refine ⟨rfl,?_⟩;rcases S.fl with ⟨_,e2⟩ | ⟨_,h2⟩
  ·rw [e2] at hlt ⊢;omega
  ·omega
theorem cT.done {W:Wd} {is0:List Bool} {q0:List (Int × Int)} {items:List It} {x:Bool} {is:List Bool} {q:List (Int × Int)} {all:List It} (S:cT W is0 q0 items all.length x is q all):scanM az W.a6 is0 q0 items=(is,q,all,x):=by
 rw [S.eq,S.ln,List.drop_length,←S.ln,List.take_length];simp [scanM]
structure eV (W:Wd) (major:Bool) (x:Bool) (is:List Bool) (q:List (Int × Int)) (items:List It):Prop where
 ok:dg W is q items
 eq:∃ n,W.pass major=(if x then roundsM az W.a6 n is q items else (is,q,items))∧(x=true→bM items<n)
theorem eV.start {W:Wd} (h:W.ok) (major:Bool):eV W major true (W.bQ W.wait (W.first major)) W.wait (bC az (W.bQ W.wait (W.first major)) W.regs):=
 ⟨dg.start h major,W.regs.length+1,rfl,fun _=>by
  have:bM (bC az (W.bQ W.wait (W.first major)) W.regs)=W.regs.length:=jO _ _
  omega⟩
theorem eV.next {W:Wd} {major:Bool} {is0:List Bool} {q0:List (Int × Int)} {items:List It} (P:eV W major true is0 q0 items) {x:Bool} {is:List Bool} {q:List (Int × Int)} {all:List It} (S:cT W is0 q0 items all.length x is q all):eV W major x is q all:=by
 obtain ⟨n,e,hn⟩:=P.eq;have hn:=hn rfl;obtain ⟨n,rfl⟩:∃ m,n=m+1:=⟨n-1,by omega⟩;refine ⟨S.ok,n,?_,fun hx=>?_⟩
 ·rw [e];simp only [if_true,roundsM,S.done]
 ·rcases S.fl with ⟨h1,_⟩ | ⟨_,h2⟩
  ·rw [h1] at hx;cases hx
  ·omega
theorem eV.done {W:Wd} {major:Bool} {is:List Bool} {q:List (Int × Int)} {items:List It} (P:eV W major false is q items):W.pass major=(is,q,items):=by
 obtain ⟨n,e,_⟩:=P.eq;simpa using e
theorem mn {is:List Bool} {l:List It} {k:Nat} (h:k<l.length):bz az cH is (l.take (k+1))=bz az cH is (l.take k) ++ (if !(l[k]).2.1 && az is (l[k]).1.1 then [(l[k]).1] else []):=by
 unfold bz;rw [←List.take_append_getElem h,List.filter_append,List.map_append];congr 1;cases hc:(!(l[k]).2.1 && az is (l[k]).1.1) <;> simp [hc,cH]
theorem mq {is:List Bool} {l:List (Int × Int)} {k:Nat} (h:k<l.length):bA az cH is (l.take (k+1))=bA az cH is (l.take k) ++ (if az is (l[k]).1 then [l[k]] else []):=by
 unfold bA;rw [←List.take_append_getElem h,List.filter_append,List.map_append];congr 1;cases hc:az is (l[k]).1 <;> simp [hc,cH]
theorem mO (is:List Bool) (l:List It):(bz az cH is l).length≤l.length:=by
 unfold bz;rw [List.length_map];exact List.length_filter_le _ _
theorem mP (is:List Bool) (l:List (Int × Int)):(bA az cH is l).length≤l.length:=by
 unfold bA;rw [List.length_map];exact List.length_filter_le _ _
def ey (is:List Bool) (l:List (Int × Int)) (k:Nat):List Bool:=l.mapIdx fun i e=>decide (i<k) && !az is e.2
theorem i3 (is:List Bool) (l:List (Int × Int)) (k:Nat):(ey is l k).length=l.length:=by simp [ey]
theorem nZ (is:List Bool) (l:List (Int × Int)):ey is l 0=List.replicate l.length false:=by
 rw [List.eq_replicate_iff];refine ⟨i3 _ _ _,fun b hb=>?_⟩;unfold ey at hb;obtain ⟨i,h,e⟩:=List.getElem_of_mem hb;rw [←e];simp
theorem n3 (is:List Bool) (l:List (Int × Int)) {k:Nat} (h:k<l.length):(ey is l k).set k (!az is (l.getD k (0,0)).2)=ey is l (k+1):=by
 unfold ey;apply List.ext_getElem (by simp);intro j h1 h2;simp only [List.getElem_set,List.getElem_mapIdx];by_cases e:k=j
 ·subst e;rw [if_pos rfl,Ld,Le h];simp
 ·rw [if_neg e];congr 1;simp only [decide_eq_decide];omega
theorem pj (is:List Bool) (l:List (Int × Int)):ey is l l.length=(bC az is l).map fun i=>i.2.1:=by
 unfold ey bC;apply List.ext_getElem (by simp);intro j h1 h2;have:j<l.length:=by simpa using h1
 simp [this]
def cJ (is:List Bool) (l:List Th) (k:Nat):List Th:=l.mapIdx fun i t=>if i<k then cj is i t else t
theorem lh (is:List Bool) (l:List Th):cJ is l 0=l:=by
 unfold cJ;apply List.ext_getElem (by simp);intro j h1 h2;simp
theorem mr (is:List Bool) (l:List Th):cJ is l l.length=fr is l:=by
 unfold cJ fr;apply List.ext_getElem (by simp);intro j h1 h2;have:j<l.length:=by simpa using h2
 simp [this]
theorem cN (is:List Bool) (l:List Th) (k:Nat):(cJ is l k).length=l.length:=by simp [cJ]
theorem jV (is:List Bool) (l:List Th) {k:Nat} (h:k<l.length):(cJ is l k)[k]'(by rw [cN];exact h)=l[k]:=by simp [cJ]
theorem lj (is:List Bool) (l:List Th) {k:Nat} (h:k<l.length):(cJ is l k).set k (cj is k l[k])=cJ is l (k+1):=by
 unfold cJ;apply List.ext_getElem (by simp);intro j h1 h2;simp only [List.getElem_set,List.getElem_mapIdx];by_cases e:k=j
 ·subst e;simp
 ·rw [if_neg e];by_cases e2:j<k
  ·rw [if_pos e2,if_pos (by omega)]
  ·rw [if_neg e2,if_neg (by omega)]
theorem nk {is:List Bool} {k:Nat} {t:Th} (h:is.getD k false=false):cj is k t=⟨t.k,[],t.aR,true⟩:=by unfold cj;rw [if_neg (by rw [h];decide)]
theorem qe {is:List Bool} {k:Nat} {t:Th} (h:is.getD k false=true) {u v:Vl} (hk:t.k=4) (hf:t.fs=[u,v]):cj is k t=⟨t.k,if a5 is u=false then [(2,0),(2,0)] else t.fs,true,t.dead⟩:=by
 unfold cj;rw [if_pos h,hf,hk];simp
theorem pk {is:List Bool} {k:Nat} {t:Th} (h:is.getD k false=true) {u v:Vl} (hk:t.k=3) (hf:t.fs=[u,v]):cj is k t=⟨t.k,if a5 is u=false then [(2,0),v] else t.fs,true,t.dead⟩:=by
 unfold cj;rw [if_pos h,hf,hk];simp
theorem n4 {is:List Bool} {k:Nat} {t:Th} (h:is.getD k false=true) (h3:t.k≠3) (h4:t.k≠4):cj is k t=⟨t.k,t.fs,true,t.dead⟩:=by
 unfold cj;rw [if_pos h,if_neg (fun h=>h4 h.1),if_neg (fun h=>h3 h.1)]
end
section
open Go.RowKit
structure fD (w:World) (gp lb ib cb:Nat) (nv:Value) (wr:World) (t:List Bool × List Nat):Prop where
 L:b7 wr gp lb ib nv t
 B:jR wr cb lb
 K:aa (fun b=>w.heap.size≤b) w wr
 O:∀ k,df lb ib nv k∨k=cb→w.heap.size≤k
section
variable {w wr w':World} {h:bZ} {W:Wd} {gp lb ib cb:Nat} {nv:Value} {t t':List Bool × List Nat}
theorem fD.to (C:fD w gp lb ib cb nv wr t) (T:dD wr gp lb ib nv w' t'):∃ nv',fD w gp lb ib cb nv' w' t':=by
 obtain ⟨nv',L',k',o'⟩:=T;refine ⟨nv',L',C.B.lv C.L k',C.K.then k' (fun k hk=>.inl (C.O k (.inl hk))),fun k hk=>?_⟩;rcases hk with (hk | hk | hk) | hk
 ·exact C.O k (.inl (.inl hk))
 ·exact C.O k (.inl (.inr (.inl hk)))
 ·rcases o' k hk with h | h
  ·exact C.O k (.inl (.inr (.inr h)))
  ·exact Nat.le_trans C.K.size h
 ·exact C.O k (.inr hk)
theorem fD.begin {w1:World} {gp:Nat} (n:Nat) (k:aa (fun _=>False) w w1) :
  fD w gp (w1.heap.size+1) w1.heap.size (w1.heap.size+1+1) (.slice none 0 0) (((w1.alloc (.cells (Array.replicate n (.bool false)) 4)).alloc (.cells #[.pointer (some ⟨gp,0,none⟩), .slice (some ⟨w1.heap.size,0,none⟩) n n, .slice none 0 0] 197)).alloc (.cells #[.pointer (some ⟨w1.heap.size+1,0,none⟩)] 195)) (List.replicate n false,[]):=by
 have hz:=k.size;have b1:ah (w1.alloc (.cells (Array.replicate n (.bool false)) 4)) w1.heap.size (List.replicate n (.bool false)) 4:=ah.newAt _ rfl (by simp);have b2:ah ((w1.alloc (.cells (Array.replicate n (.bool false)) 4)).alloc (.cells #[.pointer (some ⟨gp,0,none⟩), .slice (some ⟨w1.heap.size,0,none⟩) n n, .slice none 0 0] 197)) (w1.heap.size+1) [.pointer (some ⟨gp,0,none⟩), .slice (some ⟨w1.heap.size,0,none⟩) n n, .slice none 0 0] 197:=ah.newAt _ (by simp) rfl;refine ⟨⟨?_,?_,Sl.nil _ _ _⟩,ah.newAt _ (by simp) rfl,?_,fun b hb=>?_⟩
 ·have:=b2.alloc (.cells #[.pointer (some ⟨w1.heap.size+1,0,none⟩)] 195);simpa using this
 ·have:=(b1.alloc (.cells #[.pointer (some ⟨gp,0,none⟩), .slice (some ⟨w1.heap.size,0,none⟩) n n, .slice none 0 0] 197)).alloc (.cells #[.pointer (some ⟨w1.heap.size+1,0,none⟩)] 195);simpa using this
 ·exact (k.mono (fun _ _ h=>h.elim)).trans ((((aa.refl _ _).alloc _).alloc _).alloc _)
 ·rcases hb with (rfl | rfl | hb) | rfl
  ·omega
  ·exact hz
  ·exact absurd hb (by intro h;cases h)
  ·omega
theorem fD.same (C:fD w gp lb ib cb nv wr t) (k:aa (fun _=>False) wr w'):fD w gp lb ib cb nv w' t:=⟨C.L.same k,k.ai C.B (fun h=>h),C.K.trans (k.mono (fun _ _ h=>h.elim)),C.O⟩
theorem fD.gJ (C:fD w gp lb ib cb nv wr t) (H:aJ w h W):aJ wr h W:=H.ae C.K (fun b hb hk=>by have:=H.cR hb;omega)
theorem aJ.sp (H:aJ w h W):fh w (h.gx W) h.p h.gv h.wv W.regs W.wait h.fv W:=⟨H.side,H.ht,fun i b hb=>(H.af i b hb).2.1⟩
structure g7 (w:World) (h:bZ) (W:Wd) (lb ib cb cp:Nat) (is:List Bool) (regs wait:List (Int × Int)) (nv rgv wv cr cw:Value) (tx:Nat→Value) (T:List Th) (wr:World):Prop where
 L:b7 wr h.p lb ib nv (is,[])
 B:jR wr cb lb
 T:cI wr h.tv tx T
 F:∀ i b,ag (tx i) b→∃ c,ah wr b c 78
 fo:∀ i b,ag (tx i) b→ag (h.fv i) b
 S:a8 (h.gx W) wr h.p rgv wv regs wait
 C:ct wr cp cr cw W.regs W.wait
 R:Sl wr 78 2 h.rv W.roots.length (au W.roots)
 K:aa h.Own w wr
 sn:∀ b,aU h.p rgv wv b→aU h.p h.gv h.wv b∨w.heap.size≤b
 cn:∀ b,aU cp cr cw b→w.heap.size≤b
 ap:∀ b,¬ (aU h.p rgv wv b∧aU cp cr cw b)
 ln:∀ b,df lb ib nv b→w.heap.size≤b
theorem g7.begin {cp:Nat} {is0 is:List Bool} {regs wait:List (Int × Int)} {rgv wv cr cw:Value} {F':Nat→Prop} (H:aJ w h W) (I:fD w h.p lb ib cb nv wr (is0,[]))
  (C:ct wr cp cr cw W.regs W.wait) (cn:∀ b,aU cp cr cw b→w.heap.size≤b) (cl:∀ b,aU cp cr cw b→¬ (df lb ib nv b∨b=cb))
  (J:GJ (h.gx W) h.p lb ib cb h.fv W w' is F') (S:a8 (h.gx W) w' h.p rgv wv regs wait)
  (K:aa (fun b=>(df lb ib nv b∨b=cb∨ag h.tv b∨∃ i,ag (h.fv i) b)∨aU h.p h.gv h.wv b) wr w') (fn:∀ b,F' b→(df lb ib nv b∨b=cb∨ag h.tv b∨∃ i,ag (h.fv i) b)∨wr.heap.size≤b)
  (sn:∀ b,aU h.p rgv wv b→aU h.p h.gv h.wv b∨wr.heap.size≤b) :
  ∃ nv',g7 w h W lb ib cb cp is regs wait nv' rgv wv cr cw h.fv W.T w':=by
 obtain ⟨nv',L',B',T',hF',N',rfl⟩:=J;have aR:∀ b,(ag h.tv b∨∃ i,ag (h.fv i) b)∨aU h.p h.gv h.wv b→h.Own b:=fun b hb=>by
  rcases hb with (hb | hb) | (rfl | hb | hb)
  ·exact .inr (.inl hb)
  ·exact .inr (.inr (.inr (.inr (.inr hb))))
  ·exact .inl rfl
  ·exact .inr (.inr (.inr (.inl hb)))
  ·exact .inr (.inr (.inr (.inr (.inl hb))))
 have Hr:=I.gJ H;have ncp:∀ b,aU cp cr cw b→¬ ((df lb ib nv b∨b=cb∨ag h.tv b∨∃ i,ag (h.fv i) b)∨aU h.p h.gv h.wv b):=fun b hb hk=>by
  have h1:=cn b hb;have h2:¬ h.Own b:=fun e=>by have:=H.cR e;omega
  rcases hk with (hk | hk | hk | hk) | hk
  ·exact cl b hb (.inl hk)
  ·exact cl b hb (.inr hk)
  ·exact h2 (aR b (.inl (.inl hk)))
  ·exact h2 (aR b (.inl (.inr hk)))
  ·exact h2 (aR b (.inr hk))
 have cpl:∀ b,aU cp cr cw b→b<wr.heap.size:=fun b hb=>C.lA hb;have k0:=I.K;refine ⟨nv',L',B',T',hF',fun i b hb=>hb,S,C.ae K ncp,Hr.hr.ae K (fun b hb hk=>?_),⟨K.os.trans k0.os,K.tape.trans k0.tape,K.output.trans k0.output,Nat.le_trans k0.size K.size,fun b hb hn=>?_⟩,fun b hb=>?_,cn,fun b hb=>?_,fun b hb=>?_⟩
 ·obtain ⟨hl,c,hc⟩:=Hr.hr.own hb;have hn:b<w.heap.size:=H.cR (.inr (.inr (.inl hb)));rcases hk with (hk | hk | hk | ⟨i,hk⟩) | hk
  ·have:=I.O b (.inl hk);omega
  ·have:=I.O b (.inr hk);omega
  ·obtain ⟨cs,hs,_⟩:=Hr.ht;obtain ⟨_,c',hc'⟩:=hs.own hk;exact hc.ne hc' (by decide) rfl
  ·exact (H.af i b hk).2.2 hb
  ·exact Hr.side.j3 hc (by decide) (by decide) hk
 ·rw [K.block b (Nat.lt_of_lt_of_le hb k0.size) (fun hk=>?_),k0.block b hb (by omega)];rcases hk with (hk | hk | hk | hk) | hk
  ·have:=I.O b (.inl hk);omega
  ·have:=I.O b (.inr hk);omega
  ·exact hn (aR b (.inl (.inl hk)))
  ·exact hn (aR b (.inl (.inr hk)))
  ·exact hn (aR b (.inr hk))
 ·rcases sn b hb with h1 | h1
  ·exact .inl h1
  ·exact .inr (Nat.le_trans I.K.size h1)
 ·rcases sn b hb.1 with h1 | h1
  ·exact ncp b hb.2 (.inr h1)
  ·have:=cpl b hb.2;omega
 ·rcases hb with rfl | rfl | hb
  ·exact I.O _ (.inl (.inl rfl))
  ·exact I.O _ (.inl (.inr (.inl rfl)))
  ·rcases fn b (.inl (.inr (.inr hb))) with (hk | hk | hk | ⟨i,hk⟩) | hk
   ·exact I.O _ (.inl hk)
   ·exact I.O _ (.inr hk)
   ·exfalso;obtain ⟨_,c1,T1,h1,h2⟩:=L'.aX (.inr (.inr hb));obtain ⟨cs,hs,_⟩:=T';obtain ⟨hl,c',hc'⟩:=hs.own hk;refine h1.ne hc' ?_ rfl;rcases h2 with rfl | rfl | rfl <;> decide
   ·exfalso;obtain ⟨_,c1,T1,h1,h2⟩:=L'.aX (.inr (.inr hb));obtain ⟨c',hc'⟩:=hF' i b hk;refine h1.ne hc' ?_ rfl;rcases h2 with rfl | rfl | rfl <;> decide
   ·exact Nat.le_trans I.K.size hk
theorem g7.back {cp:Nat} {is:List Bool} {regs wait:List (Int × Int)} {rgv wv cr cw:Value} (C:g7 w h W lb ib cb cp is regs wait nv rgv wv cr cw h.fv W.T wr) (H:aJ w h W) :
  aL w h ((wr.setCell ⟨h.p,2,none⟩ cr).setCell ⟨h.p,3,none⟩ cw) W:=by
 have K:=((aa.refl (·=h.p) wr).setCell (p:=⟨h.p,2,none⟩) (.inl rfl) cr).setCell (p:=⟨h.p,3,none⟩) (.inl rfl) cw;have ne:∀ {b:Nat} {c:List Value} {T:TypeId},ah wr b c T→T≠146→¬ b=h.p:=fun hb hT e=>hb.ne C.S.hp hT e;have hp2:ah ((wr.setCell ⟨h.p,2,none⟩ cr).setCell ⟨h.p,3,none⟩ cw) h.p [h.tv,h.rv,cr,cw, .int .i64 W.aI, .int .i64 W.aY, .int .i64 W.most, .int .i64 W.grow] 146:=by
  simpa [bZ.gx] using (C.S.hp.aF 2 cr).aF 3 cw
 have cn:∀ b,ag cr b∨ag cw b→w.heap.size≤b:=fun b hb=>C.cn b (.inr hb);refine ⟨⟨h.p,h.tv,h.rv,cr,cw,h.fv⟩,⟨hp2,C.T.ae K (fun b hb=>?_) (fun i b hb=>?_),C.R.ae K (fun b hb=>?_),C.C.hr.ae K (fun b hb=>?_),C.C.hw.ae K (fun b hb=>?_),C.C.ap,fun i b hb=>?_,H.fi,H.fl,H.ok⟩,rfl,C.K.trans (K.mono (fun b _ e=>e ▸ .inl rfl)),fun b hb=>?_⟩
 ·obtain ⟨cs,hs,_⟩:=C.T;obtain ⟨_,c,hc⟩:=hs.own hb;exact ne hc (by decide)
 ·obtain ⟨c,hc⟩:=C.F i b hb;exact ne hc (by decide)
 ·obtain ⟨_,c,hc⟩:=C.R.own hb;exact ne hc (by decide)
 ·obtain ⟨_,c,hc⟩:=C.C.hr.own hb;exact ne hc (by decide)
 ·obtain ⟨_,c,hc⟩:=C.C.hw.own hb;exact ne hc (by decide)
 ·obtain ⟨h1,_,h3⟩:=H.af i b hb;obtain ⟨c,hc⟩:=C.F i b hb;exact ⟨Nat.lt_of_lt_of_le hc.lt K.size,⟨c,K.ai hc (ne hc (by decide))⟩,h3⟩
 ·rcases hb with hb | hb | hb | hb | hb | hb
  ·exact .inl (.inl hb)
  ·exact .inl (.inr (.inl hb))
  ·exact .inl (.inr (.inr (.inl hb)))
  ·exact .inr (cn b (.inl hb))
  ·exact .inr (cn b (.inr hb))
  ·exact .inl (.inr (.inr (.inr (.inr (.inr hb)))))
theorem g7.settled {cp:Nat} {is:List Bool} {regs wait:List (Int × Int)} {rgv wv cr cw:Value} {tx:Nat→Value} {i:Nat} (C:g7 w h W lb ib cb cp is regs wait nv rgv wv cr cw tx (cJ is W.T i) wr) (H:aJ w h W)
  (hi:i<W.T.length) (T:pd wr h.tv tx (cJ is W.T i) is i w') (hc:gI is i (W.T.getD i Th.none)=cj is i (W.T.getD i Th.none)) :
  ∃ tx',g7 w h W lb ib cb cp is regs wait nv rgv wv cr cw tx' (cJ is W.T (i+1)) w'∧∀ j k,ag (tx' j) k→ag (tx j) k∧(j=i→is.getD i false=true):=by
 obtain ⟨tx',T',K',F',e'⟩:=T;have eg:(cJ is W.T i).getD i Th.none=W.T.getD i Th.none:=by
  rw [Ld,Ld,Le (by rw [cN];exact hi),Le hi,jV _ _ hi]
 have e2:W.T.getD i Th.none=W.T[i]:=by rw [Ld,Le hi];rfl
 rw [eg,hc,e2,lj _ _ hi] at T';have tl:∀ b,ag h.tv b→∃ c,ah wr b c 188:=fun b hb=>by
  obtain ⟨cs,hs,_⟩:=C.T;obtain ⟨_,c,hc⟩:=hs.own hb;exact ⟨c,hc⟩
 have ne:∀ {b:Nat} {c:List Value} {T:TypeId},ah wr b c T→T≠188→T≠78→¬ (ag h.tv b∨ag (tx i) b):=fun {b c T} hb h1 h2 e=>by
  rcases e with e | e
  ·obtain ⟨c',hc'⟩:=tl b e;exact hb.ne hc' h1 rfl
  ·obtain ⟨c',hc'⟩:=C.F i b e;exact hb.ne hc' h2 rfl
 have tn:∀ b,df lb ib nv b→¬ (ag h.tv b∨ag (tx i) b):=fun b hb=>by
  obtain ⟨_,c,T,h1,h2⟩:=C.L.aX hb;refine ne h1 ?_ ?_
  ·rcases h2 with rfl | rfl | rfl <;> decide
  ·rcases h2 with rfl | rfl | rfl <;> decide
 have sn:∀ b,aU h.p rgv wv b→¬ (ag h.tv b∨ag (tx i) b):=fun b hb=>by
  rcases hb with rfl | hb | hb
  ·exact ne C.S.hp (by decide) (by decide)
  ·obtain ⟨_,c,hc⟩:=C.S.hr.own hb;exact ne hc (by decide) (by decide)
  ·obtain ⟨_,c,hc⟩:=C.S.hw.own hb;exact ne hc (by decide) (by decide)
 have cn:∀ b,aU cp cr cw b→¬ (ag h.tv b∨ag (tx i) b):=fun b hb=>by
  rcases hb with rfl | hb | hb
  ·exact ne C.C.hp (by decide) (by decide)
  ·obtain ⟨_,c,hc⟩:=C.C.hr.own hb;exact ne hc (by decide) (by decide)
  ·obtain ⟨_,c,hc⟩:=C.C.hw.own hb;exact ne hc (by decide) (by decide)
 have own:∀ j k,ag (tx' j) k→ag (tx j) k∧(j=i→is.getD i false=true):=fun j k hk=>by
  rw [e'] at hk;split at hk
  ·rename_i hb;exact ⟨hk,fun _=>hb⟩
  ·dsimp only at hk;split at hk
   ·exact absurd hk (by intro h;cases h)
   ·rename_i hj;exact ⟨hk,fun e=>absurd e hj⟩
 refine ⟨tx',⟨C.L.ae K' tn,K'.ai C.B (ne C.B (by decide) (by decide)),T',F',fun j b hb=>C.fo j b (own j b hb).1,C.S.ae K' sn,C.C.ae K' cn,C.R.ae K' (fun b hb e=>?_),C.K.then K' (fun k hk=>?_),C.sn,C.cn,C.ap,C.ln⟩,own⟩
 ·rcases e with e | e
  ·obtain ⟨c',hc'⟩:=tl b e;obtain ⟨_,c,hc⟩:=C.R.own hb;exact hc.ne hc' (by decide) rfl
  ·exact (H.af i b (C.fo i b e)).2.2 hb
 ·rcases hk with hk | hk
  ·exact .inl (.inr (.inl hk))
  ·exact .inl (.inr (.inr (.inr (.inr (.inr ⟨i,C.fo i k hk⟩)))))
theorem g7.done {cp:Nat} {is:List Bool} {regs wait:List (Int × Int)} {rgv wv cr cw:Value} {tx:Nat→Value} {n:Int} (C:g7 w h W lb ib cb cp is regs wait nv rgv wv cr cw tx (fr is W.T) wr) (H:aJ w h W)
  {W':Wd} (e:W'={ W with T:=fr is W.T,regs:=regs,wait:=wait }) (hok:W'.ok) (hy:W'.aI=0) (ho:W'.aY=n) (hl:∀ (i:Nat) k,ag (tx i) k→W'.live (i:Int)) :
  aL w h ((wr.setCell ⟨h.p,4,none⟩ (.int .i64 0)).setCell ⟨h.p,5,none⟩ (.int .i64 n)) W':=by
 have K:=((aa.refl (·=h.p) wr).setCell (p:=⟨h.p,4,none⟩) (.inl rfl) (.int .i64 0)).setCell (p:=⟨h.p,5,none⟩) (.inl rfl) (.int .i64 n);have ne:∀ {b:Nat} {c:List Value} {T:TypeId},ah wr b c T→T≠146→¬ b=h.p:=fun hb hT e=>hb.ne C.S.hp hT e;have hp2:ah ((wr.setCell ⟨h.p,4,none⟩ (.int .i64 0)).setCell ⟨h.p,5,none⟩ (.int .i64 n)) h.p [h.tv,h.rv,rgv,wv, .int .i64 0, .int .i64 n, .int .i64 W.most, .int .i64 W.grow] 146:=by
  simpa [bZ.gx] using (C.S.hp.aF 4 (.int .i64 0)).aF 5 (.int .i64 n)
 subst e;refine ⟨⟨h.p,h.tv,h.rv,rgv,wv,tx⟩,⟨by rw [hy,ho];exact hp2,C.T.ae K (fun b hb=>?_) (fun i b hb=>?_),C.R.ae K (fun b hb=>?_),C.S.hr.ae K (fun b hb=>?_),C.S.hw.ae K (fun b hb=>?_),C.S.ap,fun i b hb=>?_,fun i j k h1 h2=>H.fi i j k (C.fo i k h1) (C.fo j k h2),hl,hok⟩,rfl,C.K.trans (K.mono (fun b _ e=>e ▸ .inl rfl)),fun b hb=>?_⟩
 ·obtain ⟨cs,hs,_⟩:=C.T;obtain ⟨_,c,hc⟩:=hs.own hb;exact ne hc (by decide)
 ·obtain ⟨c,hc⟩:=C.F i b hb;exact ne hc (by decide)
 ·obtain ⟨_,c,hc⟩:=C.R.own hb;exact ne hc (by decide)
 ·obtain ⟨_,c,hc⟩:=C.S.hr.own hb;exact ne hc (by decide)
 ·obtain ⟨_,c,hc⟩:=C.S.hw.own hb;exact ne hc (by decide)
 ·obtain ⟨c,hc⟩:=C.F i b hb;exact ⟨Nat.lt_of_lt_of_le hc.lt K.size,⟨c,K.ai hc (ne hc (by decide))⟩,(H.af i b (C.fo i b hb)).2.2⟩
 ·rcases hb with hb | hb | hb | hb | hb | ⟨i,hb⟩
  ·exact .inl (.inl hb)
  ·exact .inl (.inr (.inl hb))
  ·exact .inl (.inr (.inr (.inl hb)))
  ·rcases C.sn b (.inr (.inl hb)) with h1 | h1
   ·rcases h1 with h1 | h1 | h1
    ·exact .inl (.inl h1)
    ·exact .inl (.inr (.inr (.inr (.inl h1))))
    ·exact .inl (.inr (.inr (.inr (.inr (.inl h1)))))
   ·exact .inr h1
  ·rcases C.sn b (.inr (.inr hb)) with h1 | h1
   ·rcases h1 with h1 | h1 | h1
    ·exact .inl (.inl h1)
    ·exact .inl (.inr (.inr (.inr (.inl h1))))
    ·exact .inl (.inr (.inr (.inr (.inr (.inl h1)))))
   ·exact .inr h1
  ·exact .inl (.inr (.inr (.inr (.inr (.inr ⟨i,C.fo i b hb⟩)))))
theorem mw {g o n:Nat} {fo:Option Addr} {fc:Nat} (hg:g<w.heap.size) (hc:w.cell? ⟨g,o+1,none⟩=some (.slice fo n fc)) (hn:n≤1000) :
  Calls Try.prog 133 #[.pointer (some ⟨g,o,none⟩)] w fun e w'=>e=.returned (.int .i64 (1+(n:Int)))∧w=w':=by
 go_enter Try.func133,Try.ntmps133;go_wp2_with fail;go_ret;exact ⟨rfl,rfl⟩
theorem fD.copy {cp:Nat} {cr cw:Value} {regs wait:List (Int × Int)} (I:fD w gp lb ib cb nv wr t) (S:ct wr cp cr cw regs wait):∀ b,aU cp cr cw b→¬ (df lb ib nv b∨b=cb):=fun b hb hk=>by
 rcases hk with hk | rfl
 ·obtain ⟨_,c,T,h1,h2⟩:=I.L.aX hk;refine S.j3 h1 ?_ ?_ hb
  ·rcases h2 with rfl | rfl | rfl <;> decide
  ·rcases h2 with rfl | rfl | rfl <;> decide
 ·exact S.j3 I.B (by decide) (by decide) hb
end
end
section
open Go.RowKit
section
variable {w w':World} {h:bZ} {W:Wd}
theorem mx (major:Bool) (H:aJ w h W) (hT:W.T.length≤100000) :
  Calls Try.prog 101 #[.pointer (some ⟨h.p,0,none⟩), .bool major] w fun e w'=>e=.returned (.int .i64 (W.cut major).1)∧aL w h w' (W.cut major).2:=by
 obtain ⟨ib0,hi,hz0,hz1,hz2⟩:=info_parts eD;have hk:=fun (wx:World)=>cB (P:=Try.prog) wx 76 4 ib0 (.bool false) Try.underlying76 hi hz0 rfl hz1 W.T.length (by rw [hz2];omega) (by omega);clear hi hz0 hz1 hz2 ib0;have HK:=Hz hk;clear hk;have HH:=Hz H;have HT:=Hz hT;have hok:=H.ok;have HOK:=Hz hok;have g1:=hok.g1;have g2:=hok.g2;have uo:=hok.uo;have uy:=hok.uy;have m1:=hok.m1;have m2:=hok.m2;have y0:0≤W.aI:=bV _ _;have z0:0≤W.aY:=bV _ _;obtain ⟨p0,p1,-,-,p4,p5,p6,p7⟩:=H.cells;have pl:=H.hp.lt;have HY:=Hz (And.intro y0 z0);clear H hok;go_enter Try.func101,Try.ntmps101;go_upto_region 1 with fail
 obtain ⟨b,hb⟩:∃ b,decide (major=false∧W.aI > W.grow-W.aY)=b:=⟨_,rfl⟩;have HBB:=Hz hb;have hwr:IntKind.i64.wrap (W.grow-W.aY)=W.grow-W.aY:=IntWalk.i64_in _ (by omega);refine cY (fun i=>Nat.blt 12 i && Nat.blt i 31) (fun s wx=>s 30=.bool b∧aa (fun _=>False) w wx) ?_ ?_
 ·intro K0 hK0;cases major
  ·have hb2:decide (W.grow-W.aY<W.aI)=b:=by rw [←hb];simp
   clear hb;refine aq (.free 0 (.free 1 (.free 2 (.free 3 (.free 4 (.free 5 (.free 7 (.free 8 (.free 9 (.free 11 (.free 12 (.free 13 (.pure 6 (.pure 10 (.pure 14 (.free 15 (.free 16 (.free 17 (.fin))))))))))))))))))) [] (fun w'=>w'.cell? ⟨h.p,4,none⟩=some (.int .i64 W.aI)∧w'.cell? ⟨h.p,5,none⟩=some (.int .i64 W.aY)∧w'.cell? ⟨h.p,7,none⟩=some (.int .i64 W.grow)) (by kernel_rfl) (by kernel_rfl) ⟨p4,p5,p7⟩ ?_
   iterate 18 ((first | refine ak rfl rfl fun K hK=>?_ | refine aj rfl rfl fun K hK=>?_ | refine ay rfl rfl fun K hK=>?_ | refine av rfl rfl fun K hK=>?_ | refine ax rfl rfl fun K hK=>?_);go_simp;refine hK _ ?_;clear hK K)
   refine aA ?_;refine hK0 _ _ ?_;refine ⟨by kernel_rfl,?_⟩;exact ⟨rfl,(aa.refl _ _).drew⟩
  ·have hb2:b=false:=by rw [←hb];simp
   subst hb2;clear hb;refine aq (.free 0 (.free 1 (.free 2 (.free 3 (.free 4 (.free 5 (.free 7 (.free 8 (.free 9 (.free 11 (.free 12 (.free 13 (.pure 6 (.pure 10 (.pure 14 (.free 15 (.free 16 (.free 17 (.fin))))))))))))))))))) [] (fun w'=>w'.cell? ⟨h.p,4,none⟩=some (.int .i64 W.aI)∧w'.cell? ⟨h.p,5,none⟩=some (.int .i64 W.aY)∧w'.cell? ⟨h.p,7,none⟩=some (.int .i64 W.grow)) (by kernel_rfl) (by kernel_rfl) ⟨p4,p5,p7⟩ ?_
   iterate 18 ((first | refine ak rfl rfl fun K hK=>?_ | refine aj rfl rfl fun K hK=>?_ | refine ay rfl rfl fun K hK=>?_ | refine av rfl rfl fun K hK=>?_ | refine ax rfl rfl fun K hK=>?_);go_simp;refine hK _ ?_;clear hK K)
   refine aA ?_;refine hK0 _ _ ?_;refine ⟨by kernel_rfl,?_⟩;exact ⟨rfl,(aa.refl _ _).drew⟩
 intro u wx hR;obtain ⟨e30,hkx⟩:=hR;have e30:u 30=.bool b:=e30;simp (maxSteps:=2000000) only [da,overL,List.toList_toArray,Nat.blt,Nat.beq,Nat.ble,Nat.reduceAdd,Bool.or_false,Bool.false_or,Bool.or_true,Bool.true_or,Bool.and_true,Bool.true_and,Bool.and_false,Bool.false_and,cond_true,cond_false];rw [e30];clear e30 p0 p1 p4 p5 p6 p7 pl;rename_i K3 hK3;have H1:=Hz (HH.out.same hkx);have KX:=Hz hkx;clear hkx;cases b
 case true=>
  have HE:=Hz (show W.cut major=(3,W) by unfold Wd.cut;rw [if_pos (by simpa using hb)]);clear hb;go_wp2_with fail;go_ret;rw [HE.out];exact ⟨rfl,aL.aN KX.out (aL.same H1.out (aa.refl _ _))⟩
 have HNC:=Hz (show ¬ (major=false∧W.aI > W.grow-W.aY) by simpa using hb);clear hb;obtain ⟨p0,-⟩:=H1.out.cells;have pl:=H1.out.hp.lt;obtain ⟨no,nc,etv⟩:=H1.out.tv;rw [etv] at p0;have HTV:=Hz etv;have hk:=HK.out;clear etv;go_upto_region 4 with fail
 have C4:=Hz (fD.begin (w:=w) (w1:=wx) (gp:=h.p) W.T.length KX.out);clear hk p0 pl H1 KX hwr;generalize ((wx.alloc (.cells (Array.replicate W.T.length (.bool false)) 4)).alloc (.cells #[.pointer (some ⟨h.p,0,none⟩), .slice (some ⟨wx.heap.size,0,none⟩) W.T.length W.T.length, .slice none 0 0] 197)).alloc (.cells #[.pointer (some ⟨wx.heap.size+1,0,none⟩)] 195)=w4 at *;generalize wx.heap.size=ib at *;have H4:=Hz (C4.out.gJ HH.out);obtain ⟨p0,-⟩:=H4.out.cells;have pl:=H4.out.hp.lt;rw [HTV.out] at p0;go_wp2_with fail;clear p0 pl H4;go_loopw [45] (fun u wr=>∃ (i:Nat) (t:List Bool × List Nat) (nv:Value),i≤W.T.length∧u=.int .i64 i∧fD w h.p (ib+1) ib (ib+1+1) nv wr t∧MI W (X1 W major i) t) (fun u _=>W.T.length-(intOf u).toNat)
 case atStart=>exact ⟨0,_,_,Nat.zero_le _,rfl,C4.out,MI.zero⟩
 case round=>
  clear C4;obtain ⟨i,t,nv,hi,rfl,hC,hM⟩:=hrel;have CR:=Hz hC;have MR:=Hz hM;clear hC hM;have HR:=Hz (CR.out.gJ HH.out);by_cases hlt:i<W.T.length
  ·obtain ⟨gt,ot,ntc,etl,-,hgt,-,hrow⟩:=HR.out.nth hlt;rw [HTV.out] at etl;cases etl;obtain ⟨p0,-⟩:=HR.out.cells;have pl:=HR.out.hp.lt;rw [HTV.out] at p0;rw [←Wd.dy] at hrow;obtain ⟨_,_,c,-,-,t2⟩:=hrow.c;have t3:=hrow.d;have hco:(W.th (i:Int)).dead=false→c=(W.th (i:Int)).aR:=fun hd=>by
    have:=hrow.o hd;rw [t2] at this;cases this;rfl
   have b0:=CR.out.B.cell 0;have bl:=CR.out.B.lt;simp only [Lz] at b0;have HCO:=Hz hco;clear hrow hco;obtain ⟨dd,hdd⟩:∃ d,(W.th (i:Int)).dead=d:=⟨_,rfl⟩;rw [hdd] at t3;have HDD:=Hz hdd;clear hdd;have hii:(i:Int)<W.T.length:=by omega
   go_upto_region 7 with fail;refine cY (fun i=>Nat.blt 46 i && Nat.blt i 71) (fun s wy=>s 70=.bool (c && !dd && !major)∧wy=wr) ?_ ?_
   ·intro K0 hK0;cases c <;> cases dd <;> cases major <;>
    ·go_wp2_with fail;refine ⟨by kernel_rfl,?_⟩;exact ⟨rfl,rfl⟩
   intro u1 wy hR;obtain ⟨e70,rfl⟩:=hR;have e70:u1 70=.bool (c && !dd && !major):=e70;simp (maxSteps:=2000000) only [da,overL,List.toList_toArray,Nat.blt,Nat.beq,Nat.ble,Nat.reduceAdd,Bool.or_false,Bool.false_or,Bool.or_true,Bool.true_or,Bool.and_true,Bool.true_and,Bool.and_false,Bool.false_and,cond_true,cond_false];rw [e70];clear e70 t2 t3 p0 pl hgt;rename_i K4 hK4;obtain ⟨cnd,hcnd⟩:∃ x,(c && !dd && !major)=x:=⟨_,rfl⟩;rw [hcnd];cases cnd
   ·have NX:=Hz (MR.out.aI (n:=i) (fun hx=>by
     rw [HDD.out] at hx;have h1:=HCO.out (by rw [HDD.out];exact hx.2.1);rw [h1,hx.1,hx.2.1,hx.2.2] at hcnd
     cases hcnd))
    clear hcnd b0 bl;go_wp2_with fail;go_roundw
    case rel=>exact ⟨i+1,t,nv,hlt,by go_num,CR.out,NX.out⟩
    case measure=>simp [intOf];omega
   ·simp only [Bool.and_eq_true,Bool.not_eq_true'] at hcnd;have HOD:=Hz (show (W.th (i:Int)).aR=true∧(W.th (i:Int)).dead=false∧major=false from ⟨by rw [←HCO.out (by rw [HDD.out];exact hcnd.1.2)];exact hcnd.1.1,by rw [HDD.out];exact hcnd.1.2,hcnd.2⟩);have NX:=Hz (MR.out.aR hlt HOD.out);have HM:=Hz (jo (3,(i:Int)) CR.out.L (fun _=>⟨by simp,by have:=MR.out.len;dsimp only;omega⟩) (by rw [MR.out.len];exact HT.out) (Nat.le_trans MR.out.gX HT.out));clear hcnd;go_wp2_with fail;refine HM.out.mono ?_;rintro e w5 ⟨rfl,hU⟩;obtain ⟨nv5,c5⟩:=CR.out.to hU;have C5:=Hz c5;clear hU c5 b0 bl;go_wp2_with fail;go_roundw
    case rel=>exact ⟨i+1,_,nv5,hlt,by go_num,C5.out,NX.out⟩
    case measure=>simp [intOf];omega
  ·obtain rfl:i=W.T.length:=by omega
   have M5:=Hz MR.out.sj;obtain ⟨-,p1,-⟩:=HR.out.cells;have pl:=HR.out.hp.lt;obtain ⟨ro,rc,erv,-,-,-⟩:=HR.out.hr.rd;rw [erv] at p1;have HRV:=Hz erv;clear erv;go_wp2_with fail;clear p1 pl HR hlt;go_loopw [81] (fun u wr=>∃ (k:Nat) (t:List Bool × List Nat) (nv:Value),k≤W.roots.length∧u=.int .i64 k∧fD w h.p (ib+1) ib (ib+1+1) nv wr t∧MI W (X2 W major k) t) (fun u _=>W.roots.length-(intOf u).toNat)
   case atStart=>exact ⟨0,_,_,Nat.zero_le _,rfl,CR.out,M5.out⟩
   case round=>
    clear CR MR M5 hi t nv;obtain ⟨k,t,nv,hk,rfl,hC,hM⟩:=hrel;have CR:=Hz hC;have MR:=Hz hM;clear hC hM;have HR:=Hz (CR.out.gJ HH.out);have b0:=CR.out.B.cell 0;have bl:=CR.out.B.lt;simp only [Lz] at b0;have r12:W.roots.length≤12:=by have:=HOK.out.hr;omega
    by_cases hlt:k<W.roots.length
    ·have rd3:Rd wr ro (au W.roots):=by
      have:=HR.out.hr;rw [HRV.out] at this;obtain ⟨_,_,e',rd,-,-⟩:=this.rd;cases e';exact rd
     obtain ⟨gr,orr,rfl,hgr,v0,v1⟩:=rd3.dM k hlt;have NX:=Hz (MR.out.root HOK.out hlt);have hin:W.roots.getD k (0,0) ∈ W.roots:=by rw [Ld,Le hlt];exact List.getElem_mem hlt
     have HV:=Hz (HOK.out.rv _ hin);clear rd3 hin;generalize W.roots.getD k (0,0)=v at *;have hki:(k:Int)<W.roots.length:=by omega
     go_upto_region 13 with (refine aQ rfl 78 (.tmp 83) rfl (by kernel_rfl) gr (orr+k*2) rfl _ _ v0 v1 ?_);have ka:=(Kz wr).alloc (.cells #[.int .i64 v.1, .int .i64 v.2] 78);have BV:=Hz (show ah (wr.alloc (.cells #[.int .i64 v.1, .int .i64 v.2] 78)) wr.heap.size _ 78 from ah.newAt _ rfl rfl);have C5:=Hz (CR.out.same ka);clear ka v0 v1 hgr b0 bl CR HR;generalize wr.alloc (.cells #[.int .i64 v.1, .int .i64 v.2] 78)=wv at *;generalize wr.heap.size=vb at *;have c0:=BV.out.cell 0;have c1:=BV.out.cell 1;have cl:=BV.out.lt;have b0:=C5.out.B.cell 0;have bl:=C5.out.B.lt;simp only [Lz,Ls] at c0 c1 b0;have HM:=Hz (jo v C5.out.L (fun h3=>by have:=Wd.bg HV.out h3;rw [MR.out.len];exact ⟨this.1,this.2.1⟩) (by rw [MR.out.len];exact HT.out) (Nat.le_trans MR.out.gX HT.out));go_wp2_with (refine aQ rfl 78 (.tmp 8) rfl (by kernel_rfl) vb 0 rfl _ _ c0 c1 ?_);refine HM.out.mono ?_;rintro e w5 ⟨rfl,hU⟩;obtain ⟨nv5,c5⟩:=C5.out.to hU;have C6:=Hz c5;have NZ:=Hz (show ∃ (k2:Nat) (t:List Bool × List Nat) (nv:Value),k2≤W.roots.length∧Value.int .i64 ((k:Int)+1)=.int .i64 k2∧fD w h.p (ib+1) ib (ib+1+1) nv w5 t∧MI W (X2 W major k2) t from ⟨k+1,_,nv5,hlt,rfl,C6.out,NX.out⟩);clear hU c5 b0 bl c0 c1 cl;go_wp2_with fail;go_roundw
     case rel=>
      first
      | exact NZ.out
      | ((repeat apply Exists.intro);exact ⟨NZ.out,rfl⟩)
     case measure=>simp [intOf];omega
    ·obtain rfl:k=W.roots.length:=by omega
     have hf:=MR.out.first (Nat.le_refl _)
     have HF:=Hz hf;have HG:=Hz (MR.out.gi (q:=W.wait));have HLN:=Hz MR.out.len;clear hf hlt;go_wp2_with fail;refine (re h.p h.gv h.wv W.regs W.wait _ HR.out.side (by have:=HOK.out.hq;omega) (by have:=HOK.out.hq;omega)).mono ?_;rintro e w6 ⟨cp,cr,cw,rfl,hcs,hck,hcn⟩;have C6:=Hz (CR.out.same hck);have SC6:=Hz hcs;have CN6:=Hz (show ∀ b,aU cp cr cw b→w.heap.size≤b from fun b hb=>Nat.le_trans CR.out.K.size (hcn b hb));have NL6:=Hz (show ∀ b,aU cp cr cw b→∀ c T,ah wr b c T→False from fun b hb c T hc=>by have:=hcn b hb;have:=hc.lt;omega);clear hcs hck hcn b0 bl;have b0:=C6.out.B.cell 0;have bl:=C6.out.B.lt;simp only [Lz] at b0;have H6:=Hz (C6.out.gJ HH.out);go_wp2_with fail;refine (GSpread_c H6.out.sp C6.out.L HOK.out HG.out HOK.out.wv HT.out (by have:=HOK.out.hq;omega)).mono ?_;rintro e w7 ⟨rfl,hU⟩;have SC7:=Hz (show ct w7 cp cr cw W.regs W.wait from by
      obtain ⟨nv',L',k',-⟩:=hU
      exact SC6.out.ae k' (fun b hb hk=>C6.out.copy SC6.out b hb (.inl hk)))
     obtain ⟨nv7,c7⟩:=C6.out.to hU;have C7:=Hz c7;have CL7:=Hz (c7.copy SC7.out);have H7:=Hz (c7.gJ HH.out);clear hU c7 b0 bl SC6 NL6 H6;have b0:=C7.out.B.cell 0;have bl:=C7.out.B.lt;simp only [Lz] at b0;have pl:=H7.out.hp.lt;go_wp2_with fail;refine aq (.free 0 (.free 1 (.free 2 (.free 5 (.pure 3 (.free 4 (.free 6 (.run 7 (.swi [] (.fin)))))))))) [7] (fun w'=>w'.cell? ⟨ib+1+1,0,none⟩=some (.pointer (some ⟨ib+1,0,none⟩))) (by kernel_rfl) (by kernel_rfl) b0 ?_
     iterate 7 ((first | refine ak rfl rfl fun K hK=>?_ | refine aj rfl rfl fun K hK=>?_ | refine ay rfl rfl fun K hK=>?_ | refine av rfl rfl fun K hK=>?_ | refine ax rfl rfl fun K hK=>?_);go_simp;refine hK _ ?_;clear hK K)
     refine aG rfl rfl rfl (fun K hK=>?_);unfold aM;go_simp;have kd:=(Kz w7).drew;have C8:=Hz (C7.out.same kd);have SC8:=Hz (SC7.out.ae kd (fun _ _ h=>h));have H8:=Hz (H7.out.same kd);have J8:=Hz (show GJ (h.gx W) h.p (ib+1) ib (ib+1+1) h.fv W w7.drew (W.bQ W.wait t.1) _ from ⟨nv7,C8.out.L,C8.out.B,H8.out.ht,fun i b hb=>(H8.out.af i b hb).2.1,gH.bQ HOK.out HOK.out.wv HLN.out MR.out.lv,rfl⟩);refine (oM h.p (jS (h.gx W) h.p (ib+1) ib (ib+1+1) h.fv W HOK.out HT.out) (W.bQ W.wait t.1) _ h.gv h.wv W.regs W.wait _ J8.out H8.out.side (J8.out.apart H8.out.side) (by have:=HOK.out.hq;omega) (by have:=HOK.out.hq;omega)
      (fun e he=>⟨⟨(HOK.out.gv e he).1,(HOK.out.gv e he).2.2⟩,HOK.out.gv e he⟩) (fun e he=>⟨⟨(HOK.out.wv e he).1,(HOK.out.wv e he).2.2⟩,HOK.out.wv e he⟩)).mono ?_
     rintro e w8 ⟨rfl,F',rgv,wv,hJ',hS',-,hk',hF',hs'⟩;have PE:ev (jS (h.gx W) h.p (ib+1) ib (ib+1+1) h.fv W HOK.out HT.out).alive (jS (h.gx W) h.p (ib+1) ib (ib+1+1) h.fv W HOK.out HT.out).ae (W.bQ W.wait t.1) W.regs W.wait=W.pass major:=by rw [HF.out];rfl
     rw [PE] at hJ' hS';obtain ⟨nv9,c9⟩:=g7.begin HH.out C8.out SC8.out CN6.out CL7.out hJ' hS' hk' hF' hs';have C9:=Hz (show g7 w h W (ib+1) ib (ib+1+1) cp (W.pass major).1 (bz az cH (W.pass major).1 (W.pass major).2.2) (bA az cH (W.pass major).1 (W.pass major).2.1) nv9 rgv wv cr cw h.fv W.T w8 from c9);clear PE hJ' hS' hk' hF' hs' c9 kd b0 bl pl C7 SC7 H7 C8 SC8 H8 J8 CL7 CN6 C6 CR MR HR HF HG HLN HRV;refine hK _ _ ?_;clear hK K;refine aE (fun _=>True) trivial (aA ?_);have PM:=Hz (Wd.gj HOK.out major);have HLV:=Hz (show ∀ i,az (W.pass major).1 i=true→W.live i from PM.out.1.live);have HPL:=Hz PM.out.1.len;have SK:=Hz (g6 HOK.out HLV.out);have CUT:=Hz (show W.cut major=if eR (W.pass major).1 W.T > W.grow then (3,W) else (0,W.after major) by unfold Wd.cut;rw [if_neg HNC.out]);have AFT:=Hz (show W.after major={ W with T:=fr (W.pass major).1 W.T,regs:=bz az cH (W.pass major).1 (W.pass major).2.2,wait:=bA az cH (W.pass major).1 (W.pass major).2.1 } from rfl);have SHUT:=Hz (show ee W.nd (W.pass major).2.1 fun i=>az (W.pass major).1 i=true from PM.out.1.shut);have AOK:=Hz (show ¬ eR (W.pass major).1 W.T > W.grow→(W.after major).ok∧(W.after major).aI=0∧(W.after major).aY=eR (W.pass major).1 W.T∧(∀ i,(W.after major).live i↔az (W.pass major).1 i=true) from fun hr=>⟨HOK.out.after (by omega),(Wd.fO HOK.out major).1,(Wd.fO HOK.out major).2,fun i=>Wd.fN HOK.out⟩);clear t nv PM;generalize bz az cH (W.pass major).1 (W.pass major).2.2=rg2 at *;generalize bA az cH (W.pass major).1 (W.pass major).2.1=wt2 at *;generalize (W.pass major).2.1=q2 at *;generalize (W.pass major).1=is at *;obtain ⟨p0,-⟩:=(show w8.cell? ⟨h.p,0,none⟩=some h.tv∧True from ⟨C9.out.S.hp.cell 0,trivial⟩);have pl:=C9.out.S.hp.lt;rw [HTV.out] at p0;have HPI:=Hz (show is.length=W.T.length from HPL.out);go_wp2_with fail;go_loopw [10,108] (fun s u wr=>∃ i:Nat,i≤W.T.length∧u=.int .i64 i∧s=.int .i64 (dG is W.T i)∧wr=w8) (fun _ u _=>W.T.length-(intOf u).toNat)
     case atStart=>exact ⟨0,Nat.zero_le _,rfl,by rw [iZ],rfl⟩
     case round=>
      obtain ⟨i,hi,rfl,rfl,rfl⟩:=hrel;by_cases hlt:i<W.T.length
      ·have hT9:=C9.out.T;rw [HTV.out] at hT9;obtain ⟨gt,ot,rfl⟩:∃ g o,no=some ⟨g,o,none⟩:=by
        obtain ⟨cs,hs,_⟩:=hT9;obtain ⟨g',o',_,_,e',-⟩:=hs.laid (by omega);cases e';exact ⟨_,_,rfl⟩
       obtain ⟨hg,-,hrow⟩:=hT9.row hlt;have b0:=C9.out.B.cell 0;have bl:=C9.out.B.lt;have l1:=C9.out.L.hp.cell 1;have ll:=C9.out.L.hp.lt;simp only [Lz,Ls] at b0 l1;have hb:=C9.out.L.bool (i:=i) (by have:=HPI.out;dsimp only;omega);have hbl:=C9.out.L.hi.lt;rw [HPI.out] at l1;have STP:=Hz (iY (is:=is) hlt);have SB:=SK.out i (by omega);have hii:(i:Int)<W.T.length:=by omega
       cases hbv:is.getD i false
       ·have SE:=Hz (show dG is W.T (i+1)=dG is W.T i by rw [STP.out,hbv];simp);dsimp only at hb;rw [hbv] at hb;clear hbv hrow hT9 STP;go_wp2_with fail;go_roundw
        case rel=>exact ⟨i+1,hlt,by go_num,by rw [SE.out],trivial⟩
        case measure=>simp [intOf];omega
       ·have hlv:=HLV.out (i:Int) (by rw [bS];exact hbv);have hded:(W.T.getD i Th.none).dead=false:=by rw [←Wd.dy];exact hlv.2.2
        have SE:=Hz (show dG is W.T (i+1)=dG is W.T i+(1+((W.T.getD i Th.none).fs.length:Int)) by rw [STP.out,hbv];rfl);have hfl:=(bs (HOK.out.tk _ hlv)).2.2.2;rw [Wd.dy] at hfl;have t1:=hrow.f hded;obtain ⟨fo,fc,efv,-,-,-⟩:=(hrow.s hded).rd;rw [efv] at t1;dsimp only at hb;rw [hbv] at hb;have HWD:=Hz (mw hg t1 (by omega));clear hbv hrow hT9 STP hlv hded t1 efv;generalize (W.T.getD i Th.none).fs.length=fl at *;go_wp2_with fail;refine HWD.out.mono ?_;rintro e w9 ⟨rfl,rfl⟩;go_wp2_with fail;go_roundw
        case rel=>exact ⟨i+1,hlt,by go_num,by rw [SE.out],trivial⟩
        case measure=>simp [intOf];omega
      ·obtain rfl:i=W.T.length:=by omega
       have SB:=SK.out W.T.length (Nat.le_refl _);have SA:=Hz (jU is W.T);obtain ⟨sm,hsm⟩:∃ x,dG is W.T W.T.length=x:=⟨_,rfl⟩;rw [hsm] at SB SA;rw [hsm];clear hsm;have p7:wr.cell? ⟨h.p,7,none⟩=some (.int .i64 W.grow):=C9.out.S.hp.cell 7;by_cases hbig:sm > W.grow
       ·have HE:=Hz (show W.cut major=(3,W) by rw [CUT.out,if_pos (by rw [←SA.out];exact hbig)]);have p2:=C9.out.S.hp.cell 2;have p3:=C9.out.S.hp.cell 3;have f2:=C9.out.S.hp.free 2;have f3:=C9.out.S.hp.free 3;have c0:=C9.out.C.hp.cell 0;have c1:=C9.out.C.hp.cell 1;have cl:=C9.out.C.hp.lt;simp only [Lz,Ls] at p2 p3 c0 c1;obtain ⟨cro,crc,ecr,-,-,-⟩:=C9.out.C.hr.rd;obtain ⟨cwo,cwc,ecw,-,-,-⟩:=C9.out.C.hw.rd;rw [ecr] at c0;rw [ecw] at c1;have G9:=Hz (C9.out.back HH.out);rw [ecr,ecw] at G9;clear ecr ecw;go_upto_region 27 with (refine aQ rfl 129 (.tmp 136) rfl (by kernel_rfl) cp 0 rfl _ _ c0 c1 ?_)
        go_wp2_with fail;go_ret;rw [HE.out];exact ⟨rfl,G9.out⟩
       ·have hbig:sm≤W.grow:=by omega
        have AO:=Hz (AOK.out (by rw [←SA.out];omega));have HE:=Hz (show W.cut major=(0,W.after major) by rw [CUT.out,if_neg (by rw [←SA.out];omega)]);have HGS:=Hz (show ∀ i:Nat,i<W.T.length→gI is i (W.T.getD i Th.none)=cj is i (W.T.getD i Th.none) from fun i hi=>by
         unfold gI;cases hb:is.getD i false
         ·rw [nk hb];rfl
         ·have hlv:=HLV.out (i:Int) (by rw [bS];exact hb);have hm:=p9 HOK.out SHUT.out hlv (by rw [bS];exact hb);rw [Int.toNat_natCast,Wd.dy] at hm
          rw [hm,if_pos rfl,←Wd.dy,hlv.2.2])
        have C10:=Hz (show g7 w h W (ib+1) ib (ib+1+1) cp is rg2 wt2 nv9 rgv wv cr cw h.fv (cJ is W.T 0) wr by rw [lh];exact C9.out);go_wp2_with fail;clear p7 p0 pl C9;go_loopw [145] (fun u wy=>∃ (i:Nat) (tx:Nat→Value),i≤W.T.length∧u=.int .i64 i∧g7 w h W (ib+1) ib (ib+1+1) cp is rg2 wt2 nv9 rgv wv cr cw tx (cJ is W.T i) wy∧∀ j k,ag (tx j) k→j<i→is.getD j false=true) (fun u _=>W.T.length-(intOf u).toNat)
        case atStart=>exact ⟨0,h.fv,Nat.zero_le _,rfl,C10.out,fun j k _ hj=>by omega⟩
        case round=>
         clear C10;obtain ⟨i,tx,hi,rfl,hC,hown⟩:=hrel;have CI:=Hz hC;have OW:=Hz hown;clear hC hown;by_cases hlt:i<W.T.length
         ·have b0:=CI.out.B.cell 0;have bl:=CI.out.B.lt;have l1:=CI.out.L.hp.cell 1;have ll:=CI.out.L.hp.lt;simp only [Lz,Ls] at b0 l1;rw [HPI.out] at l1;have eg:=Hz (show (cJ is W.T i).getD i Th.none=W.T.getD i Th.none by
           rw [Ld,Ld,Le (by rw [cN];exact hlt),Le hlt,jV _ _ hlt])
          have HST:=Hz (pe i CI.out.S.hp (show _=some h.tv from rfl) CI.out.T CI.out.F (fun a b k h1 h2=>HH.out.fi a b k (CI.out.fo a k h1) (CI.out.fo b k h2)) CI.out.L.hi (by rw [cN];exact HPI.out) (by rw [cN];exact HT.out) (by rw [cN];exact hlt) (by
           have hlv:is.getD i false=true→W.live (i:Int):=fun hb=>HLV.out (i:Int) (by rw [bS];exact hb);refine ⟨fun hb=>?_,fun hb=>?_,fun hb=>?_,fun hb=>?_⟩
           ·rw [eg.out,←Wd.dy];exact (hlv hb).2.2
           ·rw [eg.out,←Wd.dy,cN];exact fun v hv h3=>by have:=Wd.bg (HOK.out.tv _ (hlv hb) v hv) h3;exact ⟨this.1,this.2.1⟩
           ·rw [eg.out,←Wd.dy];have:=(bs (HOK.out.tk _ (hlv hb))).2.2.2;omega
           ·rw [eg.out,←Wd.dy];intro hk;have:=HOK.out.tk _ (hlv hb);rw [hk] at this;simp [aW] at this
            omega))
          rw [cN] at HST;have hii:(i:Int)<W.T.length:=by omega
          go_wp2_with fail;refine HST.out.mono ?_;rintro e w9 ⟨rfl,hto⟩;obtain ⟨tx',c',o'⟩:=CI.out.settled HH.out hlt hto (HGS.out i hlt);have CN:=Hz c';have ON:=Hz (show ∀ j k,ag (tx' j) k→j<i+1→is.getD j false=true from fun j k hk hj=>by
           have h1:=o' j k hk;by_cases e:j=i
           ·subst e;exact h1.2 rfl
           ·exact OW.out j k h1.1 (by omega))
          clear hto c' o' b0 bl l1 ll;go_wp2_with fail;go_roundw
          case rel=>exact ⟨i+1,tx',hlt,by go_num,CN.out,ON.out⟩
          case measure=>simp [intOf];omega
         ·obtain rfl:i=W.T.length:=by omega
          have CE:=CI.out;rw [mr] at CE;have CE:=Hz CE;have p4:=CE.out.S.hp.cell 4;have p5:=CE.out.S.hp.cell 5;have pl:=CE.out.S.hp.lt;have f4:=CE.out.S.hp.free 4;have f5:=CE.out.S.hp.free 5;simp only [Lz,Ls] at p4 p5;have GE:=Hz (CE.out.done HH.out AFT.out AO.out.1 AO.out.2.1 (AO.out.2.2.1.trans SA.out.symm) (fun i k hk=>by
           have hl:W.live (i:Int):=HH.out.fl i k (CE.out.fo i k hk);rw [AO.out.2.2.2,bS]
           exact OW.out i k hk (by have:=hl.2.1;omega)))
          go_wp2_with fail;go_ret;rw [HE.out];exact ⟨rfl,GE.out⟩
end
end
section
open Go.RowKit
section
variable {w w':World} {h:bZ} {W W':Wd}
theorem aJ.dh (H:aJ w h W) {g o rc:Nat} (hrv:h.rv=.slice (some ⟨g,o,none⟩) W.roots.length rc) {k:Nat} (hk:k<12) {v:Vl} (hv:W.cO v)
  (hs:Sl w' 78 2 (.slice (some ⟨g,o,none⟩) W.roots.length rc) W.roots.length (((au W.roots).set (k*2) (.int .i64 v.1)).set (k*2+1) (.int .i64 v.2))) (K:aa (·=g) w w'):aL w h w' (W.bj k v):=by
 have ho:ag h.rv g:=by rw [hrv];exact rfl
 obtain ⟨_,c,hc⟩:=H.hr.own ho;have ne:∀ {b:Nat} {c':List Value} {T:TypeId},ah w b c' T→T≠78→¬ b=g:=fun hb hT e=>(hb.ne hc hT) e;have hl:(W.bj k v).roots.length=W.roots.length:=by simp [Wd.bj]
 have hset:(W.bj k v).roots=W.roots.set k v:=by simp [Wd.bj]
 refine ⟨h,⟨K.ai H.hp (ne H.hp (by decide)),H.ht.ae K (fun b hb=>?_) (fun i b hb e=>(H.af i b hb).2.2 (e ▸ ho)),?_,H.hg.ae K (fun b hb=>?_),H.hw.ae K (fun b hb=>?_),H.ap,fun i b hb=>?_,H.fi,H.fl,H.ok.bj hv k⟩,rfl,K.mono (fun b _ e=>e ▸ .inr (.inr (.inl ho))),fun b hb=>.inl hb⟩
 ·obtain ⟨cs,hs',_⟩:=H.ht;obtain ⟨_,c',hc'⟩:=hs'.own hb;exact ne hc' (by decide)
 ·rw [hl,hset,dp,hrv];exact hs
 ·obtain ⟨_,c',hc'⟩:=H.hg.own hb;exact ne hc' (by decide)
 ·obtain ⟨_,c',hc'⟩:=H.hw.own hb;exact ne hc' (by decide)
 ·obtain ⟨h1,⟨c',h2⟩,h3⟩:=H.af i b hb;exact ⟨Nat.lt_of_lt_of_le h1 K.size,⟨c',K.ai h2 (fun e=>h3 (e ▸ ho))⟩,h3⟩
theorem aJ.jq (H:aJ w h W) {i g:Nat} {fs:List Vl} (hl:W.live (i:Int)) (hlen:fs.length=(W.th (i:Int)).fs.length) (hv:∀ v ∈ fs,W.cO v) (hg:ag (h.fv i) g)
  (hs:Sl w' 78 2 (h.fv i) fs.length (au fs)) (K:aa (·=g) w w'):aL w h w' (W.bU (i:Int) fs):=by
 obtain ⟨hlt,⟨c,hc⟩,hnr⟩:=H.af i g hg;have ne:∀ {b:Nat} {c':List Value} {T:TypeId},ah w b c' T→T≠78→¬ b=g:=fun hb hT e=>(hb.ne hc hT) e;have hsum:=Wd.l9 (W:=W) hl hlen;have hT:(W.bU (i:Int) fs).T.length=W.T.length:=by simp [Wd.bU]
 obtain ⟨cs,hcs,hrow⟩:=H.ht;refine ⟨h,⟨?_,⟨cs,?_,fun j hj=>?_⟩,H.hr.ae K (fun b hb e=>hnr (e ▸ hb)),H.hg.ae K (fun b hb=>?_),H.hw.ae K (fun b hb=>?_),H.ap,fun j b hb=>?_,H.fi,fun j b hb=>?_,H.ok.bU hl hlen hv⟩,rfl,K.mono (fun b _ e=>e ▸ .inr (.inr (.inr (.inr (.inr ⟨i,hg⟩))))),fun b hb=>.inl hb⟩
 ·rw [hsum.1,hsum.2];exact K.ai H.hp (ne H.hp (by decide))
 ·rw [hT];exact hcs.ae K (fun b hb=>by obtain ⟨_,c',hc'⟩:=hcs.own hb;exact ne hc' (by decide))
 ·rw [hT] at hj;have hr:=hrow j hj;have e0:(W.bU (i:Int) fs).T.getD j Th.none=(W.bU (i:Int) fs).th (j:Int):=(Wd.dy _ j).symm;have e1:W.T.getD j Th.none=W.th (j:Int):=(Wd.dy _ j).symm;rw [e0,Wd.fS (by omega) hl];rw [e1] at hr;by_cases e:(j:Int)=(i:Int)
  ·obtain rfl:j=i:=by omega
   rw [if_pos rfl];exact ⟨hr.d,hr.k,hr.f,hr.o,fun hd=>hs,hr.c⟩
  ·rw [if_neg e];refine ⟨hr.d,hr.k,hr.f,hr.o,fun hd=>(hr.s hd).ae K (fun b hb e2=>e ?_),hr.c⟩;subst e2;have:=H.fi j i _ hb hg;omega
 ·obtain ⟨_,c',hc'⟩:=H.hg.own hb;exact ne hc' (by decide)
 ·obtain ⟨_,c',hc'⟩:=H.hw.own hb;exact ne hc' (by decide)
 ·obtain ⟨h1,⟨c',h2⟩,h3⟩:=H.af j b hb;by_cases e:b=g
  ·subst e;have e3:=H.fi j i _ hb hg;subst e3;obtain ⟨h4,c4,h5⟩:=hs.own hb;exact ⟨h4,⟨c4,h5⟩,h3⟩
  ·exact ⟨Nat.lt_of_lt_of_le h1 K.size,⟨c',K.ai h2 e⟩,h3⟩
 ·rw [Wd.eG hl];exact H.fl j b hb
end
end
section
open Go.RowKit
section
variable {w w':World} {h:bZ} {W:Wd}
theorem aJ.n5 (H:aJ w h W) {r:Nat} {kd:Int} {l:List Vl} {tv fu:Value} {cs:List Value}
  (hp:ah w' h.p [tv,h.rv,h.gv,h.wv, .int .i64 (W.aI+(1+(l.length:Int))), .int .i64 W.aY, .int .i64 W.most, .int .i64 W.grow] 146)
  (hR:∀ i,i<W.T.length→iz w (h.fv i) (W.T.getD i Th.none) cs[i*4]? cs[i*4+1]? cs[i*4+2]? cs[i*4+3]?) (hcl:cs.length=W.T.length*4)
  (hT:Sl w' 188 4 tv (W.T.length+1) (cs ++ [.int .i64 kd,fu, .bool false, .bool false]))
  (hr:Sl w' 78 2 h.rv W.roots.length (((au W.roots).set (r*2) (.int .i64 3)).set (r*2+1) (.int .i64 W.T.length)))
  (hf:Sl w' 78 2 fu l.length (au l)) (hfn:∀ b,ag fu b→w.heap.size≤b)
  (K:aa (fun b=>ag h.rv b∨ag h.tv b∨b=h.p) w w') (hto:∀ b,ag tv b→ag h.tv b∨w.heap.size≤b) (hok:(W.put r kd l).ok):aL w h w' (W.put r kd l):=by
 have nF:∀ i b,ag (h.fv i) b→¬ (ag h.rv b∨ag h.tv b∨b=h.p):=fun i b hb e=>by
  obtain ⟨_,⟨c,hc⟩,h3⟩:=H.af i b hb;rcases e with e | e | e
  ·exact h3 e
  ·obtain ⟨cs',hs',_⟩:=H.ht;obtain ⟨_,c',hc'⟩:=hs'.own e;exact hc.ne hc' (by decide) rfl
  ·exact hc.ne H.hp (by decide) e
 have nE:∀ {v:Value} {n:Nat} {xs:List Value},Sl w 170 2 v n xs→∀ b,ag v b→¬ (ag h.rv b∨ag h.tv b∨b=h.p):=fun hs b hb e=>by
  obtain ⟨_,c,hc⟩:=hs.own hb;rcases e with e | e | e
  ·obtain ⟨_,c',hc'⟩:=H.hr.own e;exact hc.ne hc' (by decide) rfl
  ·obtain ⟨cs',hs',_⟩:=H.ht;obtain ⟨_,c',hc'⟩:=hs'.own e;exact hc.ne hc' (by decide) rfl
  ·exact hc.ne H.hp (by decide) e
 have el:(W.put r kd l).T.length=W.T.length+1:=by simp [Wd.put]
 have er:(W.put r kd l).roots=W.roots.set r (3,(W.T.length:Int)):=by simp [Wd.put,eB]
 have erl:(W.put r kd l).roots.length=W.roots.length:=by rw [er];simp
 have aR:∀ i k,ag (h.fv i) k→i≠W.T.length∧k<w.heap.size:=fun i k hk=>⟨fun e=>by have:=(H.fl i k hk).2.1;omega,(H.af i k hk).1⟩;refine ⟨⟨h.p,tv,h.rv,h.gv,h.wv,fun j=>if j=W.T.length then fu else h.fv j⟩,⟨by rw [Wd.iR,Wd.l8];exact hp,⟨_,by rw [el];exact hT,fun i hi=>?_⟩,by rw [erl,er,dp];exact hr,H.hg.ae K (nE H.hg),H.hw.ae K (nE H.hw),H.ap,fun i b hb=>?_,fun i j k h1 h2=>?_,fun i k hk=>?_,hok⟩,rfl,K.mono (fun b _ e=>?_),fun b hb=>?_⟩
 ·show iz w' (if i=W.T.length then fu else h.fv i) _ _ _ _ _
  have e2:(W.put r kd l).T=W.T ++ [⟨kd,l,false,false⟩]:=rfl;rw [el] at hi;rw [e2];by_cases e:i=W.T.length
  ·subst e;rw [if_pos rfl];have g:∀ j,j<4→(cs ++ [.int .i64 kd,fu, .bool false, .bool false])[W.T.length*4+j]? = [Value.int .i64 kd,fu, .bool false, .bool false][j]? := fun j hj=>by
    rw [List.getElem?_append_right (by omega),hcl];congr 1;omega
   have g0:=g 0 (by decide);rw [Nat.add_zero] at g0;rw [g0,g 1 (by decide),g 2 (by decide),g 3 (by decide)];have et:(W.T ++ [(⟨kd,l,false,false⟩:Th)]).getD W.T.length Th.none=⟨kd,l,false,false⟩:=by
    rw [Ld,List.getElem?_append_right (Nat.le_refl _),Nat.sub_self];rfl
   rw [et];exact ⟨rfl,fun _=>rfl,fun _=>rfl,fun _=>rfl,fun _=>hf,kd,fu,false,rfl,rfl,rfl⟩
  ·rw [if_neg e];have hi':i<W.T.length:=by omega
   have et:(W.T ++ [(⟨kd,l,false,false⟩:Th)]).getD i Th.none=W.T.getD i Th.none:=by
    rw [Ld,List.getElem?_append_left hi',Ld]
   rw [et,List.getElem?_append_left (by omega),List.getElem?_append_left (by omega),List.getElem?_append_left (by omega),List.getElem?_append_left (by omega)];have hr':=hR i hi';exact ⟨hr'.d,hr'.k,hr'.f,hr'.o,fun hd=>(hr'.s hd).ae K (nF i),hr'.c⟩
 ·dsimp only at hb;split at hb
  ·obtain ⟨h1,c,h2⟩:=hf.own hb;exact ⟨h1,⟨c,h2⟩,fun e=>by have:=(H.hr.own e).1;have:=hfn b hb;omega⟩
  ·obtain ⟨h1,⟨c,h2⟩,h3⟩:=H.af i b hb;exact ⟨Nat.lt_of_lt_of_le h1 K.size,⟨c,K.ai h2 (nF i b hb)⟩,h3⟩
 ·dsimp only at h1 h2;split at h1
  ·rename_i e1;split at h2
   ·rename_i e2;omega
   ·have:=(aR j k h2).2;have:=hfn k h1;omega
  ·split at h2
   ·have:=(aR i k h1).2;have:=hfn k h2;omega
   ·exact H.fi i j k h1 h2
 ·dsimp only at hk;split at hk
  ·rename_i e;subst e;exact ⟨by omega,by rw [el];omega,by rw [Wd.fM]⟩
  ·exact Wd.iq (H.fl i k hk)
 ·rcases e with e | e | e
  ·exact .inr (.inr (.inl e))
  ·exact .inr (.inl e)
  ·exact .inl e
 ·rcases hb with hb | hb | hb | hb | hb | ⟨i,hb⟩
  ·exact .inl (.inl hb)
  ·exact (hto b hb).imp (fun h=>.inr (.inl h)) id
  ·exact .inl (.inr (.inr (.inl hb)))
  ·exact .inl (.inr (.inr (.inr (.inl hb))))
  ·exact .inl (.inr (.inr (.inr (.inr (.inl hb)))))
  ·dsimp only at hb;split at hb
   ·exact .inr (hfn b hb)
   ·exact .inl (.inr (.inr (.inr (.inr (.inr ⟨i,hb⟩)))))
theorem rC (n:Int) (H:aJ w h W) (hT:W.T.length≤100000) (h0:0≤n) (h1:n≤100) :
  Calls Try.prog 132 #[.pointer (some ⟨h.p,0,none⟩), .int .i64 n] w fun e w'=>e=.returned (.int .i64 (W.room n).1)∧aL w h w' (W.room n).2:=by
 have hok:=H.ok;have g1:=hok.g1;have g2:=hok.g2;have uo:=hok.uo;have uy:=hok.uy;have m1:=hok.m1;have m2:=hok.m2;have y0:0≤W.aI:=bV _ _;have z0:0≤W.aY:=bV _ _;obtain ⟨-,-,-,-,p4,p5,p6,p7⟩:=H.cells;have pl:=H.hp.lt;have HH:=Hz H;have hw1:IntKind.i64.wrap (W.grow-W.aY)=W.grow-W.aY:=IntWalk.i64_in _ (by omega);have hw2:IntKind.i64.wrap (W.most-W.aI)=W.most-W.aI:=IntWalk.i64_in _ (by omega);clear H hok;go_enter Try.func132,Try.ntmps132;go_wp2_with fail;by_cases hn:n≤W.most-W.aI
 ·have HE:=Hz (show W.room n=(0,W) by unfold Wd.room;rw [if_neg (by omega)]);refine aq (.free 0 (.free 1 (.free 2 (.free 3 (.free 5 (.free 6 (.free 7 (.pure 4 (.pure 8 (.free 9 (.free 10 (.fin)))))))))))) [] (fun w'=>w'.cell? ⟨h.p,4,none⟩=some (.int .i64 W.aI)∧w'.cell? ⟨h.p,6,none⟩=some (.int .i64 W.most)) (by kernel_rfl) (by kernel_rfl) ⟨p4,p6⟩ ?_
  iterate 11 ((first | refine ak rfl rfl fun K hK=>?_ | refine aj rfl rfl fun K hK=>?_ | refine ay rfl rfl fun K hK=>?_ | refine av rfl rfl fun K hK=>?_ | refine ax rfl rfl fun K hK=>?_);go_simp;refine hK _ ?_;clear hK K)
  refine aA ?_;go_wp2_with fail;go_ret;rw [HE.out];exact ⟨rfl,aL.same HH.out (aa.refl _ _).drew⟩
 ·have HE:=Hz (show W.room n=W.cut (decide (W.aI > W.grow-W.aY)) by unfold Wd.room;rw [if_pos (by omega)]);obtain ⟨mj,hmj⟩:∃ b,decide (W.aI > W.grow-W.aY)=b:=⟨_,rfl⟩;rw [hmj] at HE;have hdm:decide (W.grow-W.aY<W.aI)=mj:=by simpa using hmj
  clear hmj;have hn2:W.most-W.aI<n:=by omega
  refine aq (.free 0 (.free 1 (.free 2 (.free 3 (.free 5 (.free 6 (.free 7 (.pure 4 (.pure 8 (.free 9 (.free 10 (.fin)))))))))))) [] (fun w'=>w'.cell? ⟨h.p,4,none⟩=some (.int .i64 W.aI)∧w'.cell? ⟨h.p,6,none⟩=some (.int .i64 W.most)) (by kernel_rfl) (by kernel_rfl) ⟨p4,p6⟩ ?_
  iterate 11 ((first | refine ak rfl rfl fun K hK=>?_ | refine aj rfl rfl fun K hK=>?_ | refine ay rfl rfl fun K hK=>?_ | refine av rfl rfl fun K hK=>?_ | refine ax rfl rfl fun K hK=>?_);go_simp;refine hK _ ?_;clear hK K)
  refine aA ?_;go_wp2_with fail;refine aq (.free 0 (.free 1 (.free 2 (.free 3 (.free 5 (.free 6 (.free 7 (.free 9 (.free 10 (.free 11 (.pure 4 (.pure 8 (.pure 12 (.free 13 (.free 14 (.run 15 (.swi [] (.free 16 (.fin))))))))))))))))))) [15,16] (fun w'=>w'.cell? ⟨h.p,4,none⟩=some (.int .i64 W.aI)∧w'.cell? ⟨h.p,5,none⟩=some (.int .i64 W.aY)∧w'.cell? ⟨h.p,7,none⟩=some (.int .i64 W.grow)) (by kernel_rfl) (by kernel_rfl) ⟨p4,p5,p7⟩ ?_
  iterate 15 ((first | refine ak rfl rfl fun K hK=>?_ | refine aj rfl rfl fun K hK=>?_ | refine ay rfl rfl fun K hK=>?_ | refine av rfl rfl fun K hK=>?_ | refine ax rfl rfl fun K hK=>?_);go_simp;refine hK _ ?_;clear hK K)
  refine aG rfl rfl rfl (fun K hK=>?_);unfold aM;go_simp;refine (mx mj (HH.out.same (((Kz w).drew).drew)) hT).mono ?_;rintro e w2 ⟨rfl,hto⟩;have TO:=Hz (aL.aN (((Kz w).drew).drew) hto);clear hto;refine hK _ _ ?_;clear hK K;refine aE (fun _=>True) trivial ?_
  iterate 1 ((first | refine ak rfl rfl fun K hK=>?_ | refine aj rfl rfl fun K hK=>?_);go_simp;refine hK _ ?_;clear hK K)
  refine aA ?_;go_wp2_with fail;go_ret;rw [HE.out];exact ⟨rfl,TO.out⟩
end
end
section
open Go.RowKit
theorem mQ (k:Int):k=1∨k=2∨k=3∨k=4∨k=5∨k=6∨k=7∨k=8∨k=9∨k=10∨k=11∨k=12∨k=13∨k=14∨k=15∨k=16∨(k<1∨16<k):=by omega
theorem a9 {a b:Int} (h:a=b):(Ending.returned (.int .i64 a))=.returned (.int .i64 b):=by rw [h]
theorem pn (k:Int) (w:World):Calls Try.prog 70 #[.int .i64 k] w fun e w'=>e=.returned (.int .i64 (aH k))∧aa (fun _=>False) w w':=by
 rcases mQ k with rfl | rfl | rfl | rfl | rfl | rfl | rfl | rfl | rfl | rfl | rfl | rfl | rfl | rfl | rfl | rfl | h
 case inr.inr.inr.inr.inr.inr.inr.inr.inr.inr.inr.inr.inr.inr.inr.inr=>
  have HE:=Hz (show aH k=-1 by unfold aH;repeat' (rw [if_neg (by omega)]));have e1:(k == 1)=false:=by simp;omega
  have e2:(k == 2)=false:=by simp;omega
  have e3:(k == 3)=false:=by simp;omega
  have e4:(k == 4)=false:=by simp;omega
  have e5:(k == 5)=false:=by simp;omega
  have e6:(k == 6)=false:=by simp;omega
  have e7:(k == 7)=false:=by simp;omega
  have e8:(k == 8)=false:=by simp;omega
  have e9:(k == 9)=false:=by simp;omega
  have e10:(k == 10)=false:=by simp;omega
  have e11:(k == 11)=false:=by simp;omega
  have e12:(k == 12)=false:=by simp;omega
  have e13:(k == 13)=false:=by simp;omega
  have e14:(k == 14)=false:=by simp;omega
  have e15:(k == 15)=false:=by simp;omega
  have e16:(k == 16)=false:=by simp;omega
  clear h;go_enter Try.func70,Try.ntmps70;go_wp2_with fail;go_ret;exact ⟨a9 HE.out.symm,aa.refl _ _⟩
 all_goals
  go_enter Try.func70,Try.ntmps70;go_wp2_with fail;go_ret;exact ⟨a9 rfl,aa.refl _ _⟩
theorem kn (k:Int):aH k=-1∨aH k=0∨aH k=1∨aH k=3∨aH k=6∨aH k=7:=by
 unfold aH
 repeat' split
 all_goals simp
def St.fF (x:St) (j:Nat):Int:=if j=0 then x.r else if j=1 then x.a else x.b
def dz (u:Int) (j:Nat):Bool:=decide (u/2 ^ j%2=1)
theorem jy {x:St} (h:aH x.k=-1):aP x=2:=by unfold aP;rw [if_pos h]
theorem jz {x:St} (h:aH x.k≠-1) {j:Nat} (hj:j<3) (hb:dz (aH x.k) j=true) (hr:bT (x.fF j)=false):aP x=1:=by
 unfold aP;rw [if_neg h,if_pos];unfold dz at hb;have hb:aH x.k/2 ^ j%2=1:=by simpa using hb
 rcases (by omega:j=0∨j=1∨j=2) with rfl | rfl | rfl
 ·exact .inl ⟨by simpa using hb,hr⟩
 ·exact .inr (.inl ⟨by simpa using hb,hr⟩)
 ·exact .inr (.inr ⟨by simpa using hb,hr⟩)
theorem jA {x:St} (h:aH x.k≠-1) (hb:∀ j,j<3→dz (aH x.k) j=true→bT (x.fF j)=true) :
  aP x=if x.k=1∧¬ (-cL≤x.n∧x.n<cL) then 1 else if x.k=5∧¬ (0≤x.n∧x.n≤12) then 1 else 0:=by
 unfold aP;rw [if_neg h,if_neg];rintro (⟨h1,h2⟩ | ⟨h1,h2⟩ | ⟨h1,h2⟩)
 ·have:=hb 0 (by decide) (by unfold dz;simpa using h1);rw [show x.fF 0=x.r from rfl,h2] at this;cases this
 ·have:=hb 1 (by decide) (by unfold dz;simpa using h1);rw [show x.fF 1=x.a from rfl,h2] at this;cases this
 ·have:=hb 2 (by decide) (by unfold dz;simpa using h1);rw [show x.fF 2=x.b from rfl,h2] at this;cases this
section
variable {w:World} {h:RW} {W:Wd}
theorem aK.root (H:aK w h W) {k:Nat} (hk:k<12):∃ g o rc,h.rv=.slice (some ⟨g,o,none⟩) W.roots.length rc∧g<w.heap.size∧w.cell? ⟨g,o+k*2,none⟩=some (.int .i64 (W.rt k).1)∧w.cell? ⟨g,o+k*2+1,none⟩=some (.int .i64 (W.rt k).2):=by
 obtain ⟨ro,rc,e,rd,-,-⟩:=H.hr.rd;obtain ⟨g,o,rfl,hg,h0,h1⟩:=rd.val k (by rw [H.ok.hr];exact hk);refine ⟨g,o,rc,e,hg,?_,?_⟩
 ·rw [h0];unfold Wd.rt;rw [Int.toNat_natCast]
 ·rw [h1];unfold Wd.rt;rw [Int.toNat_natCast]
theorem gz (k:Nat) (hk:k<12) (H:aK w h W) :
  Calls Try.prog 105 #[.pointer (some ⟨h.p,0,none⟩), .int .i64 k] w fun e w'=>e=.returned (.int .i64 (W.aw k))∧aa (fun _=>False) w w':=by
 obtain ⟨g,o,rc,e,hg,r0,r1⟩:=H.root hk;have hrl:W.roots.length=12:=H.ok.hr;obtain ⟨-,c1,-,-,-,-⟩:=H.cells;have pl:=H.hp.lt;rw [e,hrl] at c1;have hth:W.aw k=if (W.rt k).1=3 then (W.rt k).2 else -1:=rfl;clear H e hrl;generalize W.rt k=v at *;obtain ⟨v1,v2⟩:=v;dsimp only at r0 r1 hth;have HT:=Hz hth;clear hth;by_cases h3:v1=3
 ·subst h3;go_enter Try.func105,Try.ntmps105;go_wp2_with fail;go_ret;exact ⟨a9 (by rw [HT.out];simp),aa.refl _ _⟩
 ·have hb:(v1 != 3)=true:=by simpa using h3
  have H3:=Hz h3;clear h3;go_enter Try.func105,Try.ntmps105;go_wp2_with fail;go_ret;exact ⟨a9 (by rw [HT.out];simp [H3.out]),aa.refl _ _⟩
theorem aK.nth (H:aK w h W) {i:Int} (hi:W.live i):∃ m:Nat,i=m∧∃ g o nc ao cap,h.tv=.slice (some ⟨g,o,none⟩) W.T.length nc∧m<W.T.length∧g<w.heap.size∧w.cell? ⟨g,o+m*4,none⟩=some (.int .i64 (W.th i).k) ∧
  w.cell? ⟨g,o+m*4+1,none⟩=some (.slice ao (W.th i).fs.length cap)∧Rd w ao (au (W.th i).fs)∧ag h.tv g:=by
 obtain ⟨h0,h1,-⟩:=hi;obtain ⟨m,rfl⟩:∃ m:Nat,i=m:=⟨i.toNat,by omega⟩;obtain ⟨no,nc,e,N⟩:=H.ht.nth;obtain ⟨g,o,ao,cap,rfl,hog,hg,t0,t1,-,-,hrd,-,-⟩:=N m (by omega);refine ⟨m,rfl,g,o,nc,ao,cap,e,by omega,hg,?_,?_,?_,by first | exact hog | (rw [e];exact hog)⟩
 ·rw [t0];unfold Wd.th;rw [Int.toNat_natCast]
 ·rw [t1];unfold Wd.th;rw [Int.toNat_natCast]
 ·unfold Wd.th;rw [Int.toNat_natCast];exact hrd
theorem my (k:Nat) (hk:k<12) (H:aK w h W) :
  Calls Try.prog 106 #[.pointer (some ⟨h.p,0,none⟩), .int .i64 k] w fun e w'=>e=.returned (.int .i64 (W.guard k))∧aa (fun _=>False) w w':=by
 have HH:=Hz H;have hth:=gz k hk H;have hgd:W.guard k=if W.aw k<0∨(W.th (W.aw k)).k≠5 then -1 else W.aw k:=rfl;have htl:=Wd.bI (W:=W) (k:=k) H.ok;generalize W.aw k=i at *;have HGD:=Hz hgd;have HTL:=Hz (fun (hn:0≤i)=>htl (by omega));have HTH:=Hz hth;clear hgd htl hth H;go_enter Try.func106,Try.ntmps106;go_wp2_with fail;refine HTH.out.mono ?_;rintro e w1 ⟨rfl,hk1⟩;have H1:=Hz (HH.out.same hk1);have K1:=Hz hk1;clear hk1 HTH;by_cases hi:i<0
 ·have hd:decide (i<0)=true:=by simpa using hi
  have HE:=Hz (show W.guard k=-1 by rw [HGD.out,if_pos (.inl hi)]);clear hi;go_wp2_with fail;go_ret;exact ⟨a9 HE.out.symm,K1.out⟩
 ·have hd:decide (i<0)=false:=by simpa using hi
  obtain ⟨m,rfl,g,o,nc,ao,cap,e,hm,hg,t0,-,-,-⟩:=H1.out.nth (HTL.out (by omega));obtain ⟨c0,-,-,-,-,-⟩:=H1.out.cells;have pl:=H1.out.hp.lt;rw [e] at c0;clear e hi;by_cases h5:(W.th m).k=5
  ·have HE:=Hz (show W.guard k=m by rw [HGD.out,if_neg (by rw [h5];simp)]);rw [h5] at t0;clear h5;go_wp2_with fail;go_ret;exact ⟨a9 HE.out.symm,K1.out⟩
  ·have HE:=Hz (show W.guard k=-1 by rw [HGD.out,if_pos (.inr h5)]);have hb:((W.th m).k != 5)=true:=by simpa using h5
   clear h5;generalize (W.th m).k=q at *;go_wp2_with fail;go_ret;exact ⟨a9 HE.out.symm,K1.out⟩
end
end
section
open Go.RowKit
section
variable {w:World} {h:RW} {W:Wd}
theorem aK.dh {w':World} (H:aK w h W) {g o rc:Nat} (hrv:h.rv=.slice (some ⟨g,o,none⟩) W.roots.length rc) {k:Nat} (hk:k<12) {v:Vl} (hv:W.cO v)
  (hs:Sl w' 78 2 (.slice (some ⟨g,o,none⟩) W.roots.length rc) W.roots.length (((au W.roots).set (k*2) (.int .i64 v.1)).set (k*2+1) (.int .i64 v.2))) (K:aa (·=g) w w'):aC w h w' (W.bj k v):=by
 have ho:ag h.rv g:=by rw [hrv];exact rfl
 obtain ⟨_,c,hc⟩:=H.hr.own ho;have ne:∀ {b:Nat} {c':List Value} {T:TypeId},ah w b c' T→T≠78→¬ b=g:=fun hb hT e=>(hb.ne hc hT) e;have hl:(W.bj k v).roots.length=W.roots.length:=by simp [Wd.bj]
 have hset:(W.bj k v).roots=W.roots.set k v:=by simp [Wd.bj]
 refine ⟨h,⟨K.ai H.hp (ne H.hp (by decide)),H.ht.ae K (fun b hb _ e=>(H.af b hb).2.2 (e ▸ ho)) (fun b hb=>?_),?_,H.hg.ae K (fun b hb=>?_),H.hw.ae K (fun b hb=>?_),H.ap,fun b hb=>?_,H.ok.bj hv k⟩,rfl,K.mono (fun b _ e=>e ▸ .inr (.inr (.inl ho))),fun b hb=>.inl hb⟩
 ·obtain ⟨cs,hs',_⟩:=H.ht;obtain ⟨_,c',hc'⟩:=hs'.own hb;exact ne hc' (by decide)
 ·rw [hl,hset,dp,hrv];exact hs
 ·obtain ⟨_,c',hc'⟩:=H.hg.own hb;exact ne hc' (by decide)
 ·obtain ⟨_,c',hc'⟩:=H.hw.own hb;exact ne hc' (by decide)
 ·obtain ⟨h1,⟨c',h2⟩,h3⟩:=H.af b hb;exact ⟨Nat.lt_of_lt_of_le h1 K.size,⟨c',K.ai h2 (fun e=>h3 (e ▸ ho))⟩,h3⟩
end
theorem aD (k:Int):bT k=true↔0≤k∧k<12:=by simp [bT]
def Sound (x:St) (j:Nat):Prop:=∀ i,i<j→dz (aH x.k) i=true→bT (x.fF i)=true
theorem Sound.next {x:St} {j:Nat} (h:Sound x j) (hb:dz (aH x.k) j=true→bT (x.fF j)=true):Sound x (j+1):=fun i hi h1=>by
 rcases Nat.lt_or_eq_of_le (Nat.le_of_lt_succ hi) with h2 | rfl
 ·exact h i h2 h1
 ·exact hb h1
theorem bh (x:St) (w:World):Calls Try.prog 102 #[.agg #[.int .i64 x.k, .int .i64 x.r, .int .i64 x.a, .int .i64 x.b, .int .i64 x.i, .int .i64 x.n]] w fun e w'=>e=.returned (.int .i64 (aP x))∧aa (fun _=>False) w w':=by
 have HU:=Hz (fun w=>pn x.k w);have HN:=Hz (fun h=>jy (x:=x) h);have HR:=Hz (fun j (h1:aH x.k≠-1) (h2:j<3) (h3:dz (aH x.k) j=true) h4=>jz (x:=x) (j:=j) h1 h2 h3 h4);have HX:=Hz (fun h (h2:Sound x 3)=>jA (x:=x) h h2);have S0:=Hz (show Sound x 0 from fun i hi=>by omega);have SN:=Hz (fun j=>@Sound.next x j);have hv:=kn x.k;have B1:ah (w.alloc (.cells #[.int .i64 x.k, .int .i64 x.r, .int .i64 x.a, .int .i64 x.b, .int .i64 x.i, .int .i64 x.n] 98)) w.heap.size [.int .i64 x.k, .int .i64 x.r, .int .i64 x.a, .int .i64 x.b, .int .i64 x.i, .int .i64 x.n] 98:=ah.newAt _ rfl rfl;have K1:=Hz ((Kz w).alloc (.cells #[.int .i64 x.k, .int .i64 x.r, .int .i64 x.a, .int .i64 x.b, .int .i64 x.i, .int .i64 x.n] 98));have HB:=Hz B1;clear B1;obtain ⟨xk,xr,xa,xb,xi,xn⟩:=x;dsimp only at hv;generalize hu:aH xk=u at hv;have hU:=Hz hu;dsimp only at HU;rw [hu] at HU;go_enter Try.func102,Try.ntmps102;go_wp2_with fail;refine (HU.out _).mono ?_;rintro e w1 ⟨rfl,hk⟩;have HB1:=Hz (hk.ai HB.out (fun h=>h));have K2:=Hz (K1.out.trans hk);clear hk HU hu;generalize w.heap.size=p at *;have p0:=HB1.out.cell 0;have p1:=HB1.out.cell 1;have p2:=HB1.out.cell 2;have p3:=HB1.out.cell 3;have p4:=HB1.out.cell 4;have p5:=HB1.out.cell 5;have pl:=HB1.out.lt;simp only [Lz,Ls] at p0 p1 p2 p3 p4 p5;by_cases hneg:u=-1
 ·have HE:=Hz (HN.out (hU.out.trans hneg));subst hneg;clear hv;go_wp2_with fail;go_ret;exact ⟨a9 HE.out.symm,K2.out⟩
 ·have hnn:aH xk≠-1:=by rw [hU.out];exact hneg
  have HNN:=Hz hnn;have hd:decide (u<0)=false:=by simp;omega
  clear hnn;go_upto_region 5 with (fail)
  generalize hw2:w1.alloc (.cells #[.int .i64 xr, .int .i64 xa, .int .i64 xb] 3)=w2;have K3:=Hz (show aa (fun _=>False) w w2 by rw [←hw2];exact K2.out.alloc _);have HB2:=Hz (show ah w2 p _ _ by rw [←hw2];exact HB1.out.alloc _);have HL:=Hz (show ah w2 w1.heap.size [.int .i64 xr, .int .i64 xa, .int .i64 xb] 3 by rw [←hw2];exact ah.newAt _ rfl rfl);clear p0 p1 p2 p3 p4 p5 pl HB1 K2 hw2;generalize w1.heap.size=q at *;have p0:=HB2.out.cell 0;have p5:=HB2.out.cell 5;have pl:=HB2.out.lt;have q0:=HL.out.cell 0;have q1:=HL.out.cell 1;have q2:=HL.out.cell 2;have ql:=HL.out.lt;simp only [Lz,Ls] at p0 p5 q0 q1 q2;go_wp2_with fail;go_loopw [5] (fun j wr=>∃ i:Nat,i≤3∧j=.int .i64 i∧wr=w2∧Hid (Sound ⟨xk,xr,xa,xb,xi,xn⟩ i)) (fun j _=>3-(intOf j).toNat)
  case atStart=>exact ⟨0,by omega,rfl,rfl,S0⟩
  case round=>
   obtain ⟨j,hj,rfl,rfl,hS⟩:=hrel;clear S0;rcases (by omega:j=3∨j=0∨j=1∨j=2) with rfl | hj'
   ·have HX2:=Hz (HX.out HNN.out hS.out);clear HX HN HR SN hS hU HNN hv hd;by_cases k1:xk=1
    ·subst k1;by_cases n1:xn≥1152921504606846976
     ·have HE:=Hz (show aP ⟨1,xr,xa,xb,xi,xn⟩=1 by rw [HX2.out,if_pos ⟨rfl,fun h=>by unfold cL at h;omega⟩]);have d1:decide (xn≥1152921504606846976)=true:=by simpa using n1
      clear n1 HX2;go_wp2_with fail;go_ret;exact ⟨a9 HE.out.symm,K3.out⟩
     ·have d1:decide (xn≥1152921504606846976)=false:=by simpa using n1
      by_cases n2:xn < -1152921504606846976
      ·have HE:=Hz (show aP ⟨1,xr,xa,xb,xi,xn⟩=1 by rw [HX2.out,if_pos ⟨rfl,fun h=>by unfold cL at h;omega⟩]);have d2:decide (xn < -1152921504606846976)=true:=by simpa using n2
       clear n1 n2 HX2;go_wp2_with fail;go_ret;exact ⟨a9 HE.out.symm,K3.out⟩
      ·have HE:=Hz (show aP ⟨1,xr,xa,xb,xi,xn⟩=0 by rw [HX2.out,if_neg (fun h=>h.2 (by unfold cL;omega)),if_neg (fun h=>by omega)]);have d2:decide (xn < -1152921504606846976)=false:=by simpa using n2
       clear n1 n2 HX2;go_wp2_with fail;go_ret;exact ⟨a9 HE.out.symm,K3.out⟩
    ·have e1:(xk == 1)=false:=by simpa using k1
     by_cases k5:xk=5
     ·subst k5;by_cases n1:xn<0
      ·have HE:=Hz (show aP ⟨5,xr,xa,xb,xi,xn⟩=1 by rw [HX2.out,if_neg (fun h=>by omega),if_pos ⟨rfl,fun h=>by omega⟩]);have d1:decide (xn<0)=true:=by simpa using n1
       clear n1 HX2 k1;go_wp2_with fail;go_ret;exact ⟨a9 HE.out.symm,K3.out⟩
      ·have d1:decide (xn<0)=false:=by simpa using n1
       by_cases n2:xn > 12
       ·have HE:=Hz (show aP ⟨5,xr,xa,xb,xi,xn⟩=1 by rw [HX2.out,if_neg (fun h=>by omega),if_pos ⟨rfl,fun h=>by omega⟩]);have d2:decide (12<xn)=true:=by simpa using n2
        clear n1 n2 HX2 k1;go_wp2_with fail;go_ret;exact ⟨a9 HE.out.symm,K3.out⟩
       ·have HE:=Hz (show aP ⟨5,xr,xa,xb,xi,xn⟩=0 by rw [HX2.out,if_neg (fun h=>by omega),if_neg (fun h=>h.2 (by omega))]);have d2:decide (12<xn)=false:=by simpa using n2
        clear n1 n2 HX2 k1;go_wp2_with fail;go_ret;exact ⟨a9 HE.out.symm,K3.out⟩
     ·have e5:(xk == 5)=false:=by simpa using k5
      have HE:=Hz (show aP ⟨xk,xr,xa,xb,xi,xn⟩=0 by rw [HX2.out,if_neg (fun h=>k1 h.1),if_neg (fun h=>k5 h.1)]);clear k1 k5 HX2;go_wp2_with fail;go_ret;exact ⟨a9 HE.out.symm,K3.out⟩
   ·have HB2:=Hz (fun hb=>(HR.out j HNN.out (by omega) hb));have HNX:=Hz (fun h=>(SN.out j hS.out h));clear HX HN HR SN hS HNN;cases hub:dz u j
    ·have HSN:=Hz (HNX.out (fun h=>by rw [hU.out,hub] at h;cases h));clear HNX HB2 hU;rcases hv with rfl | rfl | rfl | rfl | rfl | rfl <;> rcases hj' with rfl | rfl | rfl <;> first | (exfalso;revert hub;decide) | (exfalso;exact hneg rfl) | skip
     all_goals
      clear hub hneg;go_wp2_with fail;go_roundw
      case rel=>exact ⟨_,by decide,by first | rfl | go_num,by first | rfl | trivial,HSN⟩
      case measure=>simp [intOf]
    ·have HNX2:=Hz (fun h=>HNX.out (fun _=>h));have HBB:=Hz (HB2.out (by rw [hU.out];exact hub));clear HNX HB2 hU;cases hro:bT (St.fF ⟨xk,xr,xa,xb,xi,xn⟩ j)
     ·have HE:=Hz (HBB.out hro);clear HBB HNX2;have hlim:St.fF ⟨xk,xr,xa,xb,xi,xn⟩ j<0∨12≤St.fF ⟨xk,xr,xa,xb,xi,xn⟩ j:=by
       unfold bT at hro;simp at hro;omega
      clear hro;rcases hv with rfl | rfl | rfl | rfl | rfl | rfl <;> rcases hj' with rfl | rfl | rfl <;> first | (exfalso;revert hub;decide) | (exfalso;exact hneg rfl) | skip
      all_goals
       clear hub hneg;simp [St.fF] at hlim;rcases hlim with hlim | hlim
       ·have d1:=decide_eq_true hlim;clear hlim;go_wp2_with fail;go_ret;exact ⟨a9 HE.out.symm,K3.out⟩
       ·have d1:decide (_<(0:Int))=false:=decide_eq_false (Int.not_lt.2 (Int.le_trans (by decide) hlim));have d2:=decide_eq_true hlim;clear hlim;go_wp2_with fail;go_ret;exact ⟨a9 HE.out.symm,K3.out⟩
     ·have HSN:=Hz (HNX2.out hro);clear HBB HNX2;have hlim:0≤St.fF ⟨xk,xr,xa,xb,xi,xn⟩ j∧St.fF ⟨xk,xr,xa,xb,xi,xn⟩ j<12:=(aD _).1 hro;clear hro;rcases hv with rfl | rfl | rfl | rfl | rfl | rfl <;> rcases hj' with rfl | rfl | rfl <;> first | (exfalso;revert hub;decide) | (exfalso;exact hneg rfl) | skip
      all_goals
       clear hub hneg;simp [St.fF] at hlim;obtain ⟨l1,l2⟩:=hlim;have d1:decide (_<(0:Int))=false:=decide_eq_false (Int.not_lt.2 l1);have d2:decide ((12:Int)≤_)=false:=decide_eq_false (Int.not_le.2 l2);clear l1 l2;go_wp2_with fail;go_roundw
       case rel=>exact ⟨_,by decide,by first | rfl | go_num,by first | rfl | trivial,HSN⟩
       case measure=>simp [intOf]
end
section
open Go.RowKit
def qg (w w':World) (W:Wd) (e:Ending):Prop:=∃ h:RW,e=.returned (.pointer (some ⟨h.p,0,none⟩))∧aK w' h W∧aa (fun _=>False) w w'∧∀ k,h.Own k→w.heap.size≤k
theorem po:madeCells (Value.agg #[Value.int .i64 0,Value.int .i64 0]).cells 24=(au (List.replicate 12 (0,0))).toArray:=by kernel_rfl
theorem mR (n o:Int) (h1:16≤n) (h2:n≤256) (h3:0≤o) (h4:o≤1024) (w:World) :
  Calls Try.prog 58 #[.int .i64 n, .int .i64 o] w fun e w'=>qg w w' (Wd.new n o) e:=by
 obtain ⟨i,hi,hz0,hz1,hz2⟩:=bB du;obtain ⟨A,hA⟩:∃ A:Array Value,A=(au (List.replicate 12 (0,0))).toArray:=⟨_,rfl⟩;have hmk:(Instr.makeSlice 69 (.int .i64 12) (.int .i64 12)).run Try.prog w=.ok (.slice (some ⟨w.heap.size,0,none⟩) 12 12) (w.alloc (.cells A 78)):=by
  have:=run_make (P:=Try.prog) w 69 78 i _ Try.underlying69 hi hz0 .i64 .i64 12 12 (by decide) (by decide) (by rw [hz2];decide) (by decide);rw [this,hz1,hA,←po]
  rfl
 have HA:=Hz hA;clear hA;have HOK:=Hz (Wd.fW h1 h2 h3 h4);clear hi hz0 hz1 hz2;go_enter Try.func58,Try.ntmps58;go_wp2_with fail;go_ret;generalize hw1:w.alloc (.cells A 78)=w1;have k1:aa (fun _=>False) w w1:=by rw [←hw1];exact (aa.refl _ _).alloc _
 have b1:ah w1 w.heap.size (au (List.replicate 12 (0,0))) 78:=by rw [←hw1];exact ah.newAt _ rfl (by rw [HA.out])
 have hs1:w1.heap.size=w.heap.size+1:=by rw [←hw1];simp
 have nl:∀ {b:Nat},ag (.slice none 0 0) b→False:=fun hb=>by simp [ag,Value.ownBlock] at hb
 refine ⟨⟨w.heap.size+1, .slice none 0 0, .slice (some ⟨w.heap.size,0,none⟩) 12 12, .slice none 0 0, .slice none 0 0,fun _=>False⟩,by first | rfl | (rw [←hs1];rfl),⟨?_,⟨[],Sl.nil _ _ _,rfl⟩,?_,Sl.nil _ _ _,Sl.nil _ _ _,fun k hk=>nl hk.1,fun k hk=>hk.elim,HOK.out⟩,?_,?_⟩
 ·exact ah.newAt _ (by first | rfl | omega | simp [hs1]) rfl
 ·refine ⟨rfl, .inr ⟨w.heap.size,0,12,au (List.replicate 12 (0,0)),rfl,b1.alloc _,Nat.le_refl _,by decide,by decide,rfl⟩⟩
 ·exact k1.alloc _
 ·intro k hk;rcases hk with rfl | hk | hk | hk | hk | hk
  ·exact Nat.le_succ _
  ·exact (nl hk).elim
  ·simp [ag,Value.ownBlock] at hk;omega
  ·exact (nl hk).elim
  ·exact (nl hk).elim
  ·exact hk.elim
theorem gK (n:Int) (w:World):Calls Try.prog 103 #[.int .i64 n] w fun e w'=>e=.returned (.agg #[.int .i64 1, .int .i64 n])∧aa (fun _=>False) w w':=by
 go_enter Try.func103,Try.ntmps103;go_wp2_with fail;refine bodyPost_ret (v:=.agg #[.int .i64 1, .int .i64 n]) (by simp [results,Try.results103,go_sem]) rfl ⟨rfl,?_⟩
 first | exact (aa.refl _ _).alloc _ | trace_state
end
section
open Go.RowKit
section
variable {w w':World} {h:RW} {W:Wd}
theorem aK.n5 (H:aK w h W) {r:Nat} {kd:Int} {l:List Vl} {tv fv:Value} {fo:Option Addr} {fc:Nat} {cs:List Value} (hfv:fv=.slice fo l.length fc)
  (hp:ah w' h.p [tv,h.rv,h.gv,h.wv, .int .i64 W.most, .int .i64 W.grow] 150)
  (hR:bp 4 (dX w h.F) W.T cs) (hT:Sl w' 161 4 tv (W.T.length+1) (cs ++ [.int .i64 kd, .slice fo l.length fc, .bool false, .bool false]))
  (hr:Sl w' 78 2 h.rv W.roots.length (((au W.roots).set (r*2) (.int .i64 3)).set (r*2+1) (.int .i64 W.T.length)))
  (hf:Sl w' 78 2 fv l.length (au l)) (hfn:∀ b,ag fv b→w.heap.size≤b)
  (K:aa (fun b=>ag h.rv b∨ag h.tv b∨b=h.p) w w') (hto:∀ b,ag tv b→ag h.tv b∨w.heap.size≤b) (hok:(W.put r kd l).ok):aC w h w' (W.put r kd l):=by
 subst hfv;have nF:∀ b,h.F b→¬ (ag h.rv b∨ag h.tv b∨b=h.p):=fun b hb e=>by
  obtain ⟨_,⟨c,hc⟩,h3⟩:=H.af b hb;rcases e with e | e | e
  ·exact h3 e
  ·obtain ⟨cs',hs',_⟩:=H.ht;obtain ⟨_,c',hc'⟩:=hs'.own e;exact hc.ne hc' (by decide) rfl
  ·exact hc.ne H.hp (by decide) e
 have nE:∀ {v:Value} {n:Nat} {xs:List Value},Sl w 159 2 v n xs→∀ b,ag v b→¬ (ag h.rv b∨ag h.tv b∨b=h.p):=fun hs b hb e=>by
  obtain ⟨_,c,hc⟩:=hs.own hb;rcases e with e | e | e
  ·obtain ⟨_,c',hc'⟩:=H.hr.own e;exact hc.ne hc' (by decide) rfl
  ·obtain ⟨cs',hs',_⟩:=H.ht;obtain ⟨_,c',hc'⟩:=hs'.own e;exact hc.ne hc' (by decide) rfl
  ·exact hc.ne H.hp (by decide) e
 have el:(W.put r kd l).T.length=W.T.length+1:=by simp [Wd.put]
 have er:(W.put r kd l).roots=W.roots.set r (3,(W.T.length:Int)):=by simp [Wd.put,eB]
 have erl:(W.put r kd l).roots.length=W.roots.length:=by rw [er];simp
 obtain ⟨fo',fc',e1,hrd,hml,-⟩:=hf.rd;cases e1;refine ⟨⟨h.p,tv,h.rv,h.gv,h.wv,fun b=>h.F b∨ag (.slice fo l.length fc) b⟩,⟨hp,⟨_,by rw [el];exact hT,?_⟩,?_,H.hg.ae K (nE H.hg),H.hw.ae K (nE H.hw),H.ap,?_,hok⟩,rfl,K.mono (fun b _ e=>?_),?_⟩
 ·have e2:(W.put r kd l).T=W.T ++ [⟨kd,l,false,false⟩]:=rfl;rw [e2];refine bp.app (hR.mono (fun a _ q hq=>(hq.ae K (fun b hb _=>nF b hb)).more (fun b hb=>.inl hb))) rfl ⟨fo,fc,rfl,hrd,fun a ha=>.inr (by rw [ha];rfl),hml⟩
 ·rw [erl,er,dp];exact hr
 ·intro b hb;rcases hb with hb | hb
  ·obtain ⟨h1,⟨c,h2⟩,h3⟩:=H.af b hb;exact ⟨Nat.lt_of_lt_of_le h1 K.size,⟨c,K.ai h2 (nF b hb)⟩,h3⟩
  ·obtain ⟨h1,c,h2⟩:=hf.own hb;exact ⟨h1,⟨c,h2⟩,fun e=>by have:=(H.hr.own e).1;have:=hfn b hb;omega⟩
 ·rcases e with e | e | e
  ·exact .inr (.inr (.inl e))
  ·exact .inr (.inl e)
  ·exact .inl e
 ·intro b hb;rcases hb with hb | hb | hb | hb | hb | hb
  ·exact .inl (.inl hb)
  ·exact (hto b hb).imp (fun h=>.inr (.inl h)) id
  ·exact .inl (.inr (.inr (.inl hb)))
  ·exact .inl (.inr (.inr (.inr (.inl hb))))
  ·exact .inl (.inr (.inr (.inr (.inr (.inl hb)))))
  ·rcases hb with hb | hb
   ·exact .inl (.inr (.inr (.inr (.inr (.inr hb)))))
   ·exact .inr (hfn b hb)
end
end
section
open Go.RowKit
theorem n6:(Try.prog.info? 161).map (fun i=>(i.zero,i.size,i.bytes))=some (some (.agg #[.int .i64 0, .slice none 0 0, .bool false, .bool false]),4,40):=by kernel_rfl
section
variable {w:World} {h:RW} {W:Wd}
end
end
section
open Go.RowKit
theorem iI (w:World) (o:Obj) (a:Addr) (v:Value) (h:a.block<w.heap.size):(w.alloc o).setCell a v=(w.setCell a v).alloc o:=by
 unfold World.setCell World.alloc;congr 1;apply Array.ext
 ·simp
 ·intro i h1 h2;simp only [Array.getElem_modify,Array.getElem_push,Array.size_modify];simp only [Array.size_modify,Array.size_push] at h1;by_cases e:a.block=i
  ·subst e;simp [h]
  ·simp [e]
end
section
open Go.RowKit
structure kK (w:World) (p:Nat) (tv wv:Value) (F:Nat→Prop) (W:Wd) (q:List (Int × Int)):Prop where
 hp:∃ a b c d,ah w p [tv,a,b,wv,c,d] 150
 ht:ew w tv F W.T
 hw:Sl w 159 2 wv q.length (au q)
theorem kK.same {w w':World} {p:Nat} {tv wv:Value} {F:Nat→Prop} {W:Wd} {q:List (Int × Int)} (h:kK w p tv wv F W q) (k:aa (fun _=>False) w w'):kK w' p tv wv F W q:=by
 obtain ⟨⟨a,b,c,d,h1⟩,h2,h3⟩:=h;exact ⟨⟨a,b,c,d,k.ai h1 (fun h=>h)⟩,h2.ae k (fun _ _ _ h=>h) (fun _ _ h=>h),h3.ae k (fun _ _ h=>h)⟩
structure GM (w0 wr:World) (b:Nat) (vo:Value) (l:List Bool):Prop where
 K:aa (fun _=>False) w0 wr
 O:iA wr b vo l
 o:∀ k,ag vo k→w0.heap.size≤k
 ob:w0.heap.size≤b
theorem GM.same {w0 wr w2:World} {b:Nat} {vo:Value} {l:List Bool} (M:GM w0 wr b vo l) (k:aa (fun _=>False) wr w2):GM w0 w2 b vo l:=⟨M.K.trans k,M.O.ae k (fun h=>h) (fun _ _ h=>h),M.o,M.ob⟩
theorem GM.add {w0 wr w2:World} {b:Nat} {vo:Value} {l l2:List Bool} (M:GM w0 wr b vo l) (O:iA w2 b vo l2) (k:aa (ag vo) wr w2):GM w0 w2 b vo l2:=⟨M.K.then k (fun j hj=>.inr (M.o j hj)),O,M.o,M.ob⟩
theorem aa.jr {w w':World} (k:aa (fun _=>False) w w') {b i:Nat} {v:Value} (hb:b<w.heap.size) (h:w.cell? ⟨b,i,none⟩=some v):w'.cell? ⟨b,i,none⟩=some v:=by
 rw [←h];exact World.cell?_of_block (w:=w) (a:=⟨b,i,none⟩) (k.block b hb (fun h=>h))
def jW (w:World) (l:List Bool) (e:Ending) (w':World):Prop:=
 ∃ ao cap,e=.returned (.slice ao l.length cap)∧Sl w' 4 1 (.slice ao l.length cap) l.length (l.map Value.bool)∧aa (fun _=>False) w w'∧∀ k,ag (.slice ao l.length cap) k→w.heap.size≤k
section
variable {w:World} {p:Nat} {tv wv:Value} {F:Nat→Prop} {W:Wd} {q:List (Int × Int)} {is:List Bool}
def sR (w wr:World) (b:Nat) (vo:Value) (W:Wd) (q:List (Int × Int)) (is:List Bool) (m:Bool) (l:List Bool):Prop:=
 GM w wr b vo l∧dC W q is l∧(m=false→∀ j:Nat,j<l.length→bK W q l j)
def ei (w wr:World) (b:Nat) (vo:Value) (W:Wd) (q:List (Int × Int)) (is lp:List Bool) (m:Bool) (l:List Bool) (i:Nat):Prop:=
 GM w wr b vo l∧dC W q is l∧Fl m lp l∧gZ m (∀ j:Nat,j<i→bK W q lp j)
theorem ei.next {wr:World} {b:Nat} {vo:Value} {lp l:List Bool} {m:Bool} {i:Nat} (h:GM w wr b vo l∧dC W q is l∧Fl m lp l∧gZ m ((∀ j:Nat,j<i→bK W q lp j)∧bK W q lp i)):ei w wr b vo W q is lp m l (i+1):=
 ⟨h.1,h.2.1,h.2.2.1,fun hm j hj=>by
  have:=h.2.2.2 hm;rcases Nat.lt_succ_iff_lt_or_eq.1 hj with h1 | rfl
  ·exact this.1 j h1
  ·exact this.2⟩
theorem nn (io:Option Addr) (icap:Nat) (H:kK w p tv wv F W q) (hok:W.ok) (hq:∀ e ∈ q,W.dx e) (hi:Rd w io (is.map Value.bool)) (hlen:is.length=W.T.length) (hT:W.T.length≤100000) (hl:∀ i,az is i=true→W.live i) (hql:q.length≤1000000) :
  Calls Try.prog 125 #[.pointer (some ⟨p,0,none⟩), .slice io is.length icap] w (jW w (W.bQ q is)):=by
 obtain ⟨ib,hib,hz0,hz1,hz2⟩:=info_parts eD;have Hi:=Hz hib;have Hz0:=Hz hz0;have Hz1:=Hz hz1;have Hz2:=Hz hz2;clear hib hz0 hz1 hz2;have HG:=Hz H;have HOK:=Hz hok;have HQ:=Hz hq;have HI:=Hz hi;have HLEN:=Hz hlen;have HLV:=Hz hl;have hil:is.length≤100000:=by omega
 obtain ⟨no,nc,rfl,-⟩:=HG.out.ht.nth;obtain ⟨qo,qc,rfl,-,-,-⟩:=HG.out.hw.rd;clear H hok hq hi hl hlen;go_enter Try.func125,Try.ntmps125;go_wp2_with (at_builtin;refine jv rfl (.tmp 12) (.tmp 13) 76 rfl 4 ib (.bool false) 1 1 Try.underlying76 Hi.out Hz0.out Hz1.out Hz2.out rfl (by decide) _ 0 [] rfl ?ha io is.length icap (is.map Value.bool) rfl ?hb ?hc ?hd ?he ?hf ?hg)
 case ha=>exact ⟨by simp, .inr ⟨w.heap.size,0,0,[],rfl,ah.newAt _ rfl rfl,Nat.le_refl _,Nat.zero_le _,by simp,by simp⟩⟩
 case hb=>simp
 case hc=>exact HI.out.ae ((Kz w).alloc _) (fun _ _ _ h=>h)
 case hd=>intro u hu;simp at hu;rcases hu with ⟨_,rfl⟩ | ⟨_,rfl⟩ <;> rfl
 case he=>unfold maxLen;omega
 case hf=>omega
 case hg=>
  intro v2 w2 hs2 hk2 ho2;obtain ⟨ao,cap,hv2,-,-,-⟩:=hs2.rd;have hK2:aa (fun _=>False) w w2:=((Kz w).alloc (.cells #[] 4)).then hk2 (fun k hk=>.inr (by simp [ag,Value.ownBlock] at hk;omega));have ho3:∀ k,ag v2 k→w.heap.size≤k:=fun k hk=>by
   rcases ho2 k hk with h | h
   ·simp [ag,Value.ownBlock] at h;omega
   ·omega
  try rw [Nat.zero_add] at hs2 hv2
  try rw [List.nil_append] at hs2
  subst hv2;go_wp2_with fail;generalize hwx:w2.alloc (.cells #[.slice ao is.length cap] 76)=wx;have MX:=Hz (show GM w wx w2.heap.size (.slice ao is.length cap) is by
   rw [←hwx];have ka:=(Kz w2).alloc (.cells #[.slice ao is.length cap] 76)
   exact ⟨hK2.trans ka,⟨ah.newAt _ rfl rfl,hs2.ae ka (fun _ _ h=>h)⟩,ho3,hK2.size⟩)
  clear hs2 hk2 ho2 hK2 ho3 hwx HI;generalize w2.heap.size=b at *;have hn:=HLEN.out
  go_loopg [7] (iU is+1) (fun n m wr=>∃ (x:Bool) (l:List Bool),m=.bool x∧sR w wr b (.slice ao is.length cap) W q is x l∧iU l+(if x then 1 else 0)≤n)
  case atStart=>exact ⟨true,is,rfl,⟨MX.out,dC.start W q is,fun h=>by cases h⟩,Nat.le_refl _⟩
  case round=>
   clear MX;obtain ⟨x,lp,rfl,⟨hM,hG,hC⟩,hun⟩:=hrel;have M:=Hz hM;have GK:=Hz hG;have HC:=Hz hC;have HU:=Hz hun;clear hM hG hC hun hn;cases x
   ·have HE:=Hz (GK.out.done (HC.out rfl));have b0:=M.out.O.hb.cell 0;have bl:=M.out.O.hb.lt;simp only [Lz] at b0;go_wp2_with fail;go_ret;have hl:=cA W.nd q is;have hs:=M.out.O.hs;rw [HE.out] at hs;have hl2:(W.bQ q is).length=is.length:=hl;refine ⟨ao,cap,by rw [hl2];rfl,?_,M.out.K,fun k hk=>M.out.o k (by rw [hl2] at hk;exact hk)⟩;rw [hl2];rw [hl2] at hs;exact hs
   ·obtain ⟨w1,rfl⟩:∃ x:World,x=wr:=⟨wr,rfl⟩;go_wp2_with fail;go_loopw [7,8] (fun m u wr=>∃ (i:Nat) (x:Bool) (l:List Bool),i≤W.T.length∧u=.int .i64 i∧m=.bool x∧ei w wr b (.slice ao is.length cap) W q is lp x l i) (fun _ u _=>W.T.length-(intOf u).toNat)
    case atStart=>exact ⟨0,false,lp,Nat.zero_le _,rfl,rfl,M.out,GK.out,Fl.start _,fun _ j hj=>by omega⟩
    case round=>
     obtain ⟨i,x,l,hi,rfl,rfl,hM,hG,hF,hY⟩:=hrel;have M2:=Hz hM;have G2:=Hz hG;have F2:=Hz hF;have Y2:=Hz hY;obtain ⟨⟨c1,c2,c3,c4,hp⟩,ht,hw⟩:=HG.out.same hM.K;have HP:=Hz hp;have HW:=Hz hw;have p0:=hp.cell 0;have pl:=hp.lt;simp only [Lz] at p0;have hll:l.length=W.T.length:=hG.len.trans HLEN.out;have HLL:=Hz hll;clear hM hG hF hY hp hw;by_cases hlt:i<W.T.length
     ·obtain ⟨_,_,e',N⟩:=HG.out.ht.nth;cases e';obtain ⟨g,o,fo,fc,rfl,-,hgl,t0,t1,t2,t3,hrd,-,hml⟩:=N i hlt;replace t0:=M2.out.K.jr hgl t0;replace t1:=M2.out.K.jr hgl t1;replace t2:=M2.out.K.jr hgl t2;replace t3:=M2.out.K.jr hgl t3;replace hgl:g<wr.heap.size:=Nat.lt_of_lt_of_le hgl M2.out.K.size;have HTH:=Hz (show W.th (i:Int)=W.T.getD i Th.none by unfold Wd.th;rw [Int.toNat_natCast]);generalize W.T.getD i Th.none=t at *;obtain ⟨tk,tf,tol,tde⟩:=t;dsimp only at t0 t1 t2 t3 hrd hml HTH;have HRD:=Hz (show Rd w fo (au tf) from hrd);obtain ⟨_,_,e',rdo,-,-⟩:=M2.out.O.hs.rd;obtain ⟨rfl,-,rfl⟩:=Value.slice.inj e';clear e';obtain ⟨go,oo,rfl,hgo,d0⟩:=rdo.eh i (by omega);have b0:=M2.out.O.hb.cell 0;have bl:=M2.out.O.hb.lt;simp only [Lz] at b0;have b1:=hgo;have HAT:=Hz (show az l (i:Int)=l.getD i false from bS l i);generalize l.getD i false=z at *;clear rdo N ht hrd hll;have hi2:i<is.length:=by rw [HLEN.out];exact hlt
      have hb0:wr.heap.size<(wr.alloc (.cells #[.int .i64 tk, .slice fo tf.length fc, .bool tol, .bool tde] 161)).heap.size:=by simp
      generalize hwt:wr.alloc (.cells #[.int .i64 tk, .slice fo tf.length fc, .bool tol, .bool tde] 161)=wt at hb0;have KT:=Hz (show aa (fun _=>False) wr wt by rw [←hwt];exact (aa.refl _ _).alloc _);have BT:=Hz (show ah wt wr.heap.size [.int .i64 tk, .slice fo tf.length fc, .bool tol, .bool tde] 161 by rw [←hwt];exact ah.newAt _ rfl rfl);have HWT:=Hz hwt;clear hwt hb0;have MT:=Hz (M2.out.same KT.out);cases z
      ·go_wp2_with (refine aT rfl 161 (.tmp 31) rfl [.int .i64 tk, .slice fo tf.length fc, .bool tol, .bool tde] (by kernel_rfl) g (o+i*4) rfl (ab t0 (ab t1 (ab t2 (ab t3 aO)))) ?_);go_roundw
       case rel=>
        first
        | exact ⟨i+1,x,l,hlt,by go_num,rfl,ei.next ⟨by rw [HWT.out];exact MT.out,G2.out,F2.out,fun hm=>⟨Y2.out hm,by
          rcases F2.out with ⟨_,e⟩ | ⟨e,_⟩
          ·rw [←e];exact jx HAT.out
          ·rw [e] at hm;cases hm⟩⟩⟩
        | ((repeat apply Exists.intro);exact ⟨⟨i+1,x,l,hlt,by go_num,rfl,ei.next ⟨by rw [HWT.out];exact MT.out,G2.out,F2.out,fun hm=>⟨Y2.out hm,by
          rcases F2.out with ⟨_,e⟩ | ⟨e,_⟩
          ·rw [←e];exact jx HAT.out
          ·rw [e] at hm;cases hm⟩⟩⟩,rfl⟩)
       case measure=>simp [intOf];omega
      ·have hlv:=G2.out.live HOK.out HQ.out HLV.out (i:=(i:Int)) HAT.out;have HLI:=Hz hlv;have hfit:=bs (HOK.out.tk _ hlv);rw [HTH.out] at hfit;dsimp only at hfit;have HFT:=Hz hfit;have hfl:tf.length≤12:=by have:=hfit.2.2.2;omega
       have hk15:=hfit.1;have hk16:=hfit.2.1;clear hlv hfit;rcases (show tk=1∨tk=2∨tk=3∨tk=4∨tk=5 by omega) with rfl | rfl | rfl | rfl | rfl
       ·as_aux_lemma=>
        go_wp2_with (refine aT rfl 161 (.tmp 31) rfl [.int .i64 1, .slice fo tf.length fc, .bool tol, .bool tde] (by kernel_rfl) g (o+i*4) rfl (ab t0 (ab t1 (ab t2 (ab t3 aO)))) ?_);rw [HWT.out];clear t0 t1 t2 t3 b0 bl p0 pl hgl hgo b1 d0;have hkk:=Hz (show (W.th (i:Int)).k=1∨(W.th (i:Int)).k=2 by rw [HTH.out];first | exact .inl rfl | exact .inr rfl);go_loopw [7,10] (fun m u wr2=>∃ (f:Nat) (x:Bool) (l:List Bool),f≤tf.length∧u=.int .i64 f∧m=.bool x∧GM w wr2 b (.slice (some ⟨go,oo,none⟩) is.length cap) l∧dC W q is l∧Fl x lp l∧gZ x ((∀ j:Nat,j<i→bK W q lp j)∧∀ v ∈ tf.take f,a5 lp v=true)∧az l (i:Int)=true∧ah wr2 wr.heap.size [.int .i64 1, .slice fo tf.length fc, .bool tol, .bool tde] 161) (fun _ u _=>tf.length-(intOf u).toNat)
        case atStart=>exact ⟨0,x,l,Nat.zero_le _,rfl,rfl,MT.out,G2.out,F2.out,fun hm=>⟨Y2.out hm,(fun v hv=>by simp at hv)⟩,HAT.out,BT.out⟩
        case round=>
         obtain ⟨f,x,l,hf,rfl,rfl,hM,hG,hF,hY,hA,hB⟩:=hrel;have M3:=Hz hM;have G3:=Hz hG;have F3:=Hz hF;have Y3:=Hz hY;have A3:=Hz hA;have B3:=Hz hB;have x1:=hB.cell 1;have xl:=hB.lt;simp only [Lz,Ls] at x1;have hll3:l.length=W.T.length:=hG.len.trans HLEN.out;clear hM hG hF hY hA hB;by_cases hlt3:f<tf.length
         ·have k3:aa (fun _=>False) w wr:=M3.out.K;have rd3:=HRD.out.ae k3 (fun _ _ _ h=>h);clear k3;obtain ⟨gf,of,rfl,hgf,v0,v1⟩:=rd3.val f hlt3;have hmem:tf.getD f (0,0) ∈ tf:=by rw [Ld,Le hlt3];exact List.getElem_mem hlt3
          have htk:=Hz (show tf.take (f+1)=tf.take f ++ [tf.getD f (0,0)] by rw [←List.take_append_getElem hlt3,Ld,Le hlt3];rfl);have HMM:=Hz hmem;generalize tf.getD f (0,0)=v at *;have hin:iH l.length v:=fun h3=>by
           have:=HOK.out.tv _ HLI.out v (by rw [HTH.out];exact hmem);have:=Wd.bg this h3;exact ⟨this.1,by rw [hll3];exact this.2.1⟩
          have HIN:=Hz hin;have LD:=Hz (G3.out.lead A3.out (v:=v) (fw hkk.out (by rw [HTH.out];exact hmem)));clear hmem hin rd3 hll3;go_wp2_with (refine aQ rfl 78 (.tmp 54) rfl (by kernel_rfl) gf (of+f*2) rfl _ _ v0 v1 ?_);refine (iV v b _ l _ M3.out.O (by have:=HIN.out;have:=G3.out.len;omega) HIN.out).mono ?_;rintro e w3 ⟨rfl,hO,hK⟩;have B4:=Hz (hK.ai B3.out (fun hb=>by
           obtain ⟨_,cur,hc⟩:=M3.out.O.hs.own hb
           exact B3.out.ne hc (by decide) rfl))
          have A4:=Hz ((G3.out.add HIN.out LD.out));have A5:=Hz (show az (cZ l v) (i:Int)=true by
           have:=A3.out;unfold cZ;split
           ·exact this
           ·rename_i hn;obtain ⟨h3,-⟩:=iT (by simpa using hn)
            exact (cE (HIN.out h3).1 (HIN.out h3).2).2 (.inr this))
          have NX:=Hz (And.intro (M3.out.add hO hK) (And.intro (F3.out.add (v:=v) HIN.out) (gZ.add (v:=v) (r:=(∀ j:Nat,j<i→bK W q lp j)∧∀ v ∈ tf.take (f+1),a5 lp v=true) F3.out Y3.out (fun h1 h2=>⟨h1.1,fun u hu=>by
           rw [htk.out] at hu;rcases List.mem_append.1 hu with hu | hu
           ·exact h1.2 u hu
           ·rw [List.mem_singleton] at hu;subst hu;exact h2⟩))))
          clear hO hK x1 xl v0 v1 hgf;generalize (!a5 l v)=a at *;cases a
          ·have nx:=NX.out;simp only [Bool.false_or] at nx;have NY:=Hz nx;clear nx NX;go_wp2_with fail;go_roundw
           case rel=>
            first
            | exact ⟨f+1,x,_,hlt3,by go_num,rfl,NY.out.1,A4.out,NY.out.2.1,NY.out.2.2,A5.out,B4.out⟩
            | ((repeat apply Exists.intro);exact ⟨⟨f+1,x,_,hlt3,by go_num,rfl,NY.out.1,A4.out,NY.out.2.1,NY.out.2.2,A5.out,B4.out⟩,rfl⟩)
           case measure=>simp [intOf];omega
          ·have nx:=NX.out;simp only [Bool.true_or] at nx;have NY:=Hz nx;clear nx NX;go_wp2_with fail;go_roundw
           case rel=>
            first
            | exact ⟨f+1,true,_,hlt3,by go_num,rfl,NY.out.1,A4.out,NY.out.2.1,NY.out.2.2,A5.out,B4.out⟩
            | ((repeat apply Exists.intro);exact ⟨⟨f+1,true,_,hlt3,by go_num,rfl,NY.out.1,A4.out,NY.out.2.1,NY.out.2.2,A5.out,B4.out⟩,rfl⟩)
           case measure=>simp [intOf];omega
         ·obtain rfl:f=tf.length:=by omega
          clear hll3;go_wp2_with fail;go_roundw
          case rel=>
           first
           | exact ⟨i+1,x,l,hlt,by go_num,rfl,ei.next ⟨M3.out,G3.out,F3.out,fun hm=>⟨(Y3.out hm).1,dK hkk.out (by rw [HTH.out];intro v hv;exact (Y3.out hm).2 v (by rw [List.take_length];exact hv))⟩⟩⟩
           | ((repeat apply Exists.intro);exact ⟨⟨i+1,x,l,hlt,by go_num,rfl,ei.next ⟨M3.out,G3.out,F3.out,fun hm=>⟨(Y3.out hm).1,dK hkk.out (by rw [HTH.out];intro v hv;exact (Y3.out hm).2 v (by rw [List.take_length];exact hv))⟩⟩⟩,rfl⟩)
          case measure=>simp [intOf];omega
       ·as_aux_lemma=>
        go_wp2_with (refine aT rfl 161 (.tmp 31) rfl [.int .i64 2, .slice fo tf.length fc, .bool tol, .bool tde] (by kernel_rfl) g (o+i*4) rfl (ab t0 (ab t1 (ab t2 (ab t3 aO)))) ?_);rw [HWT.out];clear t0 t1 t2 t3 b0 bl p0 pl hgl hgo b1 d0;have hkk:=Hz (show (W.th (i:Int)).k=1∨(W.th (i:Int)).k=2 by rw [HTH.out];first | exact .inl rfl | exact .inr rfl);go_loopw [7,10] (fun m u wr2=>∃ (f:Nat) (x:Bool) (l:List Bool),f≤tf.length∧u=.int .i64 f∧m=.bool x∧GM w wr2 b (.slice (some ⟨go,oo,none⟩) is.length cap) l∧dC W q is l∧Fl x lp l∧gZ x ((∀ j:Nat,j<i→bK W q lp j)∧∀ v ∈ tf.take f,a5 lp v=true)∧az l (i:Int)=true∧ah wr2 wr.heap.size [.int .i64 2, .slice fo tf.length fc, .bool tol, .bool tde] 161) (fun _ u _=>tf.length-(intOf u).toNat)
        case atStart=>exact ⟨0,x,l,Nat.zero_le _,rfl,rfl,MT.out,G2.out,F2.out,fun hm=>⟨Y2.out hm,(fun v hv=>by simp at hv)⟩,HAT.out,BT.out⟩
        case round=>
         obtain ⟨f,x,l,hf,rfl,rfl,hM,hG,hF,hY,hA,hB⟩:=hrel;have M3:=Hz hM;have G3:=Hz hG;have F3:=Hz hF;have Y3:=Hz hY;have A3:=Hz hA;have B3:=Hz hB;have x1:=hB.cell 1;have xl:=hB.lt;simp only [Lz,Ls] at x1;have hll3:l.length=W.T.length:=hG.len.trans HLEN.out;clear hM hG hF hY hA hB;by_cases hlt3:f<tf.length
         ·have k3:aa (fun _=>False) w wr:=M3.out.K;have rd3:=HRD.out.ae k3 (fun _ _ _ h=>h);clear k3;obtain ⟨gf,of,rfl,hgf,v0,v1⟩:=rd3.val f hlt3;have hmem:tf.getD f (0,0) ∈ tf:=by rw [Ld,Le hlt3];exact List.getElem_mem hlt3
          have htk:=Hz (show tf.take (f+1)=tf.take f ++ [tf.getD f (0,0)] by rw [←List.take_append_getElem hlt3,Ld,Le hlt3];rfl);have HMM:=Hz hmem;generalize tf.getD f (0,0)=v at *;have hin:iH l.length v:=fun h3=>by
           have:=HOK.out.tv _ HLI.out v (by rw [HTH.out];exact hmem);have:=Wd.bg this h3;exact ⟨this.1,by rw [hll3];exact this.2.1⟩
          have HIN:=Hz hin;have LD:=Hz (G3.out.lead A3.out (v:=v) (fw hkk.out (by rw [HTH.out];exact hmem)));clear hmem hin rd3 hll3;go_wp2_with (refine aQ rfl 78 (.tmp 54) rfl (by kernel_rfl) gf (of+f*2) rfl _ _ v0 v1 ?_);refine (iV v b _ l _ M3.out.O (by have:=HIN.out;have:=G3.out.len;omega) HIN.out).mono ?_;rintro e w3 ⟨rfl,hO,hK⟩;have B4:=Hz (hK.ai B3.out (fun hb=>by
           obtain ⟨_,cur,hc⟩:=M3.out.O.hs.own hb
           exact B3.out.ne hc (by decide) rfl))
          have A4:=Hz ((G3.out.add HIN.out LD.out));have A5:=Hz (show az (cZ l v) (i:Int)=true by
           have:=A3.out;unfold cZ;split
           ·exact this
           ·rename_i hn;obtain ⟨h3,-⟩:=iT (by simpa using hn)
            exact (cE (HIN.out h3).1 (HIN.out h3).2).2 (.inr this))
          have NX:=Hz (And.intro (M3.out.add hO hK) (And.intro (F3.out.add (v:=v) HIN.out) (gZ.add (v:=v) (r:=(∀ j:Nat,j<i→bK W q lp j)∧∀ v ∈ tf.take (f+1),a5 lp v=true) F3.out Y3.out (fun h1 h2=>⟨h1.1,fun u hu=>by
           rw [htk.out] at hu;rcases List.mem_append.1 hu with hu | hu
           ·exact h1.2 u hu
           ·rw [List.mem_singleton] at hu;subst hu;exact h2⟩))))
          clear hO hK x1 xl v0 v1 hgf;generalize (!a5 l v)=a at *;cases a
          ·have nx:=NX.out;simp only [Bool.false_or] at nx;have NY:=Hz nx;clear nx NX;go_wp2_with fail;go_roundw
           case rel=>
            first
            | exact ⟨f+1,x,_,hlt3,by go_num,rfl,NY.out.1,A4.out,NY.out.2.1,NY.out.2.2,A5.out,B4.out⟩
            | ((repeat apply Exists.intro);exact ⟨⟨f+1,x,_,hlt3,by go_num,rfl,NY.out.1,A4.out,NY.out.2.1,NY.out.2.2,A5.out,B4.out⟩,rfl⟩)
           case measure=>simp [intOf];omega
          ·have nx:=NX.out;simp only [Bool.true_or] at nx;have NY:=Hz nx;clear nx NX;go_wp2_with fail;go_roundw
           case rel=>
            first
            | exact ⟨f+1,true,_,hlt3,by go_num,rfl,NY.out.1,A4.out,NY.out.2.1,NY.out.2.2,A5.out,B4.out⟩
            | ((repeat apply Exists.intro);exact ⟨⟨f+1,true,_,hlt3,by go_num,rfl,NY.out.1,A4.out,NY.out.2.1,NY.out.2.2,A5.out,B4.out⟩,rfl⟩)
           case measure=>simp [intOf];omega
         ·obtain rfl:f=tf.length:=by omega
          clear hll3;go_wp2_with fail;go_roundw
          case rel=>
           first
           | exact ⟨i+1,x,l,hlt,by go_num,rfl,ei.next ⟨M3.out,G3.out,F3.out,fun hm=>⟨(Y3.out hm).1,dK hkk.out (by rw [HTH.out];intro v hv;exact (Y3.out hm).2 v (by rw [List.take_length];exact hv))⟩⟩⟩
           | ((repeat apply Exists.intro);exact ⟨⟨i+1,x,l,hlt,by go_num,rfl,ei.next ⟨M3.out,G3.out,F3.out,fun hm=>⟨(Y3.out hm).1,dK hkk.out (by rw [HTH.out];intro v hv;exact (Y3.out hm).2 v (by rw [List.take_length];exact hv))⟩⟩⟩,rfl⟩)
          case measure=>simp [intOf];omega
       ·as_aux_lemma=>
        obtain ⟨u,v,rfl⟩:∃ u v,tf=[u,v]:=by
         have h2:tf.length=2:=by
          have:=HOK.out.tk _ HLI.out;rw [HTH.out] at this;simp [aW] at this;omega
         match tf,h2 with
         | [u,v],_=>exact ⟨u,v,rfl⟩
        have kT:aa (fun _=>False) w wt:=MT.out.K;have rdT:=HRD.out.ae kT (fun _ _ _ h=>h);obtain ⟨gf,of,rfl,hgf,u0,u1⟩:=rdT.val 0 (by simp);obtain ⟨_,_,e',-,v0,v1⟩:=rdT.val 1 (by simp);cases e';have lenE:([u,v]:List Vl).length=2:=rfl;simp only [List.getD_cons_zero,List.getD_cons_succ,Nat.zero_mul,Nat.add_zero,Nat.one_mul] at u0 u1 v0 v1;have hin:∀ y:Vl,y ∈ [u,v]→iH l.length y:=fun y hy h3=>by
         have:=HOK.out.tv _ HLI.out y (by rw [HTH.out];exact hy);have:=Wd.bg this h3;rw [HLL.out];exact ⟨this.1,this.2.1⟩
        have HIN:=Hz hin;have hll4:l.length≤1000000:=by have:=HLL.out;omega
        clear rdT kT hin;have hk3:=Hz (show (W.th (i:Int)).k=3 by rw [HTH.out]);have HW2:=Hz (show wr.alloc (.cells #[.int .i64 3, .slice (some ⟨gf,of,none⟩) 2 fc, .bool tol, .bool tde] 161)=wt from HWT.out);have hf3:=Hz (show (W.th (i:Int)).fs=[u,v] by rw [HTH.out]);have LD:=Hz (G2.out.lead HAT.out (v:=v) (kZ hk3.out hf3.out));rw [←HW2.out] at v0 v1;go_wp2_with (first | (refine aT rfl 161 (.tmp 31) rfl [.int .i64 3, .slice fo ([u,v]:List Vl).length fc, .bool tol, .bool tde] (by kernel_rfl) g (o+i*4) rfl (ab t0 (ab t1 (ab t2 (ab t3 aO)))) ?_) | (refine aQ rfl 78 (.tmp 65) rfl (by kernel_rfl) gf _ rfl _ _ v0 v1 ?_));rw [HW2.out];clear t0 t1 t2 t3 b0 bl p0 pl hgl hgo b1 d0 u0 u1 v0 v1;refine (iV v b _ l _ MT.out.O hll4 (HIN.out v (by simp))).mono ?_;rintro e w3 ⟨rfl,hO,hK⟩;have A4:=Hz (G2.out.add (HIN.out v (by simp)) LD.out);have NX:=Hz (And.intro (MT.out.add hO hK) (And.intro (F2.out.add (v:=v) (HIN.out v (by simp))) (gZ.add (v:=v) (r:=(∀ j:Nat,j<i→bK W q lp j)∧bK W q lp i) F2.out Y2.out (fun h1 h2=>⟨h1,ly hk3.out hf3.out h2⟩))));clear hO hK;generalize (!a5 l v)=a at *;cases a
        ·have nx:=NX.out;simp only [Bool.false_or] at nx;have NY:=Hz nx;clear nx NX;go_wp2_with fail;go_roundw
         case rel=>
          first
          | exact ⟨i+1,x,_,hlt,by go_num,rfl,ei.next ⟨NY.out.1,A4.out,NY.out.2.1,NY.out.2.2⟩⟩
          | ((repeat apply Exists.intro);exact ⟨⟨i+1,x,_,hlt,by go_num,rfl,ei.next ⟨NY.out.1,A4.out,NY.out.2.1,NY.out.2.2⟩⟩,rfl⟩)
         case measure=>simp [intOf];omega
        ·have nx:=NX.out;simp only [Bool.true_or] at nx;have NY:=Hz nx;clear nx NX;go_wp2_with fail;go_roundw
         case rel=>
          first
          | exact ⟨i+1,true,_,hlt,by go_num,rfl,ei.next ⟨NY.out.1,A4.out,NY.out.2.1,NY.out.2.2⟩⟩
          | ((repeat apply Exists.intro);exact ⟨⟨i+1,true,_,hlt,by go_num,rfl,ei.next ⟨NY.out.1,A4.out,NY.out.2.1,NY.out.2.2⟩⟩,rfl⟩)
         case measure=>simp [intOf];omega
       ·as_aux_lemma=>
        obtain ⟨u,v,rfl⟩:∃ u v,tf=[u,v]:=by
         have h2:tf.length=2:=by
          have:=HOK.out.tk _ HLI.out;rw [HTH.out] at this;simp [aW] at this;omega
         match tf,h2 with
         | [u,v],_=>exact ⟨u,v,rfl⟩
        have kT:aa (fun _=>False) w wt:=MT.out.K;have rdT:=HRD.out.ae kT (fun _ _ _ h=>h);obtain ⟨gf,of,rfl,hgf,u0,u1⟩:=rdT.val 0 (by simp);obtain ⟨_,_,e',-,v0,v1⟩:=rdT.val 1 (by simp);cases e';have lenE:([u,v]:List Vl).length=2:=rfl;simp only [List.getD_cons_zero,List.getD_cons_succ,Nat.zero_mul,Nat.add_zero,Nat.one_mul] at u0 u1 v0 v1;have hin:∀ y:Vl,y ∈ [u,v]→iH l.length y:=fun y hy h3=>by
         have:=HOK.out.tv _ HLI.out y (by rw [HTH.out];exact hy);have:=Wd.bg this h3;rw [HLL.out];exact ⟨this.1,this.2.1⟩
        have HIN:=Hz hin;have hll4:l.length≤1000000:=by have:=HLL.out;omega
        clear rdT kT hin;have hk3:=Hz (show (W.th (i:Int)).k=4 by rw [HTH.out]);have HW2:=Hz (show wr.alloc (.cells #[.int .i64 4, .slice (some ⟨gf,of,none⟩) 2 fc, .bool tol, .bool tde] 161)=wt from HWT.out);have hf3:=Hz (show (W.th (i:Int)).fs=[u,v] by rw [HTH.out]);go_wp2_with (refine aT rfl 161 (.tmp 31) rfl [.int .i64 4, .slice fo ([u,v]:List Vl).length fc, .bool tol, .bool tde] (by kernel_rfl) g (o+i*4) rfl (ab t0 (ab t1 (ab t2 (ab t3 aO)))) ?_);rw [HW2.out];clear t0 t1 t2 t3 p0 pl hgl hgo b1 d0;have b0:=MT.out.O.hb.cell 0;have bl:=MT.out.O.hb.lt;have x1:=BT.out.cell 1;have xl:=BT.out.lt;simp only [Lz,Ls] at b0 x1;refine aq (.free 1 (.pure 0 (.pure 2 (.free 3 (.pure 4 (.run 5 (.swi [] (.fin)))))))) [5] (fun w'=>w'.cell? ⟨b,0,none⟩=some (.slice (some ⟨go,oo,none⟩) is.length cap)∧w'.cell? ⟨wr.heap.size,1,none⟩=some (.slice (some ⟨gf,of,none⟩) 2 fc)∧w'.cell? ⟨gf,of,none⟩=some (.int .i64 u.1)∧w'.cell? ⟨gf,of+1,none⟩=some (.int .i64 u.2)) (by kernel_rfl) (by kernel_rfl) ⟨b0,x1,u0,u1⟩ ?_
        iterate 5 ((first | refine ak rfl rfl fun K hK=>?_ | refine aj rfl rfl fun K hK=>?_ | refine ay rfl rfl fun K hK=>?_ | refine av rfl rfl fun K hK=>?_ | refine ax rfl rfl fun K hK=>?_);go_simp;refine hK _ ?_;clear hK K)
        refine aG rfl rfl rfl (fun K hK=>?_);unfold aM;go_simp;have MD:=Hz (MT.out.same ((Kz wt).drew));obtain ⟨_,_,e',rdo,-,-⟩:=MD.out.O.hs.rd;obtain ⟨rfl,-,rfl⟩:=Value.slice.inj e';have HIS:=jn u (some ⟨go,oo,none⟩) cap l _ rdo hll4 (HIN.out u (by simp));rw [G2.out.len] at HIS;refine HIS.mono ?_;rintro e w3 ⟨rfl,hk⟩;have k3:aa (fun _=>False) wt w3:=((Kz wt).drew).trans hk;have M3:=Hz (MT.out.same k3);have B3:=Hz (k3.ai BT.out (fun h=>h));have v0':=k3.jr hgf v0;have v1':=k3.jr hgf v1;have hgf3:gf<w3.heap.size:=Nat.lt_of_lt_of_le hgf k3.size;refine hK _ _ ?_;clear hK K hk k3 HIS rdo e' b0 bl x1 xl u0 u1 v0 v1;refine aE (fun _=>True) trivial (aA ?_);cases hu:a5 l u
        ·have HU:=Hz hu;clear hu v0' v1';go_wp2_with fail;go_roundw
         case rel=>
          first
          | exact ⟨i+1,x,l,hlt,by go_num,rfl,ei.next ⟨M3.out,G2.out,F2.out,fun hm=>⟨Y2.out hm,by
           rcases F2.out with ⟨_,e⟩ | ⟨e,_⟩
           ·rw [←e];exact gu hk3.out hf3.out (fun h=>by rw [HU.out] at h;cases h)
           ·rw [e] at hm;cases hm⟩⟩⟩
          | ((repeat apply Exists.intro);exact ⟨⟨i+1,x,l,hlt,by go_num,rfl,ei.next ⟨M3.out,G2.out,F2.out,fun hm=>⟨Y2.out hm,by
           rcases F2.out with ⟨_,e⟩ | ⟨e,_⟩
           ·rw [←e];exact gu hk3.out hf3.out (fun h=>by rw [HU.out] at h;cases h)
           ·rw [e] at hm;cases hm⟩⟩⟩,rfl⟩)
         case measure=>simp [intOf];omega
        ·have LD:=Hz (G2.out.lead HAT.out (v:=v) (jQ hk3.out hf3.out hu));clear hu;have x1:=B3.out.cell 1;have xl:=B3.out.lt;simp only [Lz,Ls] at x1;go_wp2_with (refine aQ rfl 78 (.tmp 82) rfl (by kernel_rfl) gf _ rfl _ _ v0' v1' ?_);refine (iV v b _ l _ M3.out.O hll4 (HIN.out v (by simp))).mono ?_;rintro e w4 ⟨rfl,hO,hK⟩;have A4:=Hz (G2.out.add (HIN.out v (by simp)) LD.out);have NX:=Hz (And.intro (M3.out.add hO hK) (And.intro (F2.out.add (v:=v) (HIN.out v (by simp))) (gZ.add (v:=v) (r:=(∀ j:Nat,j<i→bK W q lp j)∧bK W q lp i) F2.out Y2.out (fun h1 h2=>⟨h1,gu hk3.out hf3.out (fun _=>h2)⟩))));clear hO hK x1 xl v0' v1';generalize (!a5 l v)=a at *;cases a
         ·have nx:=NX.out;simp only [Bool.false_or] at nx;have NY:=Hz nx;clear nx NX;go_wp2_with fail;go_roundw
          case rel=>
           first
           | exact ⟨i+1,x,_,hlt,by go_num,rfl,ei.next ⟨NY.out.1,A4.out,NY.out.2.1,NY.out.2.2⟩⟩
           | ((repeat apply Exists.intro);exact ⟨⟨i+1,x,_,hlt,by go_num,rfl,ei.next ⟨NY.out.1,A4.out,NY.out.2.1,NY.out.2.2⟩⟩,rfl⟩)
          case measure=>simp [intOf];omega
         ·have nx:=NX.out;simp only [Bool.true_or] at nx;have NY:=Hz nx;clear nx NX;go_wp2_with fail;go_roundw
          case rel=>
           first
           | exact ⟨i+1,true,_,hlt,by go_num,rfl,ei.next ⟨NY.out.1,A4.out,NY.out.2.1,NY.out.2.2⟩⟩
           | ((repeat apply Exists.intro);exact ⟨⟨i+1,true,_,hlt,by go_num,rfl,ei.next ⟨NY.out.1,A4.out,NY.out.2.1,NY.out.2.2⟩⟩,rfl⟩)
          case measure=>simp [intOf];omega
       ·as_aux_lemma=>
        go_wp2_with (refine aT rfl 161 (.tmp 31) rfl [.int .i64 5, .slice fo tf.length fc, .bool tol, .bool tde] (by kernel_rfl) g (o+i*4) rfl (ab t0 (ab t1 (ab t2 (ab t3 aO)))) ?_);rw [HWT.out];clear t0 t1 t2 t3 b0 bl p0 pl hgl hgo b1 d0;have hkk:=Hz (show (W.th (i:Int)).k=5 by rw [HTH.out]);go_loopw [7,11] (fun m u wr2=>∃ (f:Nat) (x:Bool) (l:List Bool),f≤q.length∧u=.int .i64 f∧m=.bool x∧GM w wr2 b (.slice (some ⟨go,oo,none⟩) is.length cap) l∧dC W q is l∧Fl x lp l∧gZ x ((∀ j:Nat,j<i→bK W q lp j)∧∀ e ∈ q.take f,e.1=(i:Int)→a5 lp (3,e.2)=true)∧az l (i:Int)=true) (fun _ u _=>q.length-(intOf u).toNat)
        case atStart=>exact ⟨0,x,l,Nat.zero_le _,rfl,rfl,MT.out,G2.out,F2.out,fun hm=>⟨Y2.out hm,(fun e he=>by simp at he)⟩,HAT.out⟩
        case round=>
         obtain ⟨f,x,l,hf,rfl,rfl,hM,hG,hF,hY,hA⟩:=hrel;have M3:=Hz hM;have G3:=Hz hG;have F3:=Hz hF;have Y3:=Hz hY;have A3:=Hz hA;obtain ⟨⟨c1,c2,c3,c4,hp⟩,-,hw⟩:=HG.out.same hM.K;have p3:=hp.cell 3;have pl:=hp.lt;simp only [Lz,Ls] at p3;have hll3:l.length=W.T.length:=hG.len.trans HLEN.out;clear hM hG hF hY hA hp;by_cases hlt3:f<q.length
         ·obtain ⟨_,_,e',rd3,-,-⟩:=hw.rd;cases e';obtain ⟨gf,of,rfl,hgf,v0,v1⟩:=rd3.dM f hlt3;have hmem:q.getD f (0,0) ∈ q:=by rw [Ld,Le hlt3];exact List.getElem_mem hlt3
          have htk:=Hz (show q.take (f+1)=q.take f ++ [q.getD f (0,0)] by rw [←List.take_append_getElem hlt3,Ld,Le hlt3];rfl);have HMM:=Hz hmem;generalize q.getD f (0,0)=v at *;obtain ⟨v1g,v2g⟩:=v;dsimp only at v0 v1;have hin:iH l.length (3,v2g):=fun h3=>by
           have:=(HQ.out _ HMM.out).2.2;exact ⟨this.1,by rw [hll3];exact this.2.1⟩
          have HIN:=Hz hin;clear hmem hin rd3 hll3 hw;by_cases he:v1g=(i:Int)
          ·have hd:(v1g == (i:Int))=true:=by simpa using he
           have LD:=Hz (G3.out.lead A3.out (v:=(3,v2g)) (kl hkk.out HMM.out he));have HE:=Hz he;clear he;go_wp2_with fail;refine (iV (3,v2g) b _ l _ M3.out.O (by have:=G3.out.len;omega) HIN.out).mono ?_;rintro e w3 ⟨rfl,hO,hK⟩;have A4:=Hz ((G3.out.add HIN.out (fun _=>LD.out trivial)));have A5:=Hz (show az (cZ l (3,v2g)) (i:Int)=true by
            have:=A3.out;unfold cZ;split
            ·exact this
            ·exact (cE (HIN.out rfl).1 (HIN.out rfl).2).2 (.inr this))
           have NX:=Hz (And.intro (M3.out.add hO hK) (And.intro (F3.out.add (v:=(3,v2g)) HIN.out) (gZ.add (v:=(3,v2g)) (r:=(∀ j:Nat,j<i→bK W q lp j)∧∀ e ∈ q.take (f+1),e.1=(i:Int)→a5 lp (3,e.2)=true) F3.out Y3.out (fun h1 h2=>⟨h1.1,fun u hu h5=>by
            rw [htk.out] at hu;rcases List.mem_append.1 hu with hu | hu
            ·exact h1.2 u hu h5
            ·rw [List.mem_singleton] at hu;subst hu;exact h2⟩))))
           clear hO hK p3 pl v0 v1 hgf;generalize (!a5 l (3,v2g))=a at *;cases a
           ·have nx:=NX.out;simp only [Bool.false_or] at nx;have NY:=Hz nx;clear nx NX;go_wp2_with fail;go_roundw
            case rel=>
             first
             | exact ⟨f+1,x,_,hlt3,by go_num,rfl,NY.out.1,A4.out,NY.out.2.1,NY.out.2.2,A5.out⟩
             | ((repeat apply Exists.intro);exact ⟨⟨f+1,x,_,hlt3,by go_num,rfl,NY.out.1,A4.out,NY.out.2.1,NY.out.2.2,A5.out⟩,rfl⟩)
            case measure=>simp [intOf];omega
           ·have nx:=NX.out;simp only [Bool.true_or] at nx;have NY:=Hz nx;clear nx NX;go_wp2_with fail;go_roundw
            case rel=>
             first
             | exact ⟨f+1,true,_,hlt3,by go_num,rfl,NY.out.1,A4.out,NY.out.2.1,NY.out.2.2,A5.out⟩
             | ((repeat apply Exists.intro);exact ⟨⟨f+1,true,_,hlt3,by go_num,rfl,NY.out.1,A4.out,NY.out.2.1,NY.out.2.2,A5.out⟩,rfl⟩)
            case measure=>simp [intOf];omega
          ·have hd:(v1g == (i:Int))=false:=by simpa using he
           have HE:=Hz he;clear he;go_wp2_with fail;go_roundw
           case rel=>
            first
            | exact ⟨f+1,x,l,hlt3,by go_num,rfl,M3.out,G3.out,F3.out,fun hm=>⟨(Y3.out hm).1,fun u hu h5=>by
             rw [htk.out] at hu;rcases List.mem_append.1 hu with hu | hu
             ·exact (Y3.out hm).2 u hu h5
             ·rw [List.mem_singleton] at hu;subst hu;exact (HE.out h5).elim⟩,A3.out⟩
            | ((repeat apply Exists.intro);exact ⟨⟨f+1,x,l,hlt3,by go_num,rfl,M3.out,G3.out,F3.out,fun hm=>⟨(Y3.out hm).1,fun u hu h5=>by
             rw [htk.out] at hu;rcases List.mem_append.1 hu with hu | hu
             ·exact (Y3.out hm).2 u hu h5
             ·rw [List.mem_singleton] at hu;subst hu;exact (HE.out h5).elim⟩,A3.out⟩,rfl⟩)
           case measure=>simp [intOf];omega
         ·obtain rfl:f=q.length:=by omega
          clear hll3 hw;go_wp2_with fail;go_roundw
          case rel=>
           first
           | exact ⟨i+1,x,l,hlt,by go_num,rfl,ei.next ⟨M3.out,G3.out,F3.out,fun hm=>⟨(Y3.out hm).1,g3 hkk.out (fun e he h5=>(Y3.out hm).2 e (by rw [List.take_length];exact he) h5)⟩⟩⟩
           | ((repeat apply Exists.intro);exact ⟨⟨i+1,x,l,hlt,by go_num,rfl,ei.next ⟨M3.out,G3.out,F3.out,fun hm=>⟨(Y3.out hm).1,g3 hkk.out (fun e he h5=>(Y3.out hm).2 e (by rw [List.take_length];exact he) h5)⟩⟩⟩,rfl⟩)
          case measure=>simp [intOf];omega
     ·obtain rfl:i=W.T.length:=by omega
      clear ht;go_wp2_with fail
      go_roundg (iU l+if x then 1 else 0)
      case measure=>
       have h1:=HU.out;have h2:=F2.out;simp only [if_true] at h1;rcases h2 with ⟨rfl,rfl⟩ | ⟨rfl,h2⟩
       ·simp;omega
       ·simp;omega
      case rel=>
       refine ⟨x,l,rfl,⟨M2.out,G2.out,fun hm=>?_⟩,Nat.le_refl _⟩;rcases F2.out with ⟨_,e⟩ | ⟨e,_⟩
       ·rw [e] at HLL ⊢;rw [HLL.out];exact Y2.out hm
       ·rw [e] at hm;cases hm
end
end
section
open Go.RowKit
def dA (W:Wd) (major:Bool) (k:Nat):List Bool:=(List.range W.T.length).map fun (i:Nat)=>decide (i<k) && ((W.th (i:Int)).aR && !(W.th (i:Int)).dead && !major)
def cm (W:Wd) (major:Bool) (k:Nat):List Bool:=(List.range W.T.length).map fun (i:Nat)=>((W.th (i:Int)).aR && !(W.th (i:Int)).dead && !major) || (W.roots.take k).any fun v=>v.1 == 3 && v.2 == (i:Int)
theorem ko (W:Wd) (major:Bool) (k:Nat):(dA W major k).length=W.T.length:=by simp [dA]
theorem kp (W:Wd) (major:Bool) (k:Nat):(cm W major k).length=W.T.length:=by simp [cm]
theorem mS (W:Wd) (major:Bool):dA W major 0=List.replicate W.T.length false:=by
 unfold dA;rw [List.eq_replicate_iff];refine ⟨by simp,fun b hb=>?_⟩;simp at hb;exact hb.2
theorem mT (W:Wd) (major:Bool) {k:Nat} (h:k<W.T.length):(dA W major k).set k ((W.th (k:Int)).aR && !(W.th (k:Int)).dead && !major)=dA W major (k+1):=by
 unfold dA;apply List.ext_getElem (by simp);intro j h1 h2;simp only [List.getElem_set,List.getElem_map,List.getElem_range];split
 ·rename_i e;subst e;simp
 ·rename_i e;congr 1;simp only [decide_eq_decide];omega
theorem n7 (W:Wd) (major:Bool):dA W major W.T.length=cm W major 0:=by
 unfold dA cm;apply List.map_congr_left;intro i hi;have:i<W.T.length:=by simpa using hi
 simp [this]
theorem n8 (W:Wd) (major:Bool):cm W major W.roots.length=W.first major:=by
 unfold cm Wd.first
 rw [List.take_length]
theorem mU (W:Wd) (major:Bool) {k:Nat} (h:k<W.roots.length) {v:Vl} (hv:W.roots.getD k (0,0)=v):cm W major (k+1)=if v.1=3 then (if 0≤v.2 then (cm W major k).set v.2.toNat true else cm W major k) else cm W major k:=by
 have e:W.roots.take (k+1)=W.roots.take k ++ [v]:=by
  rw [←List.take_append_getElem h,←hv,Ld,Le h];rfl
 have h1:cm W major (k+1)=(List.range W.T.length).map fun (i:Nat)=>(((W.th (i:Int)).aR && !(W.th (i:Int)).dead && !major) || (W.roots.take k).any fun v=>v.1 == 3 && v.2 == (i:Int)) || (v.1 == 3 && v.2 == (i:Int)):=by
  unfold cm;rw [e];apply List.map_congr_left;intro i _;simp [Bool.or_assoc]
 rw [h1];by_cases h3:v.1=3
 ·rw [if_pos h3];by_cases h0:0≤v.2
  ·rw [if_pos h0];unfold cm;apply List.ext_getElem (by simp);intro j h1 h2;simp only [List.getElem_set,List.getElem_map,List.getElem_range];split
   ·rename_i e;have:v.2=(j:Int):=by omega
    simp [h3,this]
   ·rename_i e;have:¬ v.2=(j:Int):=by omega
    simp [this]
  ·rw [if_neg h0];unfold cm;apply List.map_congr_left;intro i _;have:¬ v.2=(i:Int):=by omega
   simp [this]
 ·rw [if_neg h3];unfold cm;apply List.map_congr_left;intro i _;simp [h3]
section
variable {w:World} {h:RW} {W:Wd}
theorem aK.gr (H:aK w h W):kK w h.p h.tv h.wv h.F W W.wait:=⟨⟨_,_,_,_,H.hp⟩,H.ht,H.hw⟩
theorem rD (major:Bool) (H:aK w h W) (hT:W.T.length≤100000) :
  Calls Try.prog 126 #[.pointer (some ⟨h.p,0,none⟩), .bool major] w (jW w (W.first major)):=by
 obtain ⟨ib,hi,hz0,hz1,hz2⟩:=info_parts eD;have hmk:=cB (P:=Try.prog) w 76 4 ib (.bool false) Try.underlying76 hi hz0 rfl hz1 W.T.length (by rw [hz2];omega) (by omega);have HM:=Hz hmk;clear hi hz0 hz1 hz2;have HH:=Hz H;obtain ⟨no,nc,hno,-⟩:=H.ht.nth;obtain ⟨ro,rc,hro,-,-,-⟩:=H.hr.rd;obtain ⟨c0,c1,-,-,-,-⟩:=H.cells;rw [hno] at c0;rw [hro] at c1;have pl:=H.hp.lt;have hok:=H.ok;have HOK:=Hz hok;have HNO:=Hz hno;have HRO:=Hz hro;have h12:=hok.hr;clear H hok hno hro;go_enter Try.func126,Try.ntmps126;go_wp2_with fail;generalize hwx:w.alloc (.cells (Array.replicate W.T.length (.bool false)) 4)=wx;have KX:=Hz (show aa (fun _=>False) w wx by rw [←hwx];exact (aa.refl _ _).alloc _);have BX:=Hz (show ah wx w.heap.size ((dA W major 0).map Value.bool) 4 by rw [←hwx,mS];exact ah.newAt _ rfl (by simp));have HX:=Hz hwx;clear hwx
 try rw [HX.out]
 go_loopw [6] (fun u wr=>∃ k:Nat,k≤W.T.length∧u=.int .i64 k∧aa (fun _=>False) w wr∧ah wr w.heap.size ((dA W major k).map Value.bool) 4) (fun u _=>W.T.length-(intOf u).toNat)
 case atStart=>exact ⟨0,Nat.zero_le _,rfl,KX.out,BX.out⟩
 case round=>
  clear c0 c1 pl;obtain ⟨k,hk,rfl,hK,hB⟩:=hrel;have K:=Hz hK;have B:=Hz hB;have HW:=Hz (HH.out.same hK);obtain ⟨c0,c1,-,-,-,-⟩:=HW.out.cells;rw [HNO.out] at c0;rw [HRO.out] at c1;have pl:=HW.out.hp.lt;clear hK hB;by_cases hlt:k<W.T.length
  ·obtain ⟨_,_,e',N⟩:=HW.out.ht.nth;rw [HNO.out] at e';cases e';obtain ⟨g,o,fo,fc,rfl,-,hgl,t0,t1,t2,t3,-,-,-⟩:=N k hlt;have HST:=Hz (mT W major hlt);have HTH:=Hz (show W.th (k:Int)=W.T.getD k Th.none by unfold Wd.th;rw [Int.toNat_natCast]);have x0:=B.out.cell k;have xl:=B.out.lt;have xf:=B.out.free k;rw [List.getElem?_map,Le (by rw [ko];exact hlt)] at x0;simp only [Option.map_some] at x0;generalize (dA W major k)[k]'(by rw [ko];exact hlt)=b0 at x0;have hne:g≠w.heap.size:=fun e=>by
    subst e;obtain ⟨cs,hs,-⟩:=HW.out.ht;obtain ⟨_,c',hc⟩:=hs.own (k:=w.heap.size) (by rw [HNO.out];rfl);exact B.out.ne hc (by decide) rfl
   generalize W.T.getD k Th.none=t at *;obtain ⟨tk,tf,tol,tde⟩:=t;dsimp only at t0 t1 t2 t3 HTH;clear N;cases tol <;> cases tde <;> cases major
   all_goals
    go_wp2_with fail;go_roundw
    case rel=>
     refine ⟨k+1,hlt,by go_num,K.out.setCell (p:=⟨w.heap.size,k,none⟩) (.inr (Nat.le_refl _)) _,?_⟩;rw [←HST.out,List.map_set,HTH.out];exact B.out.aF k _
    case measure=>simp [intOf];omega
  ·obtain rfl:k=W.T.length:=by omega
   rw [n7] at B;go_wp2_with fail;go_loopw [7] (fun u wr=>∃ k:Nat,k≤12∧u=.int .i64 k∧aa (fun _=>False) w wr∧ah wr w.heap.size ((cm W major k).map Value.bool) 4) (fun u _=>12-(intOf u).toNat)
   case atStart=>exact ⟨0,Nat.zero_le _,rfl,K.out,B.out⟩
   case round=>
    clear c0 c1 pl HW;obtain ⟨k,hk,rfl,hK,hB⟩:=hrel;have K:=Hz hK;have B:=Hz hB;have HW:=Hz (HH.out.same hK);obtain ⟨c0,c1,-,-,-,-⟩:=HW.out.cells;rw [HNO.out] at c0;rw [HRO.out] at c1;have pl:=HW.out.hp.lt;clear hK hB;by_cases hlt2:k<12
    ·obtain ⟨_,_,e',rd,-,-⟩:=HW.out.hr.rd;rw [HRO.out] at e';cases e';obtain ⟨g,o,rfl,hgl,v0,v1⟩:=rd.val k (by omega);have HST:=Hz (mU W major (k:=k) (by omega) rfl);have hokv:=HOK.out.rv (W.roots.getD k (0,0)) (by rw [Ld,Le (by omega)];exact List.getElem_mem _);have HV:=Hz hokv;generalize W.roots.getD k (0,0)=v at *;obtain ⟨vk,vn⟩:=v;dsimp only at v0 v1;clear rd hokv;by_cases h3:vk=3
     ·subst h3;have hlv:=Wd.bg HV.out rfl;have h0:=hlv.1;have h1:=hlv.2.1;dsimp only at h0 h1;obtain ⟨m,rfl⟩:∃ m:Nat,vn=m:=⟨vn.toNat,by omega⟩;have hm:m<W.T.length:=by omega
      have HS2:=Hz (HST.out.trans (by rw [if_pos rfl,if_pos (by omega)]));have x0:=B.out.cell m;have xl:=B.out.lt;have xf:=B.out.free m;rw [List.getElem?_map,Le (by rw [kp];exact hm)] at x0;simp only [Option.map_some] at x0;generalize (cm W major k)[m]'(by rw [kp];exact hm)=b0 at x0;clear hlv HST;go_wp2_with fail;go_roundw
      case rel=>
       have hset:=B.out.aF m (.bool true);rw [←List.map_set] at hset;have e:(cm W major k).set m true=cm W major (k+1):=by rw [HS2.out];simp
       rw [e] at hset;refine ⟨k+1,hlt2,by go_num,?_,hset⟩;exact K.out.setCell (p:=⟨w.heap.size,m,none⟩) (.inr (Nat.le_refl _)) _
      case measure=>simp [intOf];omega
     ·have hkb:(vk == 3)=false:=by simpa using h3
      have HS2:=Hz (HST.out.trans (if_neg h3));clear h3 HST;go_wp2_with fail;go_roundw
      case rel=>exact ⟨k+1,hlt2,by go_num,K.out,by rw [HS2.out];exact B.out⟩
      case measure=>simp [intOf];omega
    ·obtain rfl:k=12:=by omega
     have hall:cm W major 12=W.first major:=by rw [←h12];exact n8 W major
     have hlen:=W.de major;rw [hall] at B;clear hall;have HLE:=Hz hlen;clear hlen;go_wp2_with fail;go_ret;refine ⟨some ⟨w.heap.size,0,none⟩,W.T.length,by rw [HLE.out];rfl,⟨by simp, .inr ⟨w.heap.size,0,W.T.length,_,rfl,B.out,by rw [HLE.out];exact Nat.le_refl _,by unfold maxLen;omega,by simp [HLE.out],?_⟩⟩,K.out,fun k hk=>?_⟩
     ·rw [List.drop_zero];exact List.take_of_length_le (by simp)
     ·simp [ag,Value.ownBlock] at hk;omega
end
end
section
open Go.RowKit
theorem i4:(Try.prog.info? 159).map (fun i=>(i.zero,i.size,i.bytes))=some (some (.agg #[.int .i64 0, .int .i64 0]),2,16):=by kernel_rfl
structure eH (w0 wr:World) (h:RW) (W:Wd) (iv:Value) (is:List Bool) (g8 g9:Nat) (items:List It) (x1:Nat) (qv:Value) (q:List (Int × Int)):Prop where
 K:aa (fun _=>False) w0 wr
 I:Sl wr 4 1 iv is.length (is.map Value.bool)
 D:ah wr g8 (items.map fun i=>.bool i.2.1) 4
 M:ah wr g9 (items.map fun i=>.bool i.2.2) 4
 X:ah wr x1 [h.tv,h.rv,h.gv,qv, .int .i64 W.most, .int .i64 W.grow] 150
 Q:Sl wr 159 2 qv q.length (au q)
 i8:¬ ag iv g8
 i9:¬ ag iv g9
 n:g8≠g9
 oi:∀ k,ag iv k→w0.heap.size≤k
 o8:w0.heap.size≤g8
 o9:w0.heap.size≤g9
 ox:w0.heap.size≤x1
 oq:∀ k,ag qv k→w0.heap.size≤k
section
variable {w0 wr w2:World} {h:RW} {W:Wd} {iv qv:Value} {is:List Bool} {g8 g9 x1:Nat} {items:List It} {q:List (Int × Int)}
theorem eH.same (C:eH w0 wr h W iv is g8 g9 items x1 qv q) (k:aa (fun _=>False) wr w2):eH w0 w2 h W iv is g8 g9 items x1 qv q:=
 ⟨C.K.trans k,C.I.ae k (fun _ _ h=>h),k.ai C.D (fun h=>h),k.ai C.M (fun h=>h),k.ai C.X (fun h=>h),C.Q.ae k (fun _ _ h=>h),C.i8,C.i9,C.n,C.oi,C.o8,C.o9,C.ox,C.oq⟩
theorem eH.gr (C:eH w0 wr h W iv is g8 g9 items x1 qv q) (H:aK w0 h W):kK wr x1 h.tv qv h.F W q:=
 ⟨⟨_,_,_,_,C.X⟩,H.ht.ae C.K (fun _ _ _ h=>h) (fun _ _ h=>h),C.Q⟩
theorem eH.grown (C:eH w0 wr h W iv is g8 g9 items x1 qv q) {ao:Option Addr} {l:List Bool} {cap:Nat} (hs:Sl w2 4 1 (.slice ao l.length cap) l.length (l.map Value.bool)) (k:aa (fun _=>False) wr w2) (ho:∀ j,ag (.slice ao l.length cap) j→wr.heap.size≤j) :
  eH w0 w2 h W (.slice ao l.length cap) l g8 g9 items x1 qv q:=by
 have C2:=C.same k;exact ⟨C2.K,hs,C2.D,C2.M,C2.X,C2.Q,fun hb=>by have:=ho _ hb;have:=C.D.lt;omega,fun hb=>by have:=ho _ hb;have:=C.M.lt;omega,C.n,fun j hj=>Nat.le_trans C.K.size (ho j hj),C.o8,C.o9,C.ox,C.oq⟩
theorem eH.wait (C:eH w0 wr h W iv is g8 g9 items x1 qv q) {wa:World} {e:Int × Int} {v2:Value} (ka:aa (fun _=>False) wr wa) (hs:Sl w2 159 2 v2 (q.length+1) (au q ++ [.int .i64 e.1, .int .i64 e.2])) (k:aa (ag qv) wa w2)
  (ho:∀ j,ag v2 j→ag qv j∨wa.heap.size≤j):eH w0 (w2.setCell ⟨x1,3,none⟩ v2) h W iv is g8 g9 items x1 v2 (q ++ [e]):=by
 have C1:=C.same ka;have ne:∀ {b:Nat} {c:List Value} {T:TypeId},ah wa b c T→T≠159→¬ ag qv b:=fun hb hT hq=>by
  obtain ⟨_,c',hc⟩:=C1.Q.own hq;exact hb.ne hc hT rfl
 have hX:=k.ai C1.X (ne C1.X (by decide));have set:=(aa.refl (·=x1) w2).setCell (p:=⟨x1,3,none⟩) (.inl rfl) v2;have nx:∀ {b:Nat} {c:List Value} {T:TypeId},ah w2 b c T→T≠150→¬ b=x1:=fun hb hT=>hb.ne hX hT;have hD:=k.ai C1.D (ne C1.D (by decide));have hM:=k.ai C1.M (ne C1.M (by decide));have hI:=C1.I.ae k (fun b hb=>by obtain ⟨_,c,hc⟩:=C1.I.own hb;exact ne hc (by decide));refine ⟨(C1.K.then k (fun j hj=>.inr (C.oq j hj))).then set (fun j hj=>.inr (by rw [hj];exact C.ox)),hI.ae set (fun b hb=>by obtain ⟨_,c,hc⟩:=hI.own hb;exact nx hc (by decide)),set.ai hD (nx hD (by decide)),set.ai hM (nx hM (by decide)),by simpa using hX.aF 3 v2,?_,C.i8,C.i9,C.n,C.oi,C.o8,C.o9,C.ox,?_⟩
 ·have e1:(q ++ [e]).length=q.length+1:=by simp
  have e2:au (q ++ [e])=au q ++ [.int .i64 e.1, .int .i64 e.2]:=by simp [au]
  rw [e1,e2];exact hs.ae set (fun b hb=>by obtain ⟨_,c,hc⟩:=hs.own hb;exact nx hc (by decide))
 ·intro j hj;rcases ho j hj with h1 | h1
  ·exact C.oq j h1
  ·have:=C1.K.size;omega
theorem eH.alive (C:eH w0 wr h W iv is g8 g9 items x1 qv q) {g o cap i:Nat} (e:iv=.slice (some ⟨g,o,none⟩) is.length cap) (hi:i<is.length):eH w0 (wr.setCell ⟨g,o+i,none⟩ (.bool true)) h W iv (is.set i true) g8 g9 items x1 qv q:=by
 have hown:ag iv g:=by rw [e];rfl
 obtain ⟨_,c,hg⟩:=C.I.own hown;have set:=(aa.refl (·=g) wr).setCell (p:=⟨g,o+i,none⟩) (.inl rfl) (.bool true);have nx:∀ {b:Nat} {c:List Value} {T:TypeId},ah wr b c T→T≠4→¬ b=g:=fun hb hT=>hb.ne hg hT;refine ⟨C.K.then set (fun j hj=>.inr (by rw [hj];exact C.oi g hown)),?_,set.ai C.D (fun e=>C.i8 (by rw [e];exact hown)),set.ai C.M (fun e=>C.i9 (by rw [e];exact hown)),set.ai C.X (nx C.X (by decide)),C.Q.ae set (fun b hb=>by obtain ⟨_,c,hc⟩:=C.Q.own hb;exact nx hc (by decide)),C.i8,C.i9,C.n,C.oi,C.o8,C.o9,C.ox,C.oq⟩;have hs:=C.I;rw [e] at hs ⊢;have:=hs.set (j:=i) (u:=.bool true) (by omega);rw [List.length_set,List.map_set];exact this
theorem eH.sS (C:eH w0 wr h W iv is g8 g9 items x1 qv q) {k:Nat} (hk:k<items.length) {e:Int × Int} {d:Bool} {b:Bool} (hi:items[k]=(e,d,b)):eH w0 (wr.setCell ⟨g9,k,none⟩ (.bool true)) h W iv is g8 g9 (items.set k (e,d,true)) x1 qv q:=by
 have set:=(aa.refl (·=g9) wr).setCell (p:=⟨g9,k,none⟩) (.inl rfl) (.bool true);have nx:∀ {b:Nat} {c:List Value} {T:TypeId},ah wr b c T→T≠4→¬ b=g9:=fun hb hT=>hb.ne C.M hT;have e1:(items.set k (e,d,true)).map (fun i=>Value.bool i.2.1)=items.map fun i=>.bool i.2.1:=by
  rw [List.map_set];apply List.ext_getElem (by simp);intro j h1 h2;rw [List.getElem_set];split
  ·rename_i e;subst e;simp [hi]
  ·rfl
 refine ⟨C.K.then set (fun j hj=>.inr (by rw [hj];exact C.o9)),C.I.ae set (fun b hb e=>C.i9 (by rw [←e];exact hb)),by rw [e1];exact set.ai C.D (fun e=>C.n e),?_,set.ai C.X (nx C.X (by decide)),C.Q.ae set (fun b hb=>by obtain ⟨_,c,hc⟩:=C.Q.own hb;exact nx hc (by decide)),C.i8,C.i9,C.n,C.oi,C.o8,C.o9,C.ox,C.oq⟩;rw [List.map_set];exact C.M.aF k (.bool true)
end
theorem ew.put {w:World} {v:Value} {F F':Nat→Prop} {l:List Th} {g o cap k j:Nat} {t':Th} {u:Value} (H:ew w v F l) (e:v=.slice (some ⟨g,o,none⟩) l.length cap) (hk:k<l.length) (hj:j<4) (hF:∀ b,F b→b≠g) (hFF:∀ b,F b→F' b)
  (hR:∀ r,r.length=4→dX (w.setCell ⟨g,o+k*4+j,none⟩ u) F' l[k] r→dX (w.setCell ⟨g,o+k*4+j,none⟩ u) F' t' (r.set j u)):ew (w.setCell ⟨g,o+k*4+j,none⟩ u) v F' (l.set k t'):=by
 obtain ⟨cs,hs,hr⟩:=H;have set:=(aa.refl (·=g) w).setCell (p:=⟨g,o+k*4+j,none⟩) (.inl rfl) u;refine ⟨cs.set (k*4+j) u,?_,?_⟩
 ·rw [List.length_set];rw [e] at hs ⊢;have hm:k*4+4≤l.length*4:=by omega
  have:=hs.set (j:=k*4+j) (u:=u) (by omega);rw [Nat.add_assoc];exact this
 ·have hr':=hr.mono (Q:=dX (w.setCell ⟨g,o+k*4+j,none⟩ u) F') (fun a _ r h=>(h.ae set (fun b hb _=>hF b hb)).more hFF);exact bp.setCell hk hj hr' hR
structure c8 (w0 wr:World) (h:RW) (W:Wd) (gv wv:Value) (rg wt:List (Int × Int)) (F:Nat→Prop) (T:List Th) (iv:Value) (is:List Bool):Prop where
 hp:ah wr h.p [h.tv,h.rv,gv,wv, .int .i64 W.most, .int .i64 W.grow] 150
 ht:ew wr h.tv F T
 hr:Sl wr 78 2 h.rv W.roots.length (au W.roots)
 hg:Sl wr 159 2 gv rg.length (au rg)
 hw:Sl wr 159 2 wv wt.length (au wt)
 I:Sl wr 4 1 iv is.length (is.map Value.bool)
 K:aa h.Own w0 wr
 ap:∀ k,¬ (ag gv k∧ag wv k)
 af:∀ k,F k→(h.F k∨w0.heap.size≤k)∧k<wr.heap.size∧(∃ c,ah wr k c 78)∧¬ ag h.rv k
 og:∀ k,ag gv k→w0.heap.size≤k
 ow:∀ k,ag wv k→w0.heap.size≤k
section
variable {w0 wr w2:World} {h:RW} {W:Wd} {gv wv iv:Value} {rg wt:List (Int × Int)} {F:Nat→Prop} {T:List Th} {is:List Bool}
theorem c8.same (M:c8 w0 wr h W gv wv rg wt F T iv is) (k:aa (fun _=>False) wr w2):c8 w0 w2 h W gv wv rg wt F T iv is:=
 ⟨k.ai M.hp (fun h=>h),M.ht.ae k (fun _ _ _ h=>h) (fun _ _ h=>h),M.hr.ae k (fun _ _ h=>h),M.hg.ae k (fun _ _ h=>h),M.hw.ae k (fun _ _ h=>h),M.I.ae k (fun _ _ h=>h),M.K.trans (k.mono fun _ _ h=>h.elim),M.ap,
  fun j hj=>by
   obtain ⟨h1,h2,⟨c,h3⟩,h4⟩:=M.af j hj
   exact ⟨h1,Nat.lt_of_lt_of_le h2 k.size,⟨c,k.ai h3 (fun h=>h)⟩,h4⟩,M.og,M.ow⟩
theorem c8.put {F':Nat→Prop} {g o cap k j:Nat} {t':Th} {u:Value} (M:c8 w0 wr h W gv wv rg wt F T iv is) (e:h.tv=.slice (some ⟨g,o,none⟩) T.length cap) (hk:k<T.length) (hj:j<4) (hFF:∀ b,F b→F' b)
  (hF':∀ b,F' b→F b∨(w0.heap.size≤b∧b<wr.heap.size∧(∃ c,ah wr b c 78)∧¬ ag h.rv b))
  (hR:∀ r,r.length=4→dX (wr.setCell ⟨g,o+k*4+j,none⟩ u) F' T[k] r→dX (wr.setCell ⟨g,o+k*4+j,none⟩ u) F' t' (r.set j u)):c8 w0 (wr.setCell ⟨g,o+k*4+j,none⟩ u) h W gv wv rg wt F' (T.set k t') iv is:=by
 have hown:ag h.tv g:=by rw [e];rfl
 obtain ⟨c,hg⟩:∃ c,ah wr g c 161:=by obtain ⟨cs,hs,_⟩:=M.ht;exact (hs.own hown).2
 have set:=(aa.refl (·=g) wr).setCell (p:=⟨g,o+k*4+j,none⟩) (.inl rfl) u;have nx:∀ {b:Nat} {c:List Value} {U:TypeId},ah wr b c U→U≠161→¬ b=g:=fun hb hT=>hb.ne hg hT;have nF:∀ b,F b→b≠g:=fun b hb=>by obtain ⟨_,_,⟨c,hc⟩,_⟩:=M.af b hb;exact nx hc (by decide)
 refine ⟨set.ai M.hp (nx M.hp (by decide)),M.ht.put e hk hj nF hFF hR,M.hr.ae set (fun b hb=>by obtain ⟨_,c,hc⟩:=M.hr.own hb;exact nx hc (by decide)),M.hg.ae set (fun b hb=>by obtain ⟨_,c,hc⟩:=M.hg.own hb;exact nx hc (by decide)),
  M.hw.ae set (fun b hb=>by obtain ⟨_,c,hc⟩:=M.hw.own hb;exact nx hc (by decide)),M.I.ae set (fun b hb=>by obtain ⟨_,c,hc⟩:=M.I.own hb;exact nx hc (by decide)),M.K.trans (set.mono (fun b _ hb=>.inr (.inl (by rw [hb];exact hown)))),M.ap,fun b hb=>?_,M.og,M.ow⟩
 rcases hF' b hb with h1 | ⟨h1,h2,⟨c,h3⟩,h4⟩
 ·obtain ⟨a1,a2,⟨c,a3⟩,a4⟩:=M.af b h1;exact ⟨a1,by simpa using a2,⟨c,set.ai a3 (nx a3 (by decide))⟩,a4⟩
 ·exact ⟨.inr h1,by simpa using h2,⟨c,set.ai h3 (nx h3 (by decide))⟩,h4⟩
theorem c8.rE {g o cap k:Nat} (M:c8 w0 wr h W gv wv rg wt F T iv is) (e:h.tv=.slice (some ⟨g,o,none⟩) T.length cap) (hk:k<T.length):c8 w0 (wr.setCell ⟨g,o+k*4+3,none⟩ (.bool true)) h W gv wv rg wt F (T.set k ⟨T[k].k,T[k].fs,T[k].aR,true⟩) iv is:=
 M.put e hk (by decide) (fun _ h=>h) (fun _ h=>.inl h) (fun r _ hr=>by
  obtain ⟨ao,cap,rfl,h1,h2,h3⟩:=hr
  exact ⟨ao,cap,rfl,h1,h2,h3⟩)
theorem c8.sw {g o cap k:Nat} (M:c8 w0 wr h W gv wv rg wt F T iv is) (e:h.tv=.slice (some ⟨g,o,none⟩) T.length cap) (hk:k<T.length):c8 w0 (wr.setCell ⟨g,o+k*4+1,none⟩ (.slice none 0 0)) h W gv wv rg wt F (T.set k ⟨T[k].k,[],T[k].aR,T[k].dead⟩) iv is:=
 M.put e hk (by decide) (fun _ h=>h) (fun _ h=>.inl h) (fun r _ hr=>by
  obtain ⟨ao,cap,rfl,h1,h2,h3⟩:=hr
  exact ⟨none,0,rfl,Rd.nil _ _,(fun a h=>by cases h),Nat.zero_le _⟩)
theorem c8.sx {g o cap k:Nat} (M:c8 w0 wr h W gv wv rg wt F T iv is) (e:h.tv=.slice (some ⟨g,o,none⟩) T.length cap) (hk:k<T.length):c8 w0 (wr.setCell ⟨g,o+k*4+2,none⟩ (.bool true)) h W gv wv rg wt F (T.set k ⟨T[k].k,T[k].fs,true,T[k].dead⟩) iv is:=
 M.put e hk (by decide) (fun _ h=>h) (fun _ h=>.inl h) (fun r _ hr=>by
  obtain ⟨ao,cap,rfl,h1,h2,h3⟩:=hr
  exact ⟨ao,cap,rfl,h1,h2,h3⟩)
theorem c8.jq {g o cap k b:Nat} {u v:Vl} (M:c8 w0 wr h W gv wv rg wt F T iv is) (e:h.tv=.slice (some ⟨g,o,none⟩) T.length cap) (hk:k<T.length) (hb:ah wr b (au [u,v]) 78) (h0:w0.heap.size≤b) (hr:¬ ag h.rv b) :
  c8 w0 (wr.setCell ⟨g,o+k*4+1,none⟩ (.slice (some ⟨b,0,none⟩) 2 2)) h W gv wv rg wt (fun j=>F j∨j=b) (T.set k ⟨T[k].k,[u,v],T[k].aR,T[k].dead⟩) iv is:=by
 have hown:ag h.tv g:=by rw [e];rfl
 obtain ⟨c,hg⟩:∃ c,ah wr g c 161:=by obtain ⟨cs,hs,_⟩:=M.ht;exact (hs.own hown).2
 refine M.put e hk (by decide) (fun _ h=>.inl h) (fun j hj=>?_) (fun r _ hr=>?_)
 ·rcases hj with hj | rfl
  ·exact .inl hj
  ·exact .inr ⟨h0,hb.lt,⟨_,hb⟩,hr⟩
 ·obtain ⟨ao,cap,rfl,h1,h2,h3⟩:=hr;have hb':=hb.ez (a:=⟨g,o+k*4+1,none⟩) (hb.ne hg (by decide)) (.slice (some ⟨b,0,none⟩) 2 2);exact ⟨some ⟨b,0,none⟩,2,rfl,Rd.ai hb' 0 _ rfl,(fun a ha=>by cases ha;exact .inr rfl),by show 2≤maxLen;unfold maxLen;decide⟩
theorem c8.ns {T':List Th} (M:c8 w0 wr h W gv wv rg wt F T iv is) (e:T=T'):c8 w0 wr h W gv wv rg wt F T' iv is:=e ▸ M
theorem c8.cells {no:Option Addr} {nc k:Nat} (M:c8 w0 wr h W gv wv rg wt F T iv is) (e:h.tv=.slice no T.length nc) (hk:k<T.length):∃ g o fo fc,no=some ⟨g,o,none⟩∧g<wr.heap.size∧(∀ i,wr.frozen? ⟨g,i,none⟩=false)∧wr.cell? ⟨g,o+k*4,none⟩=some (.int .i64 T[k].k)∧wr.cell? ⟨g,o+k*4+1,none⟩=some (.slice fo T[k].fs.length fc) ∧
  wr.cell? ⟨g,o+k*4+2,none⟩=some (.bool T[k].aR)∧wr.cell? ⟨g,o+k*4+3,none⟩=some (.bool T[k].dead)∧Rd wr fo (au T[k].fs):=by
 obtain ⟨no',nc',e',N⟩:=M.ht.nth;rw [e] at e';obtain ⟨rfl,-,rfl⟩:=Value.slice.inj e';obtain ⟨g,o,fo,fc,rfl,hgo,hg,t0,t1,t2,t3,hr,-,-⟩:=N k hk;obtain ⟨c,hb⟩:∃ c,ah wr g c 161:=by obtain ⟨cs,hs,_⟩:=M.ht;exact (hs.own hgo).2
 have e2:T.getD k Th.none=T[k]:=by rw [Ld,Le hk];rfl
 rw [e2] at t0 t1 t2 t3 hr;exact ⟨g,o,fo,fc,rfl,hg,fun i=>hb.free i,t0,t1,t2,t3,hr⟩
theorem c8.done {major:Bool} {is:List Bool} (M:c8 w0 wr h W gv wv (W.after major).regs (W.after major).wait F (fr (W.pass major).1 W.T) iv is) (hok:(W.after major).ok) (H:aK w0 h W):aC w0 h wr (W.after major):=by
 refine ⟨⟨h.p,h.tv,h.rv,gv,wv,F⟩,⟨M.hp,M.ht,M.hr,M.hg,M.hw,M.ap,fun k hk=>by
  obtain ⟨_,h2,h3,h4⟩:=M.af k hk
  exact ⟨h2,h3,h4⟩,hok⟩,rfl,M.K,?_⟩
 rintro k (hk | hk | hk | hk | hk | hk)
 ·exact .inl (.inl hk)
 ·exact .inl (.inr (.inl hk))
 ·exact .inl (.inr (.inr (.inl hk)))
 ·exact .inr (M.og k hk)
 ·exact .inr (M.ow k hk)
 ·rcases (M.af k hk).1 with h1 | h1
  ·exact .inl (.inr (.inr (.inr (.inr (.inr h1)))))
  ·exact .inr h1
end
end
end Go.Proofs.Ytjifdalflepcoab
