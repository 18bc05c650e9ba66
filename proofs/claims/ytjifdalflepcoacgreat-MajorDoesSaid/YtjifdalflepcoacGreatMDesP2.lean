/-
  Parts of the proof, merged: what the functions do, and plain laws.
-/
import Derived.Test.YtjifdalflepcoacGreatMDesP1
import Derived.Test.YtjifdalflepcoacGreatMDesP0
import Derived.Laws.Tables
import Derived.Deep.MidRow
import Derived.Deep.LoopGhost
import Derived.Laws.EntriesVeiled
set_option maxHeartbeats 16000000
set_option maxRecDepth 100000
set_option linter.unusedVariables false
set_option linter.unusedSimpArgs false
namespace Go.Proofs.YtjifdalflepcoacGreat
section
open Go.RowKit
theorem usesM_cases (k:Int):k=1∨k=2∨k=3∨k=4∨k=5∨k=6∨k=7∨k=8∨k=9∨k=10∨k=11∨k=12∨k=13∨k=14∨k=15∨k=16∨(k<1∨16<k):=by omega
theorem ret_i64 {a b:Int} (h:a=b):(Ending.returned (.int .i64 a))=.returned (.int .i64 b):=by rw [h]
theorem RUsesOf_c (k:Int) (w:World):Calls Tryz.prog 148 #[.int .i64 k] w fun e w'=>e=.returned (.int .i64 (usesM k))∧Keeps (fun _=>False) w w':=by
 rcases usesM_cases k with rfl | rfl | rfl | rfl | rfl | rfl | rfl | rfl | rfl | rfl | rfl | rfl | rfl | rfl | rfl | rfl | h
 case inr.inr.inr.inr.inr.inr.inr.inr.inr.inr.inr.inr.inr.inr.inr.inr=>
  have HE:=Hz (show usesM k=-1 by unfold usesM;repeat' (rw [if_neg (by omega)]))
  have e1:(k == 1)=false:=by simp;omega
  have e2:(k == 2)=false:=by simp;omega
  have e3:(k == 3)=false:=by simp;omega
  have e4:(k == 4)=false:=by simp;omega
  have e5:(k == 5)=false:=by simp;omega
  have e6:(k == 6)=false:=by simp;omega
  have e7:(k == 7)=false:=by simp;omega
  have e8:(k == 8)=false:=by simp;omega
  have e9:(k == 9)=false:=by simp;omega
  have e10:(k == 10)=false:=by simp;omega
  have e11:(k == 11)=false:=by simp;omega
  have e12:(k == 12)=false:=by simp;omega
  have e13:(k == 13)=false:=by simp;omega
  have e14:(k == 14)=false:=by simp;omega
  have e15:(k == 15)=false:=by simp;omega
  have e16:(k == 16)=false:=by simp;omega
  clear h
  go_enter Tryz.func148,Tryz.ntmps148
  go_wp2_with fail
  go_ret
  exact ⟨ret_i64 HE.out.symm,Keeps.refl _ _⟩
 all_goals
  go_enter Tryz.func148,Tryz.ntmps148
  go_wp2_with fail
  go_ret
  exact ⟨ret_i64 rfl,Keeps.refl _ _⟩
theorem usesM_vals (k:Int):usesM k=-1∨usesM k=0∨usesM k=1∨usesM k=3∨usesM k=6∨usesM k=7:=by
 unfold usesM
 repeat' split
 all_goals simp
def St.at3 (x:St) (j:Nat):Int:=if j=0 then x.r else if j=1 then x.a else x.b
def useBit (u:Int) (j:Nat):Bool:=decide (u/2 ^ j%2=1)
theorem checkM_none {x:St} (h:usesM x.k=-1):checkM x=2:=by unfold checkM;rw [if_pos h]
theorem checkM_root {x:St} (h:usesM x.k≠-1) {j:Nat} (hj:j<3) (hb:useBit (usesM x.k) j=true) (hr:rootOk (x.at3 j)=false):checkM x=1:=by
 unfold checkM
 rw [if_neg h,if_pos]
 unfold useBit at hb
 have hb:usesM x.k/2 ^ j%2=1:=by simpa using hb
 rcases (by omega:j=0∨j=1∨j=2) with rfl | rfl | rfl
 ·exact .inl ⟨by simpa using hb,hr⟩
 ·exact .inr (.inl ⟨by simpa using hb,hr⟩)
 ·exact .inr (.inr ⟨by simpa using hb,hr⟩)
theorem checkM_rest {x:St} (h:usesM x.k≠-1) (hb:∀ j,j<3→useBit (usesM x.k) j=true→rootOk (x.at3 j)=true) :
  checkM x=if x.k=1∧¬ (-big≤x.n∧x.n<big) then 1 else if x.k=5∧¬ (0≤x.n∧x.n≤12) then 1 else 0:=by
 unfold checkM
 rw [if_neg h,if_neg]
 rintro (⟨h1,h2⟩ | ⟨h1,h2⟩ | ⟨h1,h2⟩)
 ·have:=hb 0 (by decide) (by unfold useBit;simpa using h1)
  rw [show x.at3 0=x.r from rfl,h2] at this;cases this
 ·have:=hb 1 (by decide) (by unfold useBit;simpa using h1)
  rw [show x.at3 1=x.a from rfl,h2] at this;cases this
 ·have:=hb 2 (by decide) (by unfold useBit;simpa using h1)
  rw [show x.at3 2=x.b from rfl,h2] at this;cases this
section
variable {w:World} {h:RW} {W:Wd}
theorem WorldAt.root (H:WorldAt w h W) {k:Nat} (hk:k<12):∃ g o rc,h.rv=.slice (some ⟨g,o,none⟩) W.roots.length rc∧g<w.heap.size∧w.cell? ⟨g,o+k*2,none⟩=some (.int .i64 (W.rt k).1)∧w.cell? ⟨g,o+k*2+1,none⟩=some (.int .i64 (W.rt k).2):=by
 obtain ⟨ro,rc,e,rd,-,-⟩:=H.hr.rd
 obtain ⟨g,o,rfl,hg,h0,h1⟩:=rd.val k (by rw [H.ok.hr];exact hk)
 refine ⟨g,o,rc,e,hg,?_,?_⟩
 ·rw [h0];unfold Wd.rt;rw [Int.toNat_natCast]
 ·rw [h1];unfold Wd.rt;rw [Int.toNat_natCast]
theorem WThing_c (k:Nat) (hk:k<12) (H:WorldAt w h W) :
  Calls Tryz.prog 102 #[.pointer (some ⟨h.p,0,none⟩), .int .i64 k] w fun e w'=>e=.returned (.int .i64 (W.thing k))∧Keeps (fun _=>False) w w':=by
 obtain ⟨g,o,rc,e,hg,r0,r1⟩:=H.root hk
 have hrl:W.roots.length=12:=H.ok.hr
 obtain ⟨-,c1,-,-,-,-⟩:=H.cells
 have pl:=H.hp.lt
 rw [e,hrl] at c1
 have hth:W.thing k=if (W.rt k).1=3 then (W.rt k).2 else -1:=rfl
 clear H e hrl
 generalize W.rt k=v at *
 obtain ⟨v1,v2⟩:=v
 dsimp only at r0 r1 hth
 have HT:=Hz hth
 clear hth
 by_cases h3:v1=3
 ·subst h3
  go_enter Tryz.func102,Tryz.ntmps102
  go_wp2_with fail
  go_ret
  exact ⟨ret_i64 (by rw [HT.out];simp),Keeps.refl _ _⟩
 ·have hb:(v1 != 3)=true:=by simpa using h3
  have H3:=Hz h3
  clear h3
  go_enter Tryz.func102,Tryz.ntmps102
  go_wp2_with fail
  go_ret
  exact ⟨ret_i64 (by rw [HT.out];simp [H3.out]),Keeps.refl _ _⟩
theorem WorldAt.nth (H:WorldAt w h W) {i:Int} (hi:W.live i):∃ m:Nat,i=m∧∃ g o nc ao cap,h.tv=.slice (some ⟨g,o,none⟩) W.T.length nc∧m<W.T.length∧g<w.heap.size∧w.cell? ⟨g,o+m*4,none⟩=some (.int .i64 (W.th i).k) ∧
  w.cell? ⟨g,o+m*4+1,none⟩=some (.slice ao (W.th i).fs.length cap)∧Rd w ao (entV (W.th i).fs)∧ownB h.tv g:=by
 obtain ⟨h0,h1,-⟩:=hi
 obtain ⟨m,rfl⟩:∃ m:Nat,i=m:=⟨i.toNat,by omega⟩
 obtain ⟨no,nc,e,N⟩:=H.ht.nth
 obtain ⟨g,o,ao,cap,rfl,hog,hg,t0,t1,-,-,hrd,-,-⟩:=N m (by omega)
 refine ⟨m,rfl,g,o,nc,ao,cap,e,by omega,hg,?_,?_,?_,by first | exact hog | (rw [e];exact hog)⟩
 ·rw [t0];unfold Wd.th;rw [Int.toNat_natCast]
 ·rw [t1];unfold Wd.th;rw [Int.toNat_natCast]
 ·unfold Wd.th;rw [Int.toNat_natCast];exact hrd
theorem WGuard_c (k:Nat) (hk:k<12) (H:WorldAt w h W) :
  Calls Tryz.prog 103 #[.pointer (some ⟨h.p,0,none⟩), .int .i64 k] w fun e w'=>e=.returned (.int .i64 (W.guard k))∧Keeps (fun _=>False) w w':=by
 have HH:=Hz H
 have hth:=WThing_c k hk H
 have hgd:W.guard k=if W.thing k<0∨(W.th (W.thing k)).k≠5 then -1 else W.thing k:=rfl
 have htl:=Wd.thing_live (W:=W) (k:=k) H.ok
 generalize W.thing k=i at *
 have HGD:=Hz hgd;have HTL:=Hz (fun (hn:0≤i)=>htl (by omega))
 have HTH:=Hz hth
 clear hgd htl hth H
 go_enter Tryz.func103,Tryz.ntmps103
 go_wp2_with fail
 refine HTH.out.mono ?_
 rintro e w1 ⟨rfl,hk1⟩
 have H1:=Hz (HH.out.same hk1);have K1:=Hz hk1
 clear hk1 HTH
 by_cases hi:i<0
 ·have hd:decide (i<0)=true:=by simpa using hi
  have HE:=Hz (show W.guard k=-1 by rw [HGD.out,if_pos (.inl hi)])
  clear hi
  go_wp2_with fail
  go_ret
  exact ⟨ret_i64 HE.out.symm,K1.out⟩
 ·have hd:decide (i<0)=false:=by simpa using hi
  obtain ⟨m,rfl,g,o,nc,ao,cap,e,hm,hg,t0,-,-,-⟩:=H1.out.nth (HTL.out (by omega))
  obtain ⟨c0,-,-,-,-,-⟩:=H1.out.cells
  have pl:=H1.out.hp.lt
  rw [e] at c0
  clear e hi
  by_cases h5:(W.th m).k=5
  ·have HE:=Hz (show W.guard k=m by rw [HGD.out,if_neg (by rw [h5];simp)])
   rw [h5] at t0
   clear h5
   go_wp2_with fail
   go_ret
   exact ⟨ret_i64 HE.out.symm,K1.out⟩
  ·have HE:=Hz (show W.guard k=-1 by rw [HGD.out,if_pos (.inr h5)])
   have hb:((W.th m).k != 5)=true:=by simpa using h5
   clear h5
   generalize (W.th m).k=q at *
   go_wp2_with fail
   go_ret
   exact ⟨ret_i64 HE.out.symm,K1.out⟩
end
end
section
open Go.RowKit
theorem entV_setV:∀ (l:List (Int × Int)) (k:Nat) (v:Int × Int),entV (l.set k v)=((entV l).set (k*2) (.int .i64 v.1)).set (k*2+1) (.int .i64 v.2)
 | [],k,v=>by simp [entV]
 | e :: l,0,v=>by rw [List.set_cons_zero,entV_cons,entV_cons];rfl
 | e :: l,k+1,v=>by
  rw [List.set_cons_succ,entV_cons,entV_cons,entV_setV l k v]
  rw [show (k+1)*2=k*2+1+1 by omega]
  rfl
theorem wpList_store_val {P:Program} {ops:Array Oper} {rest:List Oper} {o:Oper} {a:Act} {w:World} {Q:Exit→Act→World→Prop} (hgd:o.guard=none) (ty:TypeId) (x y:Operand) (ho:o.op=.store ty x y) (hd:o.dst=none)
  (g off n cap k:Nat) (xs:List Value) (e:Nat) (v0 v1:Value) (hx:a.eval x=.pointer (some ⟨g,off+k*2,none⟩)) (hy:a.eval y=.agg #[v0,v1])
  (hs:Sl w e 2 (.slice (some ⟨g,off,none⟩) n cap) n xs) (hk:k<n) (hi:(P.info? ty).map (·.size)=some 2) (h0:v0.oneCell'=true) (h1:v1.oneCell'=true)
  (h:∀ w',Sl w' e 2 (.slice (some ⟨g,off,none⟩) n cap) n ((xs.set (k*2) v0).set (k*2+1) v1)→Keeps (·=g) w w'→w'.heap.size=w.heap.size→wpList P ops Q rest a w'):wpList P ops Q (o :: rest) a w:=by
 obtain ⟨g',o',cap',cur,e1,hb,hc1,hc2,hc3,hc4⟩:=hs.laid (by omega)
 cases e1
 have hth:w.there g (off+k*2) 2:=fun j hj=>by
  have hl:off+k*2+j<cur.length:=by omega
  refine ⟨?_,hb.free _⟩
  rw [hb.cell,List.getElem?_eq_getElem hl];rfl
 refine wpList_store_mid hgd ty x y ho g (off+k*2) #[v0,v1] hx hy hth (by simpa using hi) (all_oneCell_toArray (cs:=[v0,v1]) (by intro v hv;simp at hv;rcases hv with rfl | rfl <;> assumption)) ?_
 rw [hd]
 refine h _ ?_ ?_ ?_
 ·have s1:=hs.set (j:=k*2) (u:=v0) (by omega)
  have s2:=s1.set (j:=k*2+1) (u:=v1) (by omega)
  rw [←Nat.add_assoc] at s2
  exact s2
 ·exact ((Keeps.refl (·=g) w).setCell (p:=⟨g,off+k*2,none⟩) (.inl rfl) v0).setCell (p:=⟨g,off+k*2+1,none⟩) (.inl rfl) v1
 ·show (World.setCell _ _ _).heap.size=_
  simp
theorem gRun_store_val {P:Program} {o:Oper} {a:Act} {w:World} {K:Act→World→Prop} (ty:TypeId) (x y:Operand) (ho:o.op=.store ty x y) (hd:o.dst=none)
  (g off n cap k:Nat) (xs:List Value) (e:Nat) (v0 v1:Value) (hx:a.eval x=.pointer (some ⟨g,off+k*2,none⟩)) (hy:a.eval y=.agg #[v0,v1])
  (hs:Sl w e 2 (.slice (some ⟨g,off,none⟩) n cap) n xs) (hk:k<n) (hi:(P.info? ty).map (·.size)=some 2) (h0:v0.oneCell'=true) (h1:v1.oneCell'=true)
  (h:∀ w',Sl w' e 2 (.slice (some ⟨g,off,none⟩) n cap) n ((xs.set (k*2) v0).set (k*2+1) v1)→Keeps (·=g) w w'→w'.heap.size=w.heap.size→K a w'):gRun P o a w K:=by
 obtain ⟨g',o',cap',cur,e1,hb,hc1,hc2,hc3,hc4⟩:=hs.laid (by omega)
 cases e1
 have hth:w.there g (off+k*2) 2:=fun j hj=>by
  have hl:off+k*2+j<cur.length:=by omega
  refine ⟨?_,hb.free _⟩
  rw [hb.cell,List.getElem?_eq_getElem hl];rfl
 have hh:K a (w.setCells g (off+k*2) [v0,v1]):=by
  refine h _ ?_ ?_ ?_
  ·have s1:=hs.set (j:=k*2) (u:=v0) (by omega)
   have s2:=s1.set (j:=k*2+1) (u:=v1) (by omega)
   rw [←Nat.add_assoc] at s2
   exact s2
  ·exact ((Keeps.refl (·=g) w).setCell (p:=⟨g,off+k*2,none⟩) (.inl rfl) v0).setCell (p:=⟨g,off+k*2+1,none⟩) (.inl rfl) v1
  ·show (World.setCell _ _ _).heap.size=_
   simp
 unfold gRun execOp
 simp only [ho,hx,hy,Instr.storeAt,Instr.sureAddr,Sem.run_bind,Sem.run_pure,Result.andThen_ok,run_storeVar_mid w g (off+k*2) ty #[v0,v1] hth (by simpa using hi) (all_oneCell_toArray (cs:=[v0,v1]) (by intro v hv;simp at hv;rcases hv with rfl | rfl <;> assumption))]
 first | exact hh | (show K (a.put o.dst undef) _;rw [hd];exact hh)
end
section
open Go.RowKit
section
variable {w:World} {h:RW} {W:Wd}
theorem WorldAt.setRoot {w':World} (H:WorldAt w h W) {g o rc:Nat} (hrv:h.rv=.slice (some ⟨g,o,none⟩) W.roots.length rc) {k:Nat} (hk:k<12) {v:Vl} (hv:W.okV v)
  (hs:Sl w' 96 2 (.slice (some ⟨g,o,none⟩) W.roots.length rc) W.roots.length (((entV W.roots).set (k*2) (.int .i64 v.1)).set (k*2+1) (.int .i64 v.2))) (K:Keeps (·=g) w w'):WorldTo w h w' (W.setR k v):=by
 have ho:ownB h.rv g:=by rw [hrv];exact rfl
 obtain ⟨_,c,hc⟩:=H.hr.own ho
 have ne:∀ {b:Nat} {c':List Value} {T:TypeId},Blk w b c' T→T≠96→¬ b=g:=fun hb hT e=>(hb.ne hc hT) e
 have hl:(W.setR k v).roots.length=W.roots.length:=by simp [Wd.setR]
 have hset:(W.setR k v).roots=W.roots.set k v:=by simp [Wd.setR]
 refine ⟨h,⟨K.blk H.hp (ne H.hp (by decide)),H.ht.keep K (fun b hb _ e=>(H.af b hb).2.2 (e ▸ ho)) (fun b hb=>?_),?_,H.hg.keep K (fun b hb=>?_),H.hw.keep K (fun b hb=>?_),H.ap,fun b hb=>?_,H.ok.setR hv k⟩,rfl,K.mono (fun b _ e=>e ▸ .inr (.inr (.inl ho))),fun b hb=>.inl hb⟩
 ·obtain ⟨cs,hs',_⟩:=H.ht
  obtain ⟨_,c',hc'⟩:=hs'.own hb
  exact ne hc' (by decide)
 ·rw [hl,hset,entV_setV,hrv];exact hs
 ·obtain ⟨_,c',hc'⟩:=H.hg.own hb;exact ne hc' (by decide)
 ·obtain ⟨_,c',hc'⟩:=H.hw.own hb;exact ne hc' (by decide)
 ·obtain ⟨h1,⟨c',h2⟩,h3⟩:=H.af b hb
  exact ⟨Nat.lt_of_lt_of_le h1 K.size,⟨c',K.blk h2 (fun e=>h3 (e ▸ ho))⟩,h3⟩
end
theorem rootOk_iff (k:Int):rootOk k=true↔0≤k∧k<12:=by simp [rootOk]
def Sound (x:St) (j:Nat):Prop:=∀ i,i<j→useBit (usesM x.k) i=true→rootOk (x.at3 i)=true
theorem Sound.next {x:St} {j:Nat} (h:Sound x j) (hb:useBit (usesM x.k) j=true→rootOk (x.at3 j)=true):Sound x (j+1):=fun i hi h1=>by
 rcases Nat.lt_or_eq_of_le (Nat.le_of_lt_succ hi) with h2 | rfl
 ·exact h i h2 h1
 ·exact hb h1
theorem RStepFault_c (x:St) (w:World):Calls Tryz.prog 99 #[.agg #[.int .i64 x.k, .int .i64 x.r, .int .i64 x.a, .int .i64 x.b, .int .i64 x.i, .int .i64 x.n]] w fun e w'=>e=.returned (.int .i64 (checkM x))∧Keeps (fun _=>False) w w':=by
 have HU:=Hz (fun w=>RUsesOf_c x.k w)
 have HN:=Hz (fun h=>checkM_none (x:=x) h)
 have HR:=Hz (fun j (h1:usesM x.k≠-1) (h2:j<3) (h3:useBit (usesM x.k) j=true) h4=>checkM_root (x:=x) (j:=j) h1 h2 h3 h4)
 have HX:=Hz (fun h (h2:Sound x 3)=>checkM_rest (x:=x) h h2)
 have S0:=Hz (show Sound x 0 from fun i hi=>by omega)
 have SN:=Hz (fun j=>@Sound.next x j)
 have hv:=usesM_vals x.k
 have B1:Blk (w.alloc (.cells #[.int .i64 x.k, .int .i64 x.r, .int .i64 x.a, .int .i64 x.b, .int .i64 x.i, .int .i64 x.n] 69)) w.heap.size [.int .i64 x.k, .int .i64 x.r, .int .i64 x.a, .int .i64 x.b, .int .i64 x.i, .int .i64 x.n] 69:=Blk.newAt _ rfl rfl
 have K1:=Hz ((Kz w).alloc (.cells #[.int .i64 x.k, .int .i64 x.r, .int .i64 x.a, .int .i64 x.b, .int .i64 x.i, .int .i64 x.n] 69))
 have HB:=Hz B1
 clear B1
 obtain ⟨xk,xr,xa,xb,xi,xn⟩:=x
 dsimp only at hv
 generalize hu:usesM xk=u at hv
 have hU:=Hz hu
 dsimp only at HU
 rw [hu] at HU
 go_enter Tryz.func99,Tryz.ntmps99
 go_wp2_with fail
 refine (HU.out _).mono ?_
 rintro e w1 ⟨rfl,hk⟩
 have HB1:=Hz (hk.blk HB.out (fun h=>h))
 have K2:=Hz (K1.out.trans hk)
 clear hk HU hu
 generalize w.heap.size=p at *
 have p0:=HB1.out.cell 0;have p1:=HB1.out.cell 1;have p2:=HB1.out.cell 2;have p3:=HB1.out.cell 3;have p4:=HB1.out.cell 4;have p5:=HB1.out.cell 5;have pl:=HB1.out.lt
 simp only [List.getElem?_cons_zero,List.getElem?_cons_succ] at p0 p1 p2 p3 p4 p5
 by_cases hneg:u=-1
 ·have HE:=Hz (HN.out (hU.out.trans hneg))
  subst hneg
  clear hv
  go_wp2_with fail
  go_ret
  exact ⟨ret_i64 HE.out.symm,K2.out⟩
 ·have hnn:usesM xk≠-1:=by rw [hU.out];exact hneg
  have HNN:=Hz hnn
  have hd:decide (u<0)=false:=by simp;omega
  clear hnn
  go_upto_region 5 with (fail)
  generalize hw2:w1.alloc (.cells #[.int .i64 xr, .int .i64 xa, .int .i64 xb] 3)=w2
  have K3:=Hz (show Keeps (fun _=>False) w w2 by rw [←hw2];exact K2.out.alloc _)
  have HB2:=Hz (show Blk w2 p _ _ by rw [←hw2];exact HB1.out.alloc _)
  have HL:=Hz (show Blk w2 w1.heap.size [.int .i64 xr, .int .i64 xa, .int .i64 xb] 3 by rw [←hw2];exact Blk.newAt _ rfl rfl)
  clear p0 p1 p2 p3 p4 p5 pl HB1 K2 hw2
  generalize w1.heap.size=q at *
  have p0:=HB2.out.cell 0;have p5:=HB2.out.cell 5;have pl:=HB2.out.lt
  have q0:=HL.out.cell 0;have q1:=HL.out.cell 1;have q2:=HL.out.cell 2;have ql:=HL.out.lt
  simp only [List.getElem?_cons_zero,List.getElem?_cons_succ] at p0 p5 q0 q1 q2
  go_wp2_with fail
  go_loopw [5] (fun j wr=>∃ i:Nat,i≤3∧j=.int .i64 i∧wr=w2∧Hid (Sound ⟨xk,xr,xa,xb,xi,xn⟩ i)) (fun j _=>3-(intOf j).toNat)
  case atStart=>exact ⟨0,by omega,rfl,rfl,S0⟩
  case round=>
   obtain ⟨j,hj,rfl,rfl,hS⟩:=hrel
   clear S0
   rcases (by omega:j=3∨j=0∨j=1∨j=2) with rfl | hj'
   ·have HX2:=Hz (HX.out HNN.out hS.out)
    clear HX HN HR SN hS hU HNN hv hd
    by_cases k1:xk=1
    ·subst k1
     by_cases n1:xn≥1152921504606846976
     ·have HE:=Hz (show checkM ⟨1,xr,xa,xb,xi,xn⟩=1 by rw [HX2.out,if_pos ⟨rfl,fun h=>by unfold big at h;omega⟩])
      have d1:decide (xn≥1152921504606846976)=true:=by simpa using n1
      clear n1 HX2
      go_wp2_with fail
      go_ret
      exact ⟨ret_i64 HE.out.symm,K3.out⟩
     ·have d1:decide (xn≥1152921504606846976)=false:=by simpa using n1
      by_cases n2:xn < -1152921504606846976
      ·have HE:=Hz (show checkM ⟨1,xr,xa,xb,xi,xn⟩=1 by rw [HX2.out,if_pos ⟨rfl,fun h=>by unfold big at h;omega⟩])
       have d2:decide (xn < -1152921504606846976)=true:=by simpa using n2
       clear n1 n2 HX2
       go_wp2_with fail
       go_ret
       exact ⟨ret_i64 HE.out.symm,K3.out⟩
      ·have HE:=Hz (show checkM ⟨1,xr,xa,xb,xi,xn⟩=0 by rw [HX2.out,if_neg (fun h=>h.2 (by unfold big;omega)),if_neg (fun h=>by omega)])
       have d2:decide (xn < -1152921504606846976)=false:=by simpa using n2
       clear n1 n2 HX2
       go_wp2_with fail
       go_ret
       exact ⟨ret_i64 HE.out.symm,K3.out⟩
    ·have e1:(xk == 1)=false:=by simpa using k1
     by_cases k5:xk=5
     ·subst k5
      by_cases n1:xn<0
      ·have HE:=Hz (show checkM ⟨5,xr,xa,xb,xi,xn⟩=1 by rw [HX2.out,if_neg (fun h=>by omega),if_pos ⟨rfl,fun h=>by omega⟩])
       have d1:decide (xn<0)=true:=by simpa using n1
       clear n1 HX2 k1
       go_wp2_with fail
       go_ret
       exact ⟨ret_i64 HE.out.symm,K3.out⟩
      ·have d1:decide (xn<0)=false:=by simpa using n1
       by_cases n2:xn > 12
       ·have HE:=Hz (show checkM ⟨5,xr,xa,xb,xi,xn⟩=1 by rw [HX2.out,if_neg (fun h=>by omega),if_pos ⟨rfl,fun h=>by omega⟩])
        have d2:decide (12<xn)=true:=by simpa using n2
        clear n1 n2 HX2 k1
        go_wp2_with fail
        go_ret
        exact ⟨ret_i64 HE.out.symm,K3.out⟩
       ·have HE:=Hz (show checkM ⟨5,xr,xa,xb,xi,xn⟩=0 by rw [HX2.out,if_neg (fun h=>by omega),if_neg (fun h=>h.2 (by omega))])
        have d2:decide (12<xn)=false:=by simpa using n2
        clear n1 n2 HX2 k1
        go_wp2_with fail
        go_ret
        exact ⟨ret_i64 HE.out.symm,K3.out⟩
     ·have e5:(xk == 5)=false:=by simpa using k5
      have HE:=Hz (show checkM ⟨xk,xr,xa,xb,xi,xn⟩=0 by rw [HX2.out,if_neg (fun h=>k1 h.1),if_neg (fun h=>k5 h.1)])
      clear k1 k5 HX2
      go_wp2_with fail
      go_ret
      exact ⟨ret_i64 HE.out.symm,K3.out⟩
   ·have HB2:=Hz (fun hb=>(HR.out j HNN.out (by omega) hb))
    have HNX:=Hz (fun h=>(SN.out j hS.out h))
    clear HX HN HR SN hS HNN
    cases hub:useBit u j
    ·have HSN:=Hz (HNX.out (fun h=>by rw [hU.out,hub] at h;cases h))
     clear HNX HB2 hU
     rcases hv with rfl | rfl | rfl | rfl | rfl | rfl <;> rcases hj' with rfl | rfl | rfl <;> first | (exfalso;revert hub;decide) | (exfalso;exact hneg rfl) | skip
     all_goals
      clear hub hneg
      go_wp2_with fail
      go_roundw
      case rel=>exact ⟨_,by decide,by first | rfl | go_num,by first | rfl | trivial,HSN⟩
      case measure=>simp [intOf]
    ·have HNX2:=Hz (fun h=>HNX.out (fun _=>h))
     have HBB:=Hz (HB2.out (by rw [hU.out];exact hub))
     clear HNX HB2 hU
     cases hro:rootOk (St.at3 ⟨xk,xr,xa,xb,xi,xn⟩ j)
     ·have HE:=Hz (HBB.out hro)
      clear HBB HNX2
      have hlim:St.at3 ⟨xk,xr,xa,xb,xi,xn⟩ j<0∨12≤St.at3 ⟨xk,xr,xa,xb,xi,xn⟩ j:=by
       unfold rootOk at hro;simp at hro;omega
      clear hro
      rcases hv with rfl | rfl | rfl | rfl | rfl | rfl <;> rcases hj' with rfl | rfl | rfl <;> first | (exfalso;revert hub;decide) | (exfalso;exact hneg rfl) | skip
      all_goals
       clear hub hneg
       simp [St.at3] at hlim
       rcases hlim with hlim | hlim
       ·have d1:=decide_eq_true hlim
        clear hlim
        go_wp2_with fail
        go_ret
        exact ⟨ret_i64 HE.out.symm,K3.out⟩
       ·have d1:decide (_<(0:Int))=false:=decide_eq_false (Int.not_lt.2 (Int.le_trans (by decide) hlim))
        have d2:=decide_eq_true hlim
        clear hlim
        go_wp2_with fail
        go_ret
        exact ⟨ret_i64 HE.out.symm,K3.out⟩
     ·have HSN:=Hz (HNX2.out hro)
      clear HBB HNX2
      have hlim:0≤St.at3 ⟨xk,xr,xa,xb,xi,xn⟩ j∧St.at3 ⟨xk,xr,xa,xb,xi,xn⟩ j<12:=(rootOk_iff _).1 hro
      clear hro
      rcases hv with rfl | rfl | rfl | rfl | rfl | rfl <;> rcases hj' with rfl | rfl | rfl <;> first | (exfalso;revert hub;decide) | (exfalso;exact hneg rfl) | skip
      all_goals
       clear hub hneg
       simp [St.at3] at hlim
       obtain ⟨l1,l2⟩:=hlim
       have d1:decide (_<(0:Int))=false:=decide_eq_false (Int.not_lt.2 l1)
       have d2:decide ((12:Int)≤_)=false:=decide_eq_false (Int.not_le.2 l2)
       clear l1 l2
       go_wp2_with fail
       go_roundw
       case rel=>exact ⟨_,by decide,by first | rfl | go_num,by first | rfl | trivial,HSN⟩
       case measure=>simp [intOf]
end
section
open Go.RowKit
def WorldNew (w w':World) (W:Wd) (e:Ending):Prop:=∃ h:RW,e=.returned (.pointer (some ⟨h.p,0,none⟩))∧WorldAt w' h W∧Keeps (fun _=>False) w w'∧∀ k,h.Own k→w.heap.size≤k
theorem made24:madeCells (Value.agg #[Value.int .i64 0,Value.int .i64 0]).cells 24=(entV (List.replicate 12 (0,0))).toArray:=by kernel_rfl
theorem RNewWorld_c (n o:Int) (h1:16≤n) (h2:n≤256) (h3:0≤o) (h4:o≤1024) (w:World) :
  Calls Tryz.prog 31 #[.int .i64 n, .int .i64 o] w fun e w'=>WorldNew w w' (Wd.new n o) e:=by
 obtain ⟨i,hi,hz0,hz1,hz2⟩:=info_parts1 info_val
 obtain ⟨A,hA⟩:∃ A:Array Value,A=(entV (List.replicate 12 (0,0))).toArray:=⟨_,rfl⟩
 have hmk:(Instr.makeSlice 38 (.int .i64 12) (.int .i64 12)).run Tryz.prog w=.ok (.slice (some ⟨w.heap.size,0,none⟩) 12 12) (w.alloc (.cells A 96)):=by
  have:=run_make (P:=Tryz.prog) w 38 96 i _ Tryz.underlying38 hi hz0 .i64 .i64 12 12 (by decide) (by decide) (by rw [hz2];decide) (by decide)
  rw [this,hz1,hA,←made24]
  rfl
 have HA:=Hz hA;clear hA
 have HOK:=Hz (Wd.new_ok h1 h2 h3 h4)
 clear hi hz0 hz1 hz2
 go_enter Tryz.func31,Tryz.ntmps31
 go_wp2_with fail
 go_ret
 generalize hw1:w.alloc (.cells A 96)=w1
 have k1:Keeps (fun _=>False) w w1:=by rw [←hw1];exact (Keeps.refl _ _).alloc _
 have b1:Blk w1 w.heap.size (entV (List.replicate 12 (0,0))) 96:=by rw [←hw1];exact Blk.newAt _ rfl (by rw [HA.out])
 have hs1:w1.heap.size=w.heap.size+1:=by rw [←hw1];simp
 have nl:∀ {b:Nat},ownB (.slice none 0 0) b→False:=fun hb=>by simp [ownB,Value.ownBlock] at hb
 refine ⟨⟨w.heap.size+1, .slice none 0 0, .slice (some ⟨w.heap.size,0,none⟩) 12 12, .slice none 0 0, .slice none 0 0,fun _=>False⟩,by first | rfl | (rw [←hs1];rfl),⟨?_,⟨[],Sl.nil _ _ _,rfl⟩,?_,Sl.nil _ _ _,Sl.nil _ _ _,fun k hk=>nl hk.1,fun k hk=>hk.elim,HOK.out⟩,?_,?_⟩
 ·exact Blk.newAt _ (by first | rfl | omega | simp [hs1]) rfl
 ·refine ⟨rfl, .inr ⟨w.heap.size,0,12,entV (List.replicate 12 (0,0)),rfl,b1.alloc _,Nat.le_refl _,by decide,by decide,rfl⟩⟩
 ·exact k1.alloc _
 ·intro k hk
  rcases hk with rfl | hk | hk | hk | hk | hk
  ·exact Nat.le_succ _
  ·exact (nl hk).elim
  ·simp [ownB,Value.ownBlock] at hk;omega
  ·exact (nl hk).elim
  ·exact (nl hk).elim
  ·exact hk.elim
end
section
open Go.RowKit
theorem Fits_c (k f:Int) (w:World) (h1:-9223372036854775808≤f) (h2:f≤9223372036854775807) :
  Calls Tryz.prog 113 #[.int .i64 k, .int .i64 f] w fun e w'=>e=.returned (.int .i64 (headW k f).2)∧w=w':=by
 by_cases hk:k=1∨k=2∨k=3∨k=4∨k=5
 ·rcases hk with rfl | rfl | rfl | rfl | rfl
  ·by_cases c:f=2
   ·subst c
    have HE:=Hz (headW_yes (k:=1) (f:=2) (by omega) (by decide))
    go_enter Tryz.func113,Tryz.ntmps113
    go_wp2
    go_ret
    exact ⟨by rw [HE.out];rfl,rfl⟩
   ·have hne:(f != 2)=true:=by simpa using c
    have HE:=Hz (headW_no (k:=1) (f:=f) (by omega) (by rw [fitsW_2 (by omega)];simpa using c));clear c
    go_enter Tryz.func113,Tryz.ntmps113
    go_wp2
    go_ret
    exact ⟨by rw [HE.out];rfl,rfl⟩
  ·by_cases c1:f<0
   ·have HE:=Hz (headW_no (k:=2) (f:=f) (by omega) (by rw [fitsW_vec];simp;omega))
    go_enter Tryz.func113,Tryz.ntmps113
    go_wp2
    go_ret
    exact ⟨by rw [HE.out];rfl,rfl⟩
   by_cases c2:12<f
   ·have HE:=Hz (headW_no (k:=2) (f:=f) (by omega) (by rw [fitsW_vec];simp;omega))
    go_enter Tryz.func113,Tryz.ntmps113
    go_wp2
    go_ret
    exact ⟨by rw [HE.out];rfl,rfl⟩
   have HE:=Hz (headW_yes (k:=2) (f:=f) (by omega) (by rw [fitsW_vec];simp;omega))
   go_enter Tryz.func113,Tryz.ntmps113
   go_wp2
   go_ret
   exact ⟨by rw [HE.out];rfl,rfl⟩
  ·by_cases c:f=2
   ·subst c
    have HE:=Hz (headW_yes (k:=3) (f:=2) (by omega) (by decide))
    go_enter Tryz.func113,Tryz.ntmps113
    go_wp2
    go_ret
    exact ⟨by rw [HE.out];rfl,rfl⟩
   ·have hne:(f != 2)=true:=by simpa using c
    have HE:=Hz (headW_no (k:=3) (f:=f) (by omega) (by rw [fitsW_2 (by omega)];simpa using c));clear c
    go_enter Tryz.func113,Tryz.ntmps113
    go_wp2
    go_ret
    exact ⟨by rw [HE.out];rfl,rfl⟩
  ·by_cases c:f=2
   ·subst c
    have HE:=Hz (headW_yes (k:=4) (f:=2) (by omega) (by decide))
    go_enter Tryz.func113,Tryz.ntmps113
    go_wp2
    go_ret
    exact ⟨by rw [HE.out];rfl,rfl⟩
   ·have hne:(f != 2)=true:=by simpa using c
    have HE:=Hz (headW_no (k:=4) (f:=f) (by omega) (by rw [fitsW_2 (by omega)];simpa using c));clear c
    go_enter Tryz.func113,Tryz.ntmps113
    go_wp2
    go_ret
    exact ⟨by rw [HE.out];rfl,rfl⟩
  ·by_cases c:f=0
   ·subst c
    have HE:=Hz (headW_yes (k:=5) (f:=0) (by omega) (by decide))
    go_enter Tryz.func113,Tryz.ntmps113
    go_wp2
    go_ret
    exact ⟨by rw [HE.out];rfl,rfl⟩
   ·have hne:(f != 0)=true:=by simpa using c
    have HE:=Hz (headW_no (k:=5) (f:=f) (by omega) (by rw [fitsW_5];simpa using c));clear c
    go_enter Tryz.func113,Tryz.ntmps113
    go_wp2
    go_ret
    exact ⟨by rw [HE.out];rfl,rfl⟩
 ·have HE:=Hz (headW_kind (k:=k) (f:=f) (by omega))
  have e1:(k == 1)=false:=by simp;omega
  have e2:(k == 2)=false:=by simp;omega
  have e3:(k == 3)=false:=by simp;omega
  have e4:(k == 4)=false:=by simp;omega
  have e5:(k == 5)=false:=by simp;omega
  clear hk
  go_enter Tryz.func113,Tryz.ntmps113
  go_wp2
  go_ret
  exact ⟨by rw [HE.out];rfl,rfl⟩
end
section
open Go.RowKit
section
variable {w w':World} {h:RW} {W:Wd}
theorem WorldAt.putIn (H:WorldAt w h W) {r:Nat} {kd:Int} {l:List Vl} {tv fv:Value} {fo:Option Addr} {fc:Nat} {cs:List Value} (hfv:fv=.slice fo l.length fc)
  (hp:Blk w' h.p [tv,h.rv,h.gv,h.wv, .int .i64 W.most, .int .i64 W.grow] 147)
  (hR:RowsC 4 (ThRow w h.F) W.T cs) (hT:Sl w' 154 4 tv (W.T.length+1) (cs ++ [.int .i64 kd, .slice fo l.length fc, .bool false, .bool false]))
  (hr:Sl w' 96 2 h.rv W.roots.length (((entV W.roots).set (r*2) (.int .i64 3)).set (r*2+1) (.int .i64 W.T.length)))
  (hf:Sl w' 96 2 fv l.length (entV l)) (hfn:∀ b,ownB fv b→w.heap.size≤b)
  (K:Keeps (fun b=>ownB h.rv b∨ownB h.tv b∨b=h.p) w w') (hto:∀ b,ownB tv b→ownB h.tv b∨w.heap.size≤b) (hok:(W.put r kd l).ok):WorldTo w h w' (W.put r kd l):=by
 subst hfv
 have nF:∀ b,h.F b→¬ (ownB h.rv b∨ownB h.tv b∨b=h.p):=fun b hb e=>by
  obtain ⟨_,⟨c,hc⟩,h3⟩:=H.af b hb
  rcases e with e | e | e
  ·exact h3 e
  ·obtain ⟨cs',hs',_⟩:=H.ht
   obtain ⟨_,c',hc'⟩:=hs'.own e
   exact hc.ne hc' (by decide) rfl
  ·exact hc.ne H.hp (by decide) e
 have nE:∀ {v:Value} {n:Nat} {xs:List Value},Sl w 152 2 v n xs→∀ b,ownB v b→¬ (ownB h.rv b∨ownB h.tv b∨b=h.p):=fun hs b hb e=>by
  obtain ⟨_,c,hc⟩:=hs.own hb
  rcases e with e | e | e
  ·obtain ⟨_,c',hc'⟩:=H.hr.own e
   exact hc.ne hc' (by decide) rfl
  ·obtain ⟨cs',hs',_⟩:=H.ht
   obtain ⟨_,c',hc'⟩:=hs'.own e
   exact hc.ne hc' (by decide) rfl
  ·exact hc.ne H.hp (by decide) e
 have el:(W.put r kd l).T.length=W.T.length+1:=by simp [Wd.put]
 have er:(W.put r kd l).roots=W.roots.set r (3,(W.T.length:Int)):=by simp [Wd.put,refV]
 have erl:(W.put r kd l).roots.length=W.roots.length:=by rw [er];simp
 obtain ⟨fo',fc',e1,hrd,hml,-⟩:=hf.rd
 cases e1
 refine ⟨⟨h.p,tv,h.rv,h.gv,h.wv,fun b=>h.F b∨ownB (.slice fo l.length fc) b⟩,⟨hp,⟨_,by rw [el];exact hT,?_⟩,?_,H.hg.keep K (nE H.hg),H.hw.keep K (nE H.hw),H.ap,?_,hok⟩,rfl,K.mono (fun b _ e=>?_),?_⟩
 ·have e2:(W.put r kd l).T=W.T ++ [⟨kd,l,false,false⟩]:=rfl
  rw [e2]
  refine RowsC.app (hR.mono (fun a _ q hq=>(hq.keep K (fun b hb _=>nF b hb)).more (fun b hb=>.inl hb))) rfl ⟨fo,fc,rfl,hrd,fun a ha=>.inr (by rw [ha];rfl),hml⟩
 ·rw [erl,er,entV_setV];exact hr
 ·intro b hb
  rcases hb with hb | hb
  ·obtain ⟨h1,⟨c,h2⟩,h3⟩:=H.af b hb
   exact ⟨Nat.lt_of_lt_of_le h1 K.size,⟨c,K.blk h2 (nF b hb)⟩,h3⟩
  ·obtain ⟨h1,c,h2⟩:=hf.own hb
   exact ⟨h1,⟨c,h2⟩,fun e=>by have:=(H.hr.own e).1;have:=hfn b hb;omega⟩
 ·rcases e with e | e | e
  ·exact .inr (.inr (.inl e))
  ·exact .inr (.inl e)
  ·exact .inl e
 ·intro b hb
  rcases hb with hb | hb | hb | hb | hb | hb
  ·exact .inl (.inl hb)
  ·exact (hto b hb).imp (fun h=>.inr (.inl h)) id
  ·exact .inl (.inr (.inr (.inl hb)))
  ·exact .inl (.inr (.inr (.inr (.inl hb))))
  ·exact .inl (.inr (.inr (.inr (.inr (.inl hb)))))
  ·rcases hb with hb | hb
   ·exact .inl (.inr (.inr (.inr (.inr (.inr hb)))))
   ·exact .inr (hfn b hb)
end
end
section
open Go.RowKit
theorem info_thing:(Tryz.prog.info? 154).map (fun i=>(i.zero,i.size,i.bytes))=some (some (.agg #[.int .i64 0, .slice none 0 0, .bool false, .bool false]),4,40):=by kernel_rfl
theorem fresh_no {W:Wd} {r k f:Int} (h:¬ (fitsW k f=true∧1+f≤W.most-W.young)):W.fresh r k f=(false,W):=by unfold Wd.fresh;rw [if_neg h]
theorem fresh_yes {W:Wd} {r k f:Int} (h:fitsW k f=true∧1+f≤W.most-W.young):W.fresh r k f=(true,W.put r k (List.replicate f.toNat (0,0))):=by unfold Wd.fresh;rw [if_pos h]
theorem headW_fits0 {k f:Int}:(headW k f).2=0↔fitsW k f=true:=by
 unfold headW
 by_cases h:k<1∨5<k
 ·rw [if_pos h]
  refine ⟨fun e=>by simp at e,fun e=>by have:=fitsW_spec e;omega⟩
 ·rw [if_neg h]
  by_cases h2:fitsW k f=true
  ·rw [if_pos h2];simp [h2]
  ·rw [if_neg h2];simp [h2]
section
variable {w:World} {h:RW} {W:Wd}
theorem WFresh_c (r:Nat) (kd f:Int) (H:WorldAt w h W) (hT:W.T.length≤90000) (hr:r<12) (hf1:-9223372036854775808≤f) (hf2:f≤9223372036854775807) :
  Calls Tryz.prog 46 #[.pointer (some ⟨h.p,0,none⟩), .int .i64 r, .int .i64 kd, .int .i64 f] w fun e w'=>e=.returned (.bool (W.fresh r kd f).1)∧WorldTo w h w' (W.fresh r kd f).2:=by
 have HH:=Hz H
 have hok:=H.ok
 have HOK:=Hz hok
 have uy:=hok.uy;have m1:=hok.m1;have m2:=hok.m2
 have y0:0≤W.young:=sumW_nonneg _ _
 have HFN:=Hz (fun h=>fresh_no (W:=W) (r:=r) (k:=kd) (f:=f) h)
 have HFY:=Hz (fun h=>fresh_yes (W:=W) (r:=r) (k:=kd) (f:=f) h)
 have hw2:IntKind.i64.wrap (W.most-W.young)=W.most-W.young:=IntWalk.i64_in _ (by omega)
 have hft:=@headW_fits0 kd f
 have HFT:=Hz hft
 clear H hok hft
 go_enter Tryz.func46,Tryz.ntmps46
 go_wp2_with fail
 refine (WUsed_c HH.out (by omega)).mono ?_
 rintro e w1 ⟨rfl,hk⟩
 have H1:=Hz (HH.out.same hk);have K1:=Hz hk
 clear hk
 obtain ⟨-,-,-,-,c4,-⟩:=H1.out.cells
 have pl:=H1.out.hp.lt
 have hfit:=Fits_c kd f w1 hf1 hf2
 have HFI:=Hz hfit
 clear hfit
 go_wp2_with fail
 refine HFI.out.mono ?_
 rintro e _ ⟨rfl,rfl⟩
 by_cases hf:fitsW kd f=true
 ·have hf0:=HFT.out.2 hf
  have hs:=fitsW_spec hf
  rw [hf0]
  obtain ⟨n,rfl⟩:∃ n:Nat,f=n:=⟨f.toNat,by omega⟩
  have hw1:IntKind.i64.wrap (1+(n:Int))=1+n:=IntWalk.i64_in _ (by omega)
  by_cases hroom:1+(n:Int)≤W.most-W.young
  ·have hd:decide (W.most-W.young<1+(n:Int))=false:=by simpa using hroom
   have HE:=Hz (HFY.out ⟨hf,hroom⟩)
   have HPO:=Hz (Wd.ok.put (W:=W) HOK.out (r:=r) (k:=kd) (l:=List.replicate n (0,0)) (by simpa using hf) (fun v hv=>by rw [List.mem_replicate] at hv;rw [hv.2];exact .inl ⟨rfl,rfl⟩) (by simpa using hroom))
   clear hf0 hroom HFY HFN HFI HFT
   obtain ⟨iv,hi,hz0,hz1,hz2⟩:=info_parts1 info_val
   have Vi:=Hz hi;have Vz0:=Hz hz0;have Vz1:=Hz hz1;have Vz2:=Hz hz2;clear hi hz0 hz1 hz2
   obtain ⟨it,hi,hz0,hz1,hz2⟩:=info_parts1 info_thing
   have Ti:=Hz hi;have Tz0:=Hz hz0;have Tz1:=Hz hz1;have Tz2:=Hz hz2;clear hi hz0 hz1 hz2
   go_wp2_with fail
   generalize hwb:w1.alloc (.cells #[.int .i64 kd, .slice none 0 0, .bool false, .bool false] 154)=wb
   have KB:=Hz (show Keeps (fun _=>False) w1 wb by rw [←hwb];exact (Keeps.refl _ _).alloc _)
   have TB:=Hz (show Blk wb w1.heap.size [.int .i64 kd, .slice none 0 0, .bool false, .bool false] 154 by rw [←hwb];exact Blk.newAt _ rfl rfl)
   have HB:=Hz (H1.out.same KB.out)
   have OB:=Hz (fun b hb=>(H1.out.own_type (k:=b) hb).1)
   have ZB:=Hz (show wb.heap.size=w1.heap.size+1 by rw [←hwb];simp)
   have ZK:=Hz K1.out.size
   clear hwb c4 pl hw1 hw2 hd
   obtain ⟨tb,htb⟩:∃ n,w1.heap.size=n:=⟨_,rfl⟩
   rw [htb] at TB OB ZB
   rw [htb]
   have HTB:=Hz htb
   clear htb
   go_loopw [12] (fun u wr=>∃ (k:Nat) (fo:Option Addr) (fc:Nat),k≤n∧u=.int .i64 k∧Keeps (·=tb) wb wr∧Blk wr tb [.int .i64 kd, .slice fo k fc, .bool false, .bool false] 154∧Sl wr 96 2 (.slice fo k fc) k (entV (List.replicate k (0,0)))∧∀ b,ownB (.slice fo k fc) b→tb+1≤b) (fun u _=>n-(intOf u).toNat)
   case atStart=>exact ⟨0,none,0,Nat.zero_le _,rfl,Keeps.refl _ _,TB.out,Sl.nil _ _ _,fun b hb=>(nil_own hb).elim⟩
   case round=>
    obtain ⟨k,fo,fc,hk,rfl,hK,hB,hS,hO⟩:=hrel
    have KR:=Hz hK;have BR:=Hz hB;have FS:=Hz hS;have FO:=Hz hO
    have HR:=Hz (HB.out.keep hK (fun b hb e=>by have:=OB.out b hb;omega))
    have b1:=hB.cell 1;have bl:=hB.lt;have bf:=hB.free 1
    simp only [List.getElem?_cons_zero,List.getElem?_cons_succ] at b1
    clear hK hB hS hO
    by_cases hlt:k<n
    ·go_wp2_with (at_builtin;refine wpList_app rfl (.tmp 41) (.tmp 43) 38 rfl 96 iv (.agg #[.int .i64 0, .int .i64 0]) 2 16 Tryz.underlying38 Vi.out Vz0.out Vz1.out Vz2.out rfl (by decide) _ k (entV (List.replicate k (0,0))) rfl ?ha ⟨wr.heap.size,0,none⟩ 1 1 [.int .i64 0, .int .i64 0] rfl rfl ?hb ?hc ?hd ?he ?hf)
     case ha=>exact FS.out.keep ((Kz wr).alloc _) (fun _ _ h=>h)
     case hb=>exact news_at wr 96 _
     case hc=>intro u hu;simp at hu;subst hu;rfl
     case hd=>unfold maxLen;omega
     case he=>omega
     case hf=>
      intro v2' w2 hs2 hk2 ho2
      obtain ⟨ao2,ac2,rfl,-,-,-⟩:=hs2.rd
      have ka:=(Kz wr).alloc (.cells #[.int .i64 0, .int .i64 0] 96)
      have hno:∀ b,ownB (.slice fo k fc) b→b≠tb:=fun b hb e=>by have:=FO.out b hb;omega
      have hb2:=hk2.blk (BR.out.alloc (.cells #[.int .i64 0, .int .i64 0] 96)) (fun hb=>hno _ hb rfl)
      have KN:Keeps (·=tb) wb w2:=(KR.out.trans (ka.mono (fun _ _ h=>h.elim))).then hk2 (fun j hj=>.inr (by have:=FO.out j hj;rw [ZB.out];exact this))
      have hoN:∀ b,ownB (.slice ao2 (k+1) ac2) b→tb+1≤b:=fun b hb=>by
       rcases ho2 b hb with h1 | h1
       ·exact FO.out b h1
       ·have:=BR.out.lt;first | omega | (simp at h1;omega)
      have x1:=hb2.cell 1;have xl:=hb2.lt;have xf:=hb2.free 1
      simp only [List.getElem?_cons_zero,List.getElem?_cons_succ] at x1
      have KN2:=Hz (KN.setCell (p:=⟨tb,1,none⟩) (.inl rfl) (.slice ao2 (k+1) ac2))
      have BN:=Hz (show Blk (w2.setCell ⟨tb,1,none⟩ (.slice ao2 (k+1) ac2)) tb [.int .i64 kd, .slice ao2 (k+1) ac2, .bool false, .bool false] 154 by simpa using hb2.setSame 1 (.slice ao2 (k+1) ac2))
      have SN:=Hz (show Sl (w2.setCell ⟨tb,1,none⟩ (.slice ao2 (k+1) ac2)) 96 2 (.slice ao2 (k+1) ac2) (k+1) (entV (List.replicate (k+1) (0,0))) by
       have e2:entV (List.replicate (k+1) (0,0))=entV (List.replicate k (0,0)) ++ [.int .i64 0, .int .i64 0]:=by simp [entV,List.replicate_succ']
       rw [e2]
       exact hs2.keep ((Keeps.refl (·=tb) w2).setCell (p:=⟨tb,1,none⟩) (.inl rfl) (.slice ao2 (k+1) ac2)) (fun b hb e=>by
        have:=hoN b hb;omega))
      have ON:=Hz hoN
      clear hs2 hk2 ho2 ka hno hb2 KN hoN
      go_wp2_with fail
      go_roundw
      case rel=>exact ⟨k+1,ao2,ac2,hlt,by go_num,KN2.out,BN.out,SN.out,ON.out⟩
      case measure=>simp [intOf];omega
    ·obtain rfl:k=n:=by omega
     obtain ⟨g,o,rc,erv,hg,-,-⟩:=HR.out.root hr
     have hrl:W.roots.length=12:=HR.out.ok.hr
     obtain ⟨no,nc,eth,-⟩:=HR.out.ht.nth
     obtain ⟨c0,c1,-,-,-,-⟩:=HR.out.cells
     have pl:=HR.out.hp.lt
     have hrs:=HR.out.hr
     rw [erv,hrl] at c1 hrs
     rw [eth] at c0
     have RS:=Hz hrs;have ERV:=Hz erv;have HRL:=Hz hrl;have ETH:=Hz eth
     clear erv hrl eth hrs
     go_wp2_with fail
     have h12:(r:Int)<12:=by omega
     have h12':¬ (12:Int)≤(r:Int):=by omega
     have h12n:¬ (12:Nat)≤r:=by omega
     refine wp_region_ro (.free 0 (.free 1 (.free 2 (.free 4 (.free 5 (.free 6 (.free 7 (.pure 3 (.pure 8 (.free 9 (.free 10 (.free 11 (.run 12 (.swi [] (.fin))))))))))))))) [12] (fun w'=>w'.cell? ⟨h.p,0,none⟩=some (.slice no W.T.length nc)∧w'.cell? ⟨h.p,1,none⟩=some (.slice (some ⟨g,o,none⟩) 12 rc)) (by kernel_rfl) (by kernel_rfl) ⟨c0,c1⟩ ?_
     iterate 12 first | (refine wpRO_free rfl rfl _ (fun w'=>by go_simp;exact Gives.mk _ _) (fun K hK=>?_);go_simp;refine hK _ ?_;clear hK K) | (refine wpRO_skipF rfl rfl (fun K hK=>?_);go_simp;refine hK _ ?_;clear hK K) | (refine wpRO_pure rfl rfl _ (fun w' hG=>by obtain ⟨c0,c1⟩:=hG;exact gives_agg2 rfl (by decide +kernel) rfl (by assumption) (by assumption)) (fun K hK=>?_);go_simp;refine hK _ ?_;clear hK K) | (refine wpRO_pure rfl rfl _ (fun w' hG=>by obtain ⟨c0,c1⟩:=hG;go_simp;exact Gives.mk _ _) (fun K hK=>?_);go_simp;refine hK _ ?_;clear hK K) | (refine wpRO_skip rfl rfl (fun K hK=>?_);go_simp;refine hK _ ?_;clear hK K)
     refine wpRO_chg rfl rfl rfl (fun K hK=>?_)
     refine gRun_store_val 96 (.tmp 57) (.tmp 56) rfl rfl g o 12 rc r (entV W.roots) 96 (.int .i64 3) (.int .i64 W.T.length) rfl rfl (RS.out.keep (Kz wr).drew (fun _ _ h=>h)) hr (by kernel_rfl) rfl rfl ?_
     intro w3 hs3 hk3 hz3
     refine hK _ _ ?_
     clear hK K
     refine wpRO_swi (fun _=>True) trivial (wpRO_fin ?_)
     have hkw:Keeps (·=g) wr w3:=((Kz wr).drew.mono (fun _ _ h=>h.elim)).trans hk3
     have KW:=Hz hkw
     obtain ⟨_,cg,hcg⟩:=RS.out.own (k:=g) rfl
     have ne:∀ {b:Nat} {c:List Value} {T:TypeId},Blk wr b c T→T≠96→¬ b=g:=fun hb hT e=>hb.ne hcg hT e
     have HP3:=hkw.blk HR.out.hp (ne HR.out.hp (by decide))
     have BR3:=hkw.blk BR.out (ne BR.out (by decide))
     obtain ⟨cs,hsT1,hRT⟩:=H1.out.ht
     have hsT:=(hsT1.keep KB.out (fun _ _ h=>h)).keep KR.out (fun b hb e=>by have:=OB.out b (.inr (.inl hb));omega)
     have hsT3:=hsT.keep hkw (fun b hb=>by obtain ⟨_,c,hc⟩:=hsT.own hb;exact ne hc (by decide))
     have hgo:ownB h.rv g:=by rw [ERV.out];rfl
     have hgt:=OB.out g (.inr (.inr (.inl hgo)))
     have FS3:=FS.out.keep hkw (fun b hb e=>by have:=FO.out b hb;omega)
     rw [ETH.out] at hsT3
     have c0:=HP3.cell 0;have pl:=HP3.lt
     have t0:=BR3.cell 0;have t1:=BR3.cell 1;have t2:=BR3.cell 2;have t3:=BR3.cell 3;have bl:=BR3.lt
     simp only [List.getElem?_cons_zero,List.getElem?_cons_succ] at c0 t0 t1 t2 t3
     rw [ETH.out] at c0
     have RS3:=Hz hs3;have HP3:=Hz HP3;have BR3:=Hz BR3;have TS3:=Hz hsT3;have RT:=Hz hRT;have FS3:=Hz FS3;have TS:=Hz hsT;have GO:=Hz hgo;have HGT:=Hz hgt
     clear hkw hcg ne hsT hsT3 hRT hs3 hk3 hz3 b1 bf c1 hg h12 h12' h12n hgo hgt
     go_wp2_with fail
     refine wp_region_ro (.free 0 (.free 1 (.free 2 (.free 3 (.pure 4 (.pure 5 (.run 6 (.run 7 (.swi [10] (.free 8 (.free 9 (.run 10 (.swi [] (.fin)))))))))))))) [7,8,9,10] (fun w'=>w'.cell? ⟨h.p,0,none⟩=some (.slice no W.T.length nc)∧w'.cell? ⟨tb,0,none⟩=some (.int .i64 kd)∧w'.cell? ⟨tb,1,none⟩=some (.slice fo k fc)∧w'.cell? ⟨tb,2,none⟩=some (.bool false)∧w'.cell? ⟨tb,3,none⟩=some (.bool false)) (by kernel_rfl) (by kernel_rfl) ⟨c0,t0,t1,t2,t3⟩ ?_
     iterate 6 first | (refine wpRO_free rfl rfl _ (fun w'=>by go_simp;exact Gives.mk _ _) (fun K hK=>?_);go_simp;refine hK _ ?_;clear hK K) | (refine wpRO_skipF rfl rfl (fun K hK=>?_);go_simp;refine hK _ ?_;clear hK K) | (refine wpRO_pure rfl rfl _ (fun w' hG=>by obtain ⟨c0,t0,t1,t2,t3⟩:=hG;exact gives_agg (cs:=[_,_,_,_]) rfl (by decide +kernel) rfl (rangeAt_cons (by assumption) (rangeAt_cons (by assumption) (rangeAt_cons (by assumption) (rangeAt_cons (by assumption) rangeAt_nil))))) (fun K hK=>?_);go_simp;refine hK _ ?_;clear hK K) | (refine wpRO_pure rfl rfl _ (fun w' hG=>by obtain ⟨c0,t0,t1,t2,t3⟩:=hG;exact gives_agg2 rfl (by decide +kernel) rfl (by assumption) (by assumption)) (fun K hK=>?_);go_simp;refine hK _ ?_;clear hK K) | (refine wpRO_pure rfl rfl _ (fun w' hG=>by obtain ⟨c0,t0,t1,t2,t3⟩:=hG;go_simp;exact Gives.mk _ _) (fun K hK=>?_);go_simp;refine hK _ ?_;clear hK K) | (refine wpRO_skip rfl rfl (fun K hK=>?_);go_simp;refine hK _ ?_;clear hK K)
     refine wpRO_run rfl rfl (fun K hK=>?_);unfold gRun;go_simp
     have hka:Keeps (fun _=>False) w3 ((w3.alloc (.cells #[.int .i64 kd, .slice fo k fc, .bool false, .bool false] 154)).drew):=((Kz w3).alloc (.cells #[.int .i64 kd, .slice fo k fc, .bool false, .bool false] 154)).drew
     refine hK _ _ (fun hg=>⟨(hka.blk HP3.out (fun h=>h)).cell 0 |>.trans (by simp [ETH.out]),(hka.blk BR3.out (fun h=>h)).cell 0,(hka.blk BR3.out (fun h=>h)).cell 1,(hka.blk BR3.out (fun h=>h)).cell 2,(hka.blk BR3.out (fun h=>h)).cell 3⟩) ?_
     clear hK K
     refine wpRO_chg rfl rfl rfl (fun K hK=>?_)
     refine gRun_app (.tmp 62) (.tmp 64) 144 rfl 154 it (.agg #[.int .i64 0, .slice none 0 0, .bool false, .bool false]) 4 40 Tryz.underlying144 Ti.out Tz0.out Tz1.out Tz2.out rfl (by decide) _ W.T.length cs rfl (TS3.out.keep hka (fun _ _ h=>h)) ⟨w3.heap.size,0,none⟩ 1 1 [.int .i64 kd, .slice fo k fc, .bool false, .bool false] rfl rfl (news_at w3 154 #[.int .i64 kd, .slice fo k fc, .bool false, .bool false]) (by intro u hu;simp at hu;rcases hu with rfl | rfl | rfl <;> rfl) (by unfold maxLen;omega) (by omega) ?_
     intro v4 w4 hs4 hk4 ho4
     refine hK _ _ ?_
     clear hK K
     obtain ⟨vo4,vc4,rfl,-,-,-⟩:=hs4.rd
     have nTV:∀ {b:Nat} {c:List Value} {T:TypeId},Blk w3 b c T→T≠154→¬ ownB (.slice no W.T.length nc) b:=fun hb hT e=>by
      obtain ⟨_,c',hc'⟩:=TS3.out.own e
      exact hb.ne hc' hT rfl
     have HP4:=Hz (hk4.blk (hka.blk HP3.out (fun h=>h)) (nTV HP3.out (by decide)))
     have RS4:=Hz ((RS3.out.keep hka (fun _ _ h=>h)).keep hk4 (fun b hb e=>by obtain ⟨_,c,hc⟩:=RS3.out.own hb;exact nTV hc (by decide) e))
     have FS4:=Hz ((FS3.out.keep hka (fun _ _ h=>h)).keep hk4 (fun b hb e=>by obtain ⟨_,c,hc⟩:=FS3.out.own hb;exact nTV hc (by decide) e))
     have TS4:=Hz hs4
     have K13:=Hz (show Keeps (fun b=>ownB h.rv b∨ownB h.tv b∨b=h.p) w1 w3 from ((KB.out.mono (fun _ _ h=>h.elim)).then KR.out (fun b hb=>.inr (by rw [HTB.out,hb];exact Nat.le_refl _))).then KW.out (fun b hb=>.inl (.inl (hb ▸ GO.out))))
     have K14:=Hz ((K13.out.then hka (fun _ h=>h.elim)).then hk4 (fun b hb=>.inl (.inr (.inl (by rw [ETH.out];exact hb)))))
     have O4:=Hz (show ∀ b,ownB (.slice vo4 (W.T.length+1) vc4) b→ownB h.tv b∨w1.heap.size≤b from fun b hb=>by
      rcases ho4 b hb with h1 | h1
      ·exact .inl (by rw [ETH.out];exact h1)
      ·have:=K13.out.size;exact .inr (by first | omega | (simp at h1;omega)))
     have x0:=HP4.out.cell 0;have xl:=HP4.out.lt;have xf:=HP4.out.free 0
     simp only [List.getElem?_cons_zero] at x0
     clear hs4 hk4 ho4 hka c0 t0 t1 t2 t3 bl pl
     refine wpRO_swi (fun _=>True) trivial ?_
     iterate 2 first | (refine wpRO_free rfl rfl _ (fun w'=>by go_simp;exact Gives.mk _ _) (fun K hK=>?_);go_simp;refine hK _ ?_;clear hK K) | (refine wpRO_skipF rfl rfl (fun K hK=>?_);go_simp;refine hK _ ?_;clear hK K)
     refine wpRO_chg rfl rfl rfl (fun K hK=>?_);unfold gRun;go_simp
     refine hK _ _ ?_
     clear hK K
     refine wpRO_swi (fun _=>True) trivial (wpRO_fin ?_)
     clear x0 xl xf
     go_wp2_with fail
     go_ret
     refine ⟨by rw [HE.out];rfl,?_⟩
     rw [HE.out]
     have hnp:∀ {b:Nat} {c:List Value} {T:TypeId},Blk w4 b c T→T≠147→¬ b=h.p:=fun hb hT=>hb.ne HP4.out hT
     have hset:=(Keeps.refl (·=h.p) w4).setCell (p:=⟨h.p,0,none⟩) (.inl rfl) (.slice vo4 (W.T.length+1) vc4)
     have hlen:(List.replicate k ((0,0):Vl)).length=k:=by simp
     have hput:=H1.out.putIn (w':=(w4.setCell ⟨h.p,0,none⟩ (.slice vo4 (W.T.length+1) vc4))) (r:=r) (kd:=kd) (l:=List.replicate k (0,0)) (tv:=.slice vo4 (W.T.length+1) vc4) (fv:=.slice fo k fc) (fo:=fo) (fc:=fc) (cs:=cs) (by rw [hlen]) (by simpa using HP4.out.setSame 0 (.slice vo4 (W.T.length+1) vc4)) RT.out (by rw [hlen];exact TS4.out.keep hset (fun b hb e=>by obtain ⟨_,c,hc⟩:=TS4.out.own hb;exact hnp hc (by decide) e))
      (by rw [ERV.out,HRL.out];exact RS4.out.keep hset (fun b hb e=>by obtain ⟨_,c,hc⟩:=RS4.out.own hb;exact hnp hc (by decide) e)) (by rw [hlen];exact FS4.out.keep hset (fun b hb e=>by obtain ⟨_,c,hc⟩:=FS4.out.own hb;exact hnp hc (by decide) e))
      (fun b hb=>by have:=FO.out b hb;rw [HTB.out];omega) (K14.out.then hset (fun b hb=>.inl (.inr (.inr hb)))) O4.out HPO.out
     have:=WorldTo.from_same K1.out hput
     first | exact this | exact this.to_same (Keeps.refl _ _).drew | skip
  ·have hd:decide (W.most-W.young<1+(n:Int))=true:=by simp;omega
   have HE:=Hz (HFN.out (fun h=>hroom h.2))
   clear hf0 hroom
   go_wp2_with fail
   go_ret
   exact ⟨by rw [HE.out];rfl,by rw [HE.out];exact WorldTo.same HH.out K1.out⟩
 ·have hf0:((headW kd f).2 != 0)=true:=by simp;exact fun e=>hf (HFT.out.1 e)
  have HE:=Hz (HFN.out (fun h=>hf h.1))
  clear hf
  generalize (headW kd f).2=q at *
  go_wp2_with fail
  go_ret
  exact ⟨by rw [HE.out];rfl,by rw [HE.out];exact WorldTo.same HH.out K1.out⟩
end
end
section
open Go.RowKit
theorem do_no {W:Wd} {x:St} {c:Int} (h:checkM x=c) (h0:c≠0):W.do x=(c,W):=by unfold Wd.do;rw [h,if_neg h0]
theorem do_yes {W:Wd} {x:St} (h:checkM x=0):W.do x=W.step x:=by unfold Wd.do;rw [if_pos h]
section
variable {w:World} {h:RW} {W:Wd}
theorem WDoInt_c (xr xa xb xi xn:Int) (H:WorldAt w h W) :
  Calls Tryz.prog 33 #[.pointer (some ⟨h.p,0,none⟩), .agg #[.int .i64 1, .int .i64 xr, .int .i64 xa, .int .i64 xb, .int .i64 xi, .int .i64 xn]] w fun e w'=>e=.returned (.int .i64 (W.do ⟨1,xr,xa,xb,xi,xn⟩).1)∧WorldTo w h w' (W.do ⟨1,xr,xa,xb,xi,xn⟩).2:=by
 have HH:=Hz H
 have hb1:Blk (w.alloc (.cells #[.int .i64 1, .int .i64 xr, .int .i64 xa, .int .i64 xb, .int .i64 xi, .int .i64 xn] 69)) w.heap.size [.int .i64 1, .int .i64 xr, .int .i64 xa, .int .i64 xb, .int .i64 xi, .int .i64 xn] 69:=Blk.newAt _ rfl rfl
 have HB:=Hz hb1
 have KA:=Hz ((Kz w).alloc (.cells #[.int .i64 1, .int .i64 xr, .int .i64 xa, .int .i64 xb, .int .i64 xi, .int .i64 xn] 69))
 have s0:=hb1.cell 0;have s1:=hb1.cell 1;have s2:=hb1.cell 2;have s3:=hb1.cell 3;have s4:=hb1.cell 4;have s5:=hb1.cell 5
 simp only [List.getElem?_cons_zero,List.getElem?_cons_succ] at s0 s1 s2 s3 s4 s5
 have HSF:=Hz (fun w=>RStepFault_c ⟨1,xr,xa,xb,xi,xn⟩ w)
 obtain ⟨c,hc⟩:∃ c,checkM ⟨1,xr,xa,xb,xi,xn⟩=c:=⟨_,rfl⟩
 rw [hc] at HSF
 have HC:=Hz hc
 clear H hb1 hc
 go_enter Tryz.func33,Tryz.ntmps33
 go_wp2_with (refine wpList_agg rfl 69 (.tmp 3) rfl [.int .i64 1, .int .i64 xr, .int .i64 xa, .int .i64 xb, .int .i64 xi, .int .i64 xn] (by kernel_rfl) w.heap.size 0 rfl (rangeAt_cons s0 (rangeAt_cons s1 (rangeAt_cons s2 (rangeAt_cons s3 (rangeAt_cons s4 (rangeAt_cons s5 rangeAt_nil)))))) ?_)
 refine (HSF.out _).mono ?_
 rintro e w1 ⟨rfl,hk⟩
 have H1:=Hz ((HH.out.same KA.out).same hk)
 have K1:=Hz (KA.out.trans hk)
 have B1:=Hz (hk.blk HB.out (fun h=>h))
 clear hk s0 s1 s2 s3 s4 s5 HSF KA HB
 generalize w.heap.size=sb at *
 have s0:=B1.out.cell 0;have s1:=B1.out.cell 1;have s5:=B1.out.cell 5;have sl:=B1.out.lt
 simp only [List.getElem?_cons_zero,List.getElem?_cons_succ] at s0 s1 s5
 by_cases h0:c=0
 ·subst h0
  have hr:=(checkM_use HC.out).2.1 (show usesM 1%2=1 by decide)
  have hr:0≤xr∧xr<12:=(rootOk_iff _).1 hr
  have hn:-big≤xn∧xn<big:=(checkM_use HC.out).2.2.2.2.1 rfl
  have HE:=Hz (show W.do ⟨1,xr,xa,xb,xi,xn⟩=(0,W.setR xr (1,xn)) by rw [do_yes HC.out];rfl)
  have HN:=Hz (Wd.okV_num (W:=W) hn.1 hn.2)
  obtain ⟨r,rfl⟩:∃ r:Nat,xr=r:=⟨xr.toNat,by omega⟩
  have hr12:r<12:=by omega
  clear hn
  obtain ⟨g,o,rc,erv,hg,-,-⟩:=H1.out.root hr12
  have hrl:W.roots.length=12:=H1.out.ok.hr
  obtain ⟨-,c1,-,-,-,-⟩:=H1.out.cells
  have pl:=H1.out.hp.lt
  have hrs:=H1.out.hr
  rw [erv,hrl] at c1 hrs
  have RS:=Hz hrs;have ERV:=Hz erv;have HRL:=Hz hrl
  have h12:(r:Int)<12:=by omega
  clear erv hrl hrs hr
  go_wp2_with fail
  refine wp_region_ro (.free 0 (.free 1 (.free 2 (.free 4 (.free 6 (.pure 3 (.pure 5 (.pure 7 (.free 8 (.free 9 (.run 10 (.swi [] (.fin))))))))))))) [10] (fun w'=>w'.cell? ⟨h.p,1,none⟩=some (.slice (some ⟨g,o,none⟩) 12 rc)∧w'.cell? ⟨sb,1,none⟩=some (.int .i64 r)∧w'.cell? ⟨sb,5,none⟩=some (.int .i64 xn)) (by kernel_rfl) (by kernel_rfl) ⟨c1,s1,s5⟩ ?_
  iterate 10 first | (refine wpRO_free rfl rfl _ (fun w'=>by go_simp;exact Gives.mk _ _) (fun K hK=>?_);go_simp;refine hK _ ?_;clear hK K) | (refine wpRO_skipF rfl rfl (fun K hK=>?_);go_simp;refine hK _ ?_;clear hK K) | (refine wpRO_pure rfl rfl _ (fun w' hG=>by obtain ⟨c1,s1,s5⟩:=hG;exact gives_agg2 rfl (by decide +kernel) rfl (by assumption) (by assumption)) (fun K hK=>?_);go_simp;refine hK _ ?_;clear hK K) | (refine wpRO_pure rfl rfl _ (fun w' hG=>by obtain ⟨c1,s1,s5⟩:=hG;go_simp;exact Gives.mk _ _) (fun K hK=>?_);go_simp;refine hK _ ?_;clear hK K) | (refine wpRO_skip rfl rfl (fun K hK=>?_);go_simp;refine hK _ ?_;clear hK K)
  refine wpRO_chg rfl rfl rfl (fun K hK=>?_)
  refine gRun_store_val 96 (.tmp 34) (.tmp 33) rfl rfl g o 12 rc r (entV W.roots) 96 (.int .i64 1) (.int .i64 xn) rfl rfl (RS.out.keep (Kz w1).drew (fun _ _ h=>h)) hr12 (by kernel_rfl) rfl rfl ?_
  intro w3 hs3 hk3 hz3
  refine hK _ _ ?_
  clear hK K
  refine wpRO_swi (fun _=>True) trivial (wpRO_fin ?_)
  have hkw:Keeps (·=g) w1 w3:=((Kz w1).drew.mono (fun _ _ h=>h.elim)).trans hk3
  have TO:=Hz (WorldTo.from_same K1.out (H1.out.setRoot (w':=w3) (by rw [ERV.out]) hr12 HN.out (by rw [HRL.out];exact hs3) hkw))
  clear hkw hs3 hk3 hz3 c1 s1 s5 s0
  go_wp2_with fail
  go_ret
  exact ⟨by rw [HE.out];rfl,by rw [HE.out];exact TO.out⟩
 ·have HE:=Hz (do_no (W:=W) HC.out h0)
  have hd:(c != 0)=true:=by simpa using h0
  clear h0
  go_wp2_with fail
  go_ret
  exact ⟨by rw [HE.out];rfl,by rw [HE.out];exact WorldTo.same HH.out K1.out⟩
end
end
section
open Go.RowKit
section
variable {w:World} {h:RW} {W:Wd}
theorem WDoGet_c (xr xa xb xi xn:Int) (H:WorldAt w h W) :
  Calls Tryz.prog 33 #[.pointer (some ⟨h.p,0,none⟩), .agg #[.int .i64 11, .int .i64 xr, .int .i64 xa, .int .i64 xb, .int .i64 xi, .int .i64 xn]] w fun e w'=>e=.returned (.int .i64 (W.do ⟨11,xr,xa,xb,xi,xn⟩).1)∧WorldTo w h w' (W.do ⟨11,xr,xa,xb,xi,xn⟩).2:=by
 have HH:=Hz H
 have hb1:Blk (w.alloc (.cells #[.int .i64 11, .int .i64 xr, .int .i64 xa, .int .i64 xb, .int .i64 xi, .int .i64 xn] 69)) w.heap.size [.int .i64 11, .int .i64 xr, .int .i64 xa, .int .i64 xb, .int .i64 xi, .int .i64 xn] 69:=Blk.newAt _ rfl rfl
 have HB:=Hz hb1
 have KA:=Hz ((Kz w).alloc (.cells #[.int .i64 11, .int .i64 xr, .int .i64 xa, .int .i64 xb, .int .i64 xi, .int .i64 xn] 69))
 have s0:=hb1.cell 0;have s1:=hb1.cell 1;have s2:=hb1.cell 2;have s3:=hb1.cell 3;have s4:=hb1.cell 4;have s5:=hb1.cell 5
 simp only [List.getElem?_cons_zero,List.getElem?_cons_succ] at s0 s1 s2 s3 s4 s5
 have HSF:=Hz (fun w=>RStepFault_c ⟨11,xr,xa,xb,xi,xn⟩ w)
 obtain ⟨c,hc⟩:∃ c,checkM ⟨11,xr,xa,xb,xi,xn⟩=c:=⟨_,rfl⟩
 rw [hc] at HSF
 have HC:=Hz hc
 clear H hb1 hc
 go_enter Tryz.func33,Tryz.ntmps33
 go_wp2_with (refine wpList_agg rfl 69 (.tmp 3) rfl [.int .i64 11, .int .i64 xr, .int .i64 xa, .int .i64 xb, .int .i64 xi, .int .i64 xn] (by kernel_rfl) w.heap.size 0 rfl (rangeAt_cons s0 (rangeAt_cons s1 (rangeAt_cons s2 (rangeAt_cons s3 (rangeAt_cons s4 (rangeAt_cons s5 rangeAt_nil)))))) ?_)
 refine (HSF.out _).mono ?_
 rintro e w1 ⟨rfl,hk⟩
 have H1:=Hz ((HH.out.same KA.out).same hk)
 have K1:=Hz (KA.out.trans hk)
 have B1:=Hz (hk.blk HB.out (fun h=>h))
 clear hk s0 s1 s2 s3 s4 s5 HSF KA HB
 generalize w.heap.size=sb at *
 have s0:=B1.out.cell 0;have s1:=B1.out.cell 1;have s2:=B1.out.cell 2;have s3:=B1.out.cell 3;have s4:=B1.out.cell 4;have s5:=B1.out.cell 5;have sl:=B1.out.lt
 simp only [List.getElem?_cons_zero,List.getElem?_cons_succ] at s0 s1 s2 s3 s4 s5
 by_cases h0:¬ c=0
 ·have HE:=Hz (do_no (W:=W) HC.out h0)
  have hd:(c != 0)=true:=by simpa using h0
  clear h0
  go_wp2_with fail
  go_ret
  exact ⟨by rw [HE.out];rfl,by rw [HE.out];exact WorldTo.same HH.out K1.out⟩
 have h0:c=0:=Classical.not_not.1 h0
 subst h0
 have ha:0≤xa∧xa<12:=(rootOk_iff _).1 ((checkM_use HC.out).2.2.1 (show usesM 11/2%2=1 by decide))
 obtain ⟨a,rfl⟩:∃ a:Nat,xa=a:=⟨xa.toNat,by omega⟩
 have ha12:a<12:=by omega
 clear ha
 have hth:=WThing_c a ha12 H1.out
 have htl:=Wd.thing_live (W:=W) (k:=(a:Int)) H1.out.ok
 obtain ⟨ti,hti⟩:∃ ti,W.thing (a:Int)=ti:=⟨_,rfl⟩
 rw [hti] at hth htl
 have HTI:=Hz hti;have HTH:=Hz hth;have HTL:=Hz (fun (hn:0≤ti)=>htl (by omega))
 clear hti hth htl
 have pl:=H1.out.hp.lt
 go_wp2_with fail
 refine HTH.out.mono ?_
 rintro e w2 ⟨rfl,hk⟩
 have H2:=Hz (H1.out.same hk)
 have K2:=Hz (K1.out.trans hk)
 have B2:=Hz (hk.blk B1.out (fun h=>h))
 clear hk s0 s1 s2 s3 s4 s5 sl pl HTH B1 H1 K1
 have s0:=B2.out.cell 0;have s1:=B2.out.cell 1;have s2:=B2.out.cell 2;have s3:=B2.out.cell 3;have s4:=B2.out.cell 4;have sl:=B2.out.lt;have pl:=H2.out.hp.lt
 simp only [List.getElem?_cons_zero,List.getElem?_cons_succ] at s0 s1 s2 s3 s4
 by_cases hi:ti<0
 ·have hd:decide (ti<0)=true:=by simpa using hi
  have HF:=Hz (show W.fieldC ⟨11,xr,a,xb,xi,xn⟩=2 by unfold Wd.fieldC;dsimp only;rw [HTI.out,if_pos (.inl hi)])
  have HE:=Hz (show W.do ⟨11,xr,a,xb,xi,xn⟩=(2,W) by rw [do_yes HC.out];show Wd.get _ _=_;unfold Wd.get;rw [HF.out];rfl)
  clear hi
  go_wp2_with fail
  go_ret
  exact ⟨by rw [HE.out];rfl,by rw [HE.out];exact WorldTo.same HH.out K2.out⟩
 have hd:decide (ti<0)=false:=by simpa using hi
 have HLV:=Hz (HTL.out (by omega))
 obtain ⟨m,rfl,g0,o0,nc,ao,fc,etv,hm,hg0,t0,t1,hrd,hog⟩:=H2.out.nth HLV.out
 obtain ⟨c0,-,-,-,-,-⟩:=H2.out.cells
 rw [etv] at c0
 have HRD:=Hz hrd;have HOG:=Hz hog;have ETV:=Hz etv;have HTI2:=Hz (show W.thing (a:Int)=(m:Int) from HTI.out)
 have HFB:=Hz (Wd.th_bound H2.out.ok HLV.out)
 clear hi HTL hrd hog etv HTI
 by_cases h5:(W.th m).k=5
 ·have HF:=Hz (show W.fieldC ⟨11,xr,a,xb,xi,xn⟩=2 by unfold Wd.fieldC;dsimp only;rw [HTI2.out,if_pos (.inr h5)])
  have HE:=Hz (show W.do ⟨11,xr,a,xb,xi,xn⟩=(2,W) by rw [do_yes HC.out];show Wd.get _ _=_;unfold Wd.get;rw [HF.out];rfl)
  rw [h5] at t0
  clear h5
  go_wp2_with fail
  go_ret
  exact ⟨by rw [HE.out];rfl,by rw [HE.out];exact WorldTo.same HH.out K2.out⟩
 have hb5:((W.th m).k == 5)=false:=by simpa using h5
 have HFC:=Hz (show W.fieldC ⟨11,xr,a,xb,xi,xn⟩=if xi<0∨((W.th m).fs.length:Int)≤xi then 1 else 0 by unfold Wd.fieldC;dsimp only;rw [HTI2.out,if_neg (fun e=>by rcases e with e | e;omega;exact h5 e)])
 have hfl:=HFB.out
 obtain ⟨fs,hfs⟩:∃ fs,(W.th m).fs=fs:=⟨_,rfl⟩
 rw [hfs] at HFC HRD t1 hfl
 have HFS:=Hz hfs
 clear h5 hfs HFB
 generalize (W.th m).k=q at *
 by_cases i0:xi<0
 ·have hd0:decide (xi<0)=true:=by simpa using i0
  have HF:=Hz (show W.fieldC ⟨11,xr,a,xb,xi,xn⟩=1 by rw [HFC.out,if_pos (.inl i0)])
  have HE:=Hz (show W.do ⟨11,xr,a,xb,xi,xn⟩=(1,W) by rw [do_yes HC.out];show Wd.get _ _=_;unfold Wd.get;rw [HF.out];rfl)
  clear i0
  go_wp2_with fail
  go_ret
  exact ⟨by rw [HE.out];rfl,by rw [HE.out];exact WorldTo.same HH.out K2.out⟩
 have hd0:decide (xi<0)=false:=by simpa using i0
 obtain ⟨i,rfl⟩:∃ i:Nat,xi=i:=⟨xi.toNat,by omega⟩
 by_cases i1:fs.length≤i
 ·have hd1:decide (fs.length≤i)=true:=by simpa using i1
  have HF:=Hz (show W.fieldC ⟨11,xr,a,xb,i,xn⟩=1 by rw [HFC.out,if_pos (.inr (by omega))])
  have HE:=Hz (show W.do ⟨11,xr,a,xb,i,xn⟩=(1,W) by rw [do_yes HC.out];show Wd.get _ _=_;unfold Wd.get;rw [HF.out];rfl)
  clear i1 i0
  go_wp2_with fail
  go_ret
  exact ⟨by rw [HE.out];rfl,by rw [HE.out];exact WorldTo.same HH.out K2.out⟩
 have hd1:decide (fs.length≤i)=false:=by simpa using i1
 have hil:i<fs.length:=by omega
 have HF:=Hz (show W.fieldC ⟨11,xr,a,xb,i,xn⟩=0 by rw [HFC.out,if_neg (by omega)])
 clear i0 i1 HFC
 have hr:0≤xr∧xr<12:=(rootOk_iff _).1 ((checkM_use HC.out).2.1 (show usesM 11%2=1 by decide))
 obtain ⟨r,rfl⟩:∃ r:Nat,xr=r:=⟨xr.toNat,by omega⟩
 have hr12:r<12:=by omega
 obtain ⟨g,o,rc,erv,hg,-,-⟩:=H2.out.root hr12
 have hrl:W.roots.length=12:=H2.out.ok.hr
 obtain ⟨-,c1,-,-,-,-⟩:=H2.out.cells
 have hrs:=H2.out.hr
 rw [erv,hrl] at c1 hrs
 have RS:=Hz hrs;have ERV:=Hz erv;have HRL:=Hz hrl
 have h12:(r:Int)<12:=by omega
 clear erv hrl hrs
 clear hr
 obtain ⟨gf,of,rfl,hgf,f0,f1⟩:=HRD.out.val i hil
 have HV:=Hz (show W.okV (fs.getD i (0,0)) from H2.out.ok.tv m HLV.out _ (by rw [HFS.out,List.getD_eq_getElem?_getD,List.getElem?_eq_getElem hil];exact List.getElem_mem hil))
 have HE:=Hz (show W.do ⟨11,r,a,xb,i,xn⟩=(0,W.setR r (fs.getD i (0,0))) by rw [do_yes HC.out];show Wd.get _ _=_;unfold Wd.get;rw [HF.out,if_pos rfl];dsimp only;rw [HTI2.out,HFS.out,Int.toNat_natCast])
 generalize fs.getD i (0,0)=v at *
 obtain ⟨v1,v2⟩:=v
 dsimp only at f0 f1
 go_wp2_with fail
 refine wp_region_ro (.free 0 (.free 1 (.free 2 (.free 4 (.free 6 (.free 7 (.free 8 (.free 10 (.free 14 (.pure 3 (.pure 5 (.pure 9 (.free 11 (.free 12 (.pure 13 (.pure 15 (.free 16 (.pure 17 (.free 18 (.run 19 (.swi [] (.fin)))))))))))))))))))))) [19] (fun w'=>w'.cell? ⟨h.p,1,none⟩=some (.slice (some ⟨g,o,none⟩) 12 rc)∧w'.cell? ⟨sb,1,none⟩=some (.int .i64 r)∧w'.cell? ⟨h.p,0,none⟩=some (.slice (some ⟨g0,o0,none⟩) W.T.length nc)∧w'.cell? ⟨g0,o0+m*4+1,none⟩=some (.slice (some ⟨gf,of,none⟩) fs.length fc)∧w'.cell? ⟨sb,4,none⟩=some (.int .i64 i)∧w'.cell? ⟨gf,of+i*2,none⟩=some (.int .i64 v1)∧w'.cell? ⟨gf,of+i*2+1,none⟩=some (.int .i64 v2)) (by kernel_rfl) (by kernel_rfl) ⟨c1,s1,c0,t1,s4,f0,f1⟩ ?_
 iterate 19 first | (refine wpRO_free rfl rfl _ (fun w'=>by go_simp;exact Gives.mk _ _) (fun K hK=>?_);go_simp;refine hK _ ?_;clear hK K) | (refine wpRO_skipF rfl rfl (fun K hK=>?_);go_simp;refine hK _ ?_;clear hK K) | (refine wpRO_pure rfl rfl _ (fun w' hG=>by obtain ⟨c1,s1,c0,t1,s4,f0,f1⟩:=hG;exact gives_agg2 rfl (by decide +kernel) rfl (by assumption) (by assumption)) (fun K hK=>?_);go_simp;refine hK _ ?_;clear hK K) | (refine wpRO_pure rfl rfl _ (fun w' hG=>by obtain ⟨c1,s1,c0,t1,s4,f0,f1⟩:=hG;go_simp;exact Gives.mk _ _) (fun K hK=>?_);go_simp;refine hK _ ?_;clear hK K) | (refine wpRO_skip rfl rfl (fun K hK=>?_);go_simp;refine hK _ ?_;clear hK K)
 refine wpRO_chg rfl rfl rfl (fun K hK=>?_)
 refine gRun_store_val 96 (.tmp 298) (.tmp 297) rfl rfl g o 12 rc r (entV W.roots) 96 (.int .i64 (v1)) (.int .i64 (v2)) rfl rfl (RS.out.keep (Kz w2).drew (fun _ _ h=>h)) hr12 (by kernel_rfl) rfl rfl ?_
 intro w3 hs3 hk3 hz3
 refine hK _ _ ?_
 clear hK K
 refine wpRO_swi (fun _=>True) trivial (wpRO_fin ?_)
 have hkw:Keeps (·=g) w2 w3:=((Kz w2).drew.mono (fun _ _ h=>h.elim)).trans hk3
 have TO:=Hz (WorldTo.from_same K2.out (H2.out.setRoot (w':=w3) (by rw [ERV.out]) hr12 HV.out (by rw [HRL.out];exact hs3) hkw))
 clear hkw hs3 hk3 hz3
 clear c1 s1 c0 t1 s4 f0 f1 s0 s2 s3 t0
 go_wp2_with fail
 go_ret
 exact ⟨by rw [HE.out];rfl,by rw [HE.out];exact TO.out⟩
end
end
section
open Go.RowKit
section
variable {w:World} {h:RW} {W:Wd}
theorem WDoNil_c (xr xa xb xi xn:Int) (H:WorldAt w h W) :
  Calls Tryz.prog 33 #[.pointer (some ⟨h.p,0,none⟩), .agg #[.int .i64 2, .int .i64 xr, .int .i64 xa, .int .i64 xb, .int .i64 xi, .int .i64 xn]] w fun e w'=>e=.returned (.int .i64 (W.do ⟨2,xr,xa,xb,xi,xn⟩).1)∧WorldTo w h w' (W.do ⟨2,xr,xa,xb,xi,xn⟩).2:=by
 have HH:=Hz H
 have hb1:Blk (w.alloc (.cells #[.int .i64 2, .int .i64 xr, .int .i64 xa, .int .i64 xb, .int .i64 xi, .int .i64 xn] 69)) w.heap.size [.int .i64 2, .int .i64 xr, .int .i64 xa, .int .i64 xb, .int .i64 xi, .int .i64 xn] 69:=Blk.newAt _ rfl rfl
 have HB:=Hz hb1
 have KA:=Hz ((Kz w).alloc (.cells #[.int .i64 2, .int .i64 xr, .int .i64 xa, .int .i64 xb, .int .i64 xi, .int .i64 xn] 69))
 have s0:=hb1.cell 0;have s1:=hb1.cell 1;have s2:=hb1.cell 2;have s3:=hb1.cell 3;have s4:=hb1.cell 4;have s5:=hb1.cell 5
 simp only [List.getElem?_cons_zero,List.getElem?_cons_succ] at s0 s1 s2 s3 s4 s5
 have HSF:=Hz (fun w=>RStepFault_c ⟨2,xr,xa,xb,xi,xn⟩ w)
 obtain ⟨c,hc⟩:∃ c,checkM ⟨2,xr,xa,xb,xi,xn⟩=c:=⟨_,rfl⟩
 rw [hc] at HSF
 have HC:=Hz hc
 clear H hb1 hc
 go_enter Tryz.func33,Tryz.ntmps33
 go_wp2_with (refine wpList_agg rfl 69 (.tmp 3) rfl [.int .i64 2, .int .i64 xr, .int .i64 xa, .int .i64 xb, .int .i64 xi, .int .i64 xn] (by kernel_rfl) w.heap.size 0 rfl (rangeAt_cons s0 (rangeAt_cons s1 (rangeAt_cons s2 (rangeAt_cons s3 (rangeAt_cons s4 (rangeAt_cons s5 rangeAt_nil)))))) ?_)
 refine (HSF.out _).mono ?_
 rintro e w1 ⟨rfl,hk⟩
 have H1:=Hz ((HH.out.same KA.out).same hk)
 have K1:=Hz (KA.out.trans hk)
 have B1:=Hz (hk.blk HB.out (fun h=>h))
 clear hk s0 s1 s2 s3 s4 s5 HSF KA HB
 generalize w.heap.size=sb at *
 have s0:=B1.out.cell 0;have s1:=B1.out.cell 1;have s5:=B1.out.cell 5;have sl:=B1.out.lt
 simp only [List.getElem?_cons_zero,List.getElem?_cons_succ] at s0 s1 s5
 by_cases h0:c=0
 ·subst h0
  have hr:=(checkM_use HC.out).2.1 (show usesM 2%2=1 by decide)
  have hr:0≤xr∧xr<12:=(rootOk_iff _).1 hr
  have HE:=Hz (show W.do ⟨2,xr,xa,xb,xi,xn⟩=(0,W.setR xr (0,0)) by rw [do_yes HC.out];rfl)
  have HN:=Hz (show W.okV (0,0) from .inl ⟨rfl,rfl⟩)
  obtain ⟨r,rfl⟩:∃ r:Nat,xr=r:=⟨xr.toNat,by omega⟩
  have hr12:r<12:=by omega
  obtain ⟨g,o,rc,erv,hg,-,-⟩:=H1.out.root hr12
  have hrl:W.roots.length=12:=H1.out.ok.hr
  obtain ⟨-,c1,-,-,-,-⟩:=H1.out.cells
  have pl:=H1.out.hp.lt
  have hrs:=H1.out.hr
  rw [erv,hrl] at c1 hrs
  have RS:=Hz hrs;have ERV:=Hz erv;have HRL:=Hz hrl
  have h12:(r:Int)<12:=by omega
  clear erv hrl hrs hr
  go_wp2_with fail
  refine wp_region_ro (.free 0 (.free 1 (.free 2 (.free 4 (.free 6 (.pure 3 (.pure 5 (.free 7 (.run 8 (.swi [] (.fin))))))))))) [8] (fun w'=>w'.cell? ⟨h.p,1,none⟩=some (.slice (some ⟨g,o,none⟩) 12 rc)∧w'.cell? ⟨sb,1,none⟩=some (.int .i64 r)) (by kernel_rfl) (by kernel_rfl) ⟨c1,s1⟩ ?_
  iterate 8 first | (refine wpRO_free rfl rfl _ (fun w'=>by go_simp;exact Gives.mk _ _) (fun K hK=>?_);go_simp;refine hK _ ?_;clear hK K) | (refine wpRO_skipF rfl rfl (fun K hK=>?_);go_simp;refine hK _ ?_;clear hK K) | (refine wpRO_pure rfl rfl _ (fun w' hG=>by obtain ⟨c1,s1⟩:=hG;exact gives_agg2 rfl (by decide +kernel) rfl (by assumption) (by assumption)) (fun K hK=>?_);go_simp;refine hK _ ?_;clear hK K) | (refine wpRO_pure rfl rfl _ (fun w' hG=>by obtain ⟨c1,s1⟩:=hG;go_simp;exact Gives.mk _ _) (fun K hK=>?_);go_simp;refine hK _ ?_;clear hK K) | (refine wpRO_skip rfl rfl (fun K hK=>?_);go_simp;refine hK _ ?_;clear hK K)
  refine wpRO_chg rfl rfl rfl (fun K hK=>?_)
  refine gRun_store_val 96 (.tmp 44) (.tmp 43) rfl rfl g o 12 rc r (entV W.roots) 96 (.int .i64 0) (.int .i64 0) rfl rfl (RS.out.keep (Kz w1).drew (fun _ _ h=>h)) hr12 (by kernel_rfl) rfl rfl ?_
  intro w3 hs3 hk3 hz3
  refine hK _ _ ?_
  clear hK K
  refine wpRO_swi (fun _=>True) trivial (wpRO_fin ?_)
  have hkw:Keeps (·=g) w1 w3:=((Kz w1).drew.mono (fun _ _ h=>h.elim)).trans hk3
  have TO:=Hz (WorldTo.from_same K1.out (H1.out.setRoot (w':=w3) (by rw [ERV.out]) hr12 HN.out (by rw [HRL.out];exact hs3) hkw))
  clear hkw hs3 hk3 hz3 c1 s1 s5 s0
  go_wp2_with fail
  go_ret
  exact ⟨by rw [HE.out];rfl,by rw [HE.out];exact TO.out⟩
 ·have HE:=Hz (do_no (W:=W) HC.out h0)
  have hd:(c != 0)=true:=by simpa using h0
  clear h0
  go_wp2_with fail
  go_ret
  exact ⟨by rw [HE.out];rfl,by rw [HE.out];exact WorldTo.same HH.out K1.out⟩
end
end
section
def InL (n:Nat) (v:Vl):Prop:=v.1=3→0≤v.2∧v.2<n
def addL (l:List Bool) (v:Vl):List Bool:=if inS l v=true then l else l.set v.2.toNat true
theorem inS_no {l:List Bool} {v:Vl} (h:inS l v=false):v.1=3∧atB l v.2=false:=by
 unfold inS at h
 simp only [Bool.or_eq_false_iff,bne_eq_false_iff_eq] at h
 exact h
theorem inS_yes {l:List Bool} {v:Vl} (h:inS l v=true):v.1=3→atB l v.2=true:=fun h3=>by
 unfold inS at h
 simpa [h3] using h
def unB (l:List Bool):Nat:=(l.filter (! ·)).length
theorem unB_set:∀ {l:List Bool} {i:Nat},i<l.length→l.getD i false=false→unB (l.set i true)+1=unB l
 | [],i,h,_=>by simp at h
 | b :: l,0,_,h=>by
  have:b=false:=by simpa using h
  subst this
  simp [unB]
 | b :: l,i+1,h,h2=>by
  have ih:=unB_set (l:=l) (i:=i) (by simpa using h) (by simpa using h2)
  unfold unB at *
  cases b <;> simp at ih ⊢ <;> omega
theorem unB_add {l:List Bool} {v:Vl} (hv:InL l.length v) (h:inS l v=false):unB (addL l v)+1=unB l:=by
 obtain ⟨h3,h4⟩:=inS_no h
 obtain ⟨h0,h1⟩:=hv h3
 unfold addL
 rw [if_neg (by rw [h];decide)]
 exact unB_set (by omega) (by unfold atB at h4;simpa [h0] using h4)
structure GrOk (W:Wd) (q:List (Int × Int)) (is l:List Bool):Prop where
 len:l.length=is.length
 base:∀ i,atB is i=true→atB l i=true
 al:∀ i,atB l i=true→Alive W.nd q (fun k=>atB is k=true) i
theorem GrOk.start (W:Wd) (q:List (Int × Int)) (is:List Bool):GrOk W q is is:=⟨rfl,fun _ h=>h,fun _ h=>Alive.base h⟩
theorem GrOk.add {W:Wd} {q:List (Int × Int)} {is l:List Bool} (h:GrOk W q is l) {v:Vl} (hv:InL l.length v) (ha:v.1=3→Alive W.nd q (fun k=>atB is k=true) v.2):GrOk W q is (addL l v):=by
 cases hi:inS l v
 ·obtain ⟨h3,h4⟩:=inS_no hi
  obtain ⟨h0,h1⟩:=hv h3
  have e:addL l v=l.set v.2.toNat true:=by unfold addL;rw [hi];simp
  rw [e]
  refine ⟨by rw [List.length_set];exact h.len,fun i hb=>(atB_set h0 h1).2 (.inr (h.base i hb)),fun i hb=>?_⟩
  rcases (atB_set h0 h1).1 hb with rfl | hb
  ·exact ha h3
  ·exact h.al i hb
 ·have e:addL l v=l:=by unfold addL;rw [hi];rfl
  rw [e];exact h
def Fl (m:Bool) (lp l:List Bool):Prop:=(m=false∧l=lp)∨(m=true∧unB l<unB lp)
theorem Fl.start (l:List Bool):Fl false l l:=.inl ⟨rfl,rfl⟩
theorem Fl.add {m:Bool} {lp l:List Bool} {v:Vl} (h:Fl m lp l) (hv:InL l.length v):Fl (!inS l v || m) lp (addL l v):=by
 cases hi:inS l v
 ·have hu:=unB_add hv hi
  right
  refine ⟨rfl,?_⟩
  rcases h with ⟨_,rfl⟩ | ⟨_,h⟩ <;> omega
 ·have e:addL l v=l:=by unfold addL;rw [hi];rfl
  rw [e]
  simpa using h
def ClosedAt (W:Wd) (q:List (Int × Int)) (l:List Bool) (i:Int):Prop:=atB l i=true→∀ k,Leads W.nd q (fun k=>atB l k=true) i k→atB l k=true
def Yet (m:Bool) (p:Prop):Prop:=m=false→p
theorem Yet.add {m:Bool} {lp l:List Bool} {v:Vl} {p r:Prop} (hf:Fl m lp l) (h:Yet m p) (hr:p→inS lp v=true→r):Yet (!inS l v || m) r:=fun hm=>by
 simp only [Bool.or_eq_false_iff,Bool.not_eq_false'] at hm
 rcases hf with ⟨_,rfl⟩ | ⟨h1,_⟩
 ·exact hr (h hm.2) hm.1
 ·rw [h1] at hm;exact absurd hm.2 (by decide)
theorem GrOk.live {W:Wd} (h:W.ok) {q:List (Int × Int)} (hq:∀ e ∈ q,W.okE e) {is l:List Bool} (hl:∀ i,atB is i=true→W.live i) (g:GrOk W q is l) {i:Int} (hi:atB l i=true):W.live i:=
 (g.al i hi).least hl (Wd.shut_live h hq)
theorem GrOk.done {W:Wd} {q:List (Int × Int)} {is l:List Bool} (g:GrOk W q is l) (hc:∀ j:Nat,j<l.length→ClosedAt W q l j):l=W.clo q is:=
 cloL_eq g.len g.base g.al (fun i j hi hj=>by
  have:=atB_lt hi
  have hc':=hc i.toNat (by omega)
  rw [show ((i.toNat:Nat):Int)=i by omega] at hc'
  exact hc' hi j hj)
theorem GrOk.lead {W:Wd} {q:List (Int × Int)} {is l:List Bool} (g:GrOk W q is l) {i:Int} (hi:atB l i=true) {v:Vl} (h:v.1=3→Leads W.nd q (fun k=>atB l k=true) i v.2):v.1=3→Alive W.nd q (fun k=>atB is k=true) v.2:=fun h3=>
 Alive.closed W.nd q _ i v.2 (g.al i hi) ((h h3).mono (fun k hk=>g.al k hk) (fun _ h=>h))
theorem closedAt_no {W:Wd} {q:List (Int × Int)} {l:List Bool} {i:Int} (h:atB l i=false):ClosedAt W q l i:=fun h'=>by rw [h] at h';cases h'
theorem closedAt_strong {W:Wd} {q:List (Int × Int)} {l:List Bool} {i:Int} (hk:(W.th i).k=1∨(W.th i).k=2) (h:∀ v ∈ (W.th i).fs,inS l v=true):ClosedAt W q l i:=fun _ k hl=>by
 rcases hl with ⟨_,h2⟩ | ⟨h1,_⟩ | ⟨h1,_⟩ | ⟨h1,_⟩
 ·exact inS_yes (h _ h2) rfl
 all_goals (have h1:(W.th i).k=_:=h1;omega)
theorem closedAt_weak {W:Wd} {q:List (Int × Int)} {l:List Bool} {i:Int} (hk:(W.th i).k=3) {u v:Vl} (hf:(W.th i).fs=[u,v]) (h:inS l v=true):ClosedAt W q l i:=fun _ k hl=>by
 rcases hl with ⟨h1,_⟩ | ⟨_,h2⟩ | ⟨h1,_⟩ | ⟨h1,_⟩
 ·have h1:(W.th i).k=1∨(W.th i).k=2:=h1;omega
 ·have h2:(W.th i).fs[1]? = some (3,k):=h2
  rw [hf] at h2
  simp at h2
  rw [h2] at h;exact inS_yes h rfl
 all_goals (have h1:(W.th i).k=_:=h1;omega)
theorem closedAt_eph {W:Wd} {q:List (Int × Int)} {l:List Bool} {i:Int} (hk:(W.th i).k=4) {u v:Vl} (hf:(W.th i).fs=[u,v]) (h:inS l u=true→inS l v=true):ClosedAt W q l i:=fun _ k hl=>by
 rcases hl with ⟨h1,_⟩ | ⟨h1,_⟩ | ⟨_,h2,h3⟩ | ⟨h1,_⟩
 ·have h1:(W.th i).k=1∨(W.th i).k=2:=h1;omega
 ·have h1:(W.th i).k=_:=h1;omega
 ·have h2:(W.th i).fs[1]? = some (3,k):=h2
  have h3:∀ v,(W.th i).fs[0]? = some v→v.1=3→atB l v.2=true:=h3
  rw [hf] at h2 h3
  simp at h2
  rw [h2] at h
  refine inS_yes (h ?_) rfl
  unfold inS
  by_cases c:u.1=3
  ·simp [h3 u rfl c]
  ·simp [c]
 ·have h1:(W.th i).k=_:=h1;omega
theorem closedAt_guard {W:Wd} {q:List (Int × Int)} {l:List Bool} {i:Int} (hk:(W.th i).k=5) (h:∀ e ∈ q,e.1=i→inS l (3,e.2)=true):ClosedAt W q l i:=fun _ k hl=>by
 rcases hl with ⟨h1,_⟩ | ⟨h1,_⟩ | ⟨h1,_⟩ | ⟨_,h2⟩
 ·have h1:(W.th i).k=1∨(W.th i).k=2:=h1;omega
 ·have h1:(W.th i).k=_:=h1;omega
 ·have h1:(W.th i).k=_:=h1;omega
 ·exact inS_yes (h _ h2 rfl) rfl
theorem lead_strong {W:Wd} {q:List (Int × Int)} {l:List Bool} {i:Int} (hk:(W.th i).k=1∨(W.th i).k=2) {v:Vl} (hv:v ∈ (W.th i).fs):v.1=3→Leads W.nd q (fun k=>atB l k=true) i v.2:=fun h3=>
 .inl ⟨hk,by show (3,v.2) ∈ (W.th i).fs;rw [←h3];exact hv⟩
theorem lead_weak {W:Wd} {q:List (Int × Int)} {l:List Bool} {i:Int} (hk:(W.th i).k=3) {u v:Vl} (hf:(W.th i).fs=[u,v]):v.1=3→Leads W.nd q (fun k=>atB l k=true) i v.2:=fun h3=>
 .inr (.inl ⟨hk,by show (W.th i).fs[1]? = _;rw [hf,←h3];rfl⟩)
theorem lead_eph {W:Wd} {q:List (Int × Int)} {l:List Bool} {i:Int} (hk:(W.th i).k=4) {u v:Vl} (hf:(W.th i).fs=[u,v]) (h:inS l u=true):v.1=3→Leads W.nd q (fun k=>atB l k=true) i v.2:=fun h3=>
 .inr (.inr (.inl ⟨hk,by show (W.th i).fs[1]? = _;rw [hf,←h3];rfl,fun x hx h3'=>by
  have hx:(W.th i).fs[0]? = some x:=hx
  rw [hf] at hx
  simp at hx
  subst hx
  exact inS_yes h h3'⟩))
theorem lead_guard {W:Wd} {q:List (Int × Int)} {l:List Bool} {i:Int} (hk:(W.th i).k=5) {e:Int × Int} (he:e ∈ q) (h1:e.1=i):((3,e.2):Vl).1=3→Leads W.nd q (fun k=>atB l k=true) i ((3,e.2):Vl).2:=fun _=>
 .inr (.inr (.inr ⟨hk,by rw [←h1];exact he⟩))
end
section
open Go.RowKit
theorem Rd.boolAt {w:World} {ao:Option Addr} {l:List Bool} (h:Rd w ao (l.map Value.bool)) (i:Nat) (hi:i<l.length) :
  ∃ g o,ao=some ⟨g,o,none⟩∧g<w.heap.size∧w.cell? ⟨g,o+i,none⟩=some (.bool (l.getD i false)):=by
 obtain ⟨g,o,rfl,hg,hc⟩:=h (by intro e;simp at e;subst e;simp at hi)
 refine ⟨g,o,rfl,hg,?_⟩
 rw [hc i (by simpa using hi)]
 simp [List.getD,hi]
theorem inSet_c (v:Vl) (ao:Option Addr) (cap:Nat) (l:List Bool) (w:World) (h:Rd w ao (l.map Value.bool)) (hl:l.length≤1000000) (hv:InL l.length v) :
  Calls Tryz.prog 142 #[.slice ao l.length cap, .agg #[.int .i64 v.1, .int .i64 v.2]] w fun e w'=>e=.returned (.bool (inS l v))∧Keeps (fun _=>False) w w':=by
 have hr:=h.keep ((Kz w).alloc (.cells #[.int .i64 v.1, .int .i64 v.2] 96)) (fun _ _ _ h=>h)
 have HR:=Hz hr
 clear h hr
 obtain ⟨k,n⟩:=v
 dsimp only at *
 by_cases hk:k=3
 ·subst hk
  obtain ⟨h0,h1⟩:=hv rfl
  dsimp only at h0 h1
  obtain ⟨m,rfl⟩:∃ m:Nat,n=m:=⟨n.toNat,by omega⟩
  obtain ⟨g,o,rfl,hg,hc⟩:=HR.out.boolAt m (by omega)
  have HE:=Hz (show inS l (3,(m:Int))=l.getD m false by simp [inS,atB])
  have hg':g<w.heap.size+1:=by simpa using hg
  clear hv hg
  generalize l.getD m false=q at *
  go_enter Tryz.func142,Tryz.ntmps142
  go_wp2_with fail
  go_ret
  exact ⟨ret_bool HE.out.symm,(Keeps.refl _ _).alloc _⟩
 ·have hkb:(k != 3)=true:=by simpa using hk
  have HE:=Hz (show inS l (k,n)=true by simp [inS,hkb])
  clear hv hk
  go_enter Tryz.func142,Tryz.ntmps142
  go_wp2_with fail
  go_ret
  exact ⟨ret_bool HE.out.symm,(Keeps.refl _ _).alloc _⟩
structure OutAt (w:World) (b:Nat) (vo:Value) (l:List Bool):Prop where
 hb:Blk w b [vo] 122
 hs:Sl w 4 1 vo l.length (l.map Value.bool)
theorem OutAt.keep {w w':World} {b:Nat} {vo:Value} {l:List Bool} {S:Nat→Prop} (h:OutAt w b vo l) (k:Keeps S w w') (h1:¬ S b) (h2:∀ j,ownB vo j→¬ S j):OutAt w' b vo l:=⟨k.blk h.hb h1,h.hs.keep k h2⟩
def AddRet (w:World) (b:Nat) (vo:Value) (l:List Bool) (v:Vl) (e:Ending) (w':World):Prop:=
 e=.returned (.bool (!inS l v))∧OutAt w' b vo (addL l v)∧Keeps (ownB vo) w w'
theorem GAdd_c (v:Vl) (b:Nat) (vo:Value) (l:List Bool) (w:World) (h:OutAt w b vo l) (hl:l.length≤1000000) (hv:InL l.length v) :
  Calls Tryz.prog 158 #[.agg #[.int .i64 v.1, .int .i64 v.2], .pointer (some ⟨b,0,none⟩)] w (AddRet w b vo l v):=by
 have ka:=(Kz w).alloc (.cells #[.int .i64 v.1, .int .i64 v.2] 96)
 have HO:=Hz (h.keep ka (fun h=>h) (fun _ _ h=>h))
 have HB:=Hz (Blk.newAt (w:=w) (b:=w.heap.size) (T:=96) #[.int .i64 v.1, .int .i64 v.2] rfl rfl)
 have HK:=Hz ka
 have hlt:=HO.out.hb.lt
 obtain ⟨ao,cap,rfl,-,-,-⟩:=h.hs.rd
 have b0:=HO.out.hb.cell 0;have x0:=HB.out.cell 0;have x1:=HB.out.cell 1;have xl:=HB.out.lt
 simp only [List.getElem?_cons_zero,List.getElem?_cons_succ] at b0 x0 x1
 have HH:=Hz h
 have hbl:=h.hb.lt
 have hb0:=h.hb.cell 0
 simp only [List.getElem?_cons_zero] at hb0
 clear h ka
 obtain ⟨k,n⟩:=v
 dsimp only at *
 go_enter Tryz.func158,Tryz.ntmps158
 go_wp2_with fail
 obtain ⟨_,_,e',rd,-,-⟩:=HO.out.hs.rd
 cases e'
 refine (inSet_c (k,n) ao cap l _ rd hl hv).mono ?_
 rintro e w1 ⟨rfl,hk⟩
 have HO1:=Hz (HO.out.keep hk (fun h=>h) (fun _ _ h=>h))
 have HB1:=Hz (hk.blk HB.out (fun h=>h))
 have HK1:=Hz (HK.out.trans hk)
 clear hk rd b0 x0 x1 xl hlt hb0 hbl
 cases hi:inS l (k,n)
 ·obtain ⟨h3,-⟩:=inS_no hi
  obtain ⟨h0,h1⟩:=hv h3
  dsimp only at h3 h0 h1
  subst h3
  obtain ⟨m,rfl⟩:∃ m:Nat,n=m:=⟨n.toNat,by omega⟩
  have HE:=Hz (show addL l (3,(m:Int))=l.set m true by unfold addL;rw [hi];simp)
  have HI:=Hz hi
  clear hi hv
  obtain ⟨_,_,e',rd,-,-⟩:=HO1.out.hs.rd
  cases e'
  obtain ⟨g,o,rfl,hg,hc⟩:=rd.boolAt m (by omega)
  obtain ⟨_,cur,hgb⟩:=HO1.out.hs.own (k:=g) rfl
  have fz:=hgb.free (o+m)
  have HG:=Hz hgb
  have b0:=HO1.out.hb.cell 0;have x0:=HB1.out.cell 0;have x1:=HB1.out.cell 1;have xl:=HB1.out.lt;have bl:=HO1.out.hb.lt
  simp only [List.getElem?_cons_zero,List.getElem?_cons_succ] at b0 x0 x1
  clear rd hgb
  go_wp2_with fail
  go_ret
  refine ⟨by rw [HI.out];rfl,⟨?_,?_⟩,?_⟩
  ·exact HO1.out.hb.setOther (a:=⟨g,o+m,none⟩) (HO1.out.hb.ne HG.out (by decide)) _
  ·rw [HE.out,List.length_set,List.map_set]
   exact HO1.out.hs.set (by omega)
  ·exact Keeps.setCell (S:=ownB (.slice (some ⟨g,o,none⟩) l.length cap)) (HK1.out.mono (fun _ _ h=>h.elim)) (p:=⟨g,o+m,none⟩) (.inl rfl) _
 ·have HE:=Hz (show addL l (k,n)=l by unfold addL;rw [hi];rfl)
  have HI:=Hz hi
  clear hi hv
  go_wp2_with fail
  go_ret
  exact ⟨by rw [HI.out];rfl,by rw [HE.out];exact HO1.out,HK1.out.mono (fun _ _ h=>h.elim)⟩
end
section
open Go.RowKit
structure GrAt (w:World) (p:Nat) (tv wv:Value) (F:Nat→Prop) (W:Wd) (q:List (Int × Int)):Prop where
 hp:∃ a b c d,Blk w p [tv,a,b,wv,c,d] 147
 ht:ThsAt w tv F W.T
 hw:Sl w 152 2 wv q.length (entV q)
theorem GrAt.same {w w':World} {p:Nat} {tv wv:Value} {F:Nat→Prop} {W:Wd} {q:List (Int × Int)} (h:GrAt w p tv wv F W q) (k:Keeps (fun _=>False) w w'):GrAt w' p tv wv F W q:=by
 obtain ⟨⟨a,b,c,d,h1⟩,h2,h3⟩:=h
 exact ⟨⟨a,b,c,d,k.blk h1 (fun h=>h)⟩,h2.keep k (fun _ _ _ h=>h) (fun _ _ h=>h),h3.keep k (fun _ _ h=>h)⟩
structure GM (w0 wr:World) (b:Nat) (vo:Value) (l:List Bool):Prop where
 K:Keeps (fun _=>False) w0 wr
 O:OutAt wr b vo l
 o:∀ k,ownB vo k→w0.heap.size≤k
 ob:w0.heap.size≤b
theorem GM.same {w0 wr w2:World} {b:Nat} {vo:Value} {l:List Bool} (M:GM w0 wr b vo l) (k:Keeps (fun _=>False) wr w2):GM w0 w2 b vo l:=⟨M.K.trans k,M.O.keep k (fun h=>h) (fun _ _ h=>h),M.o,M.ob⟩
theorem GM.add {w0 wr w2:World} {b:Nat} {vo:Value} {l l2:List Bool} (M:GM w0 wr b vo l) (O:OutAt w2 b vo l2) (k:Keeps (ownB vo) wr w2):GM w0 w2 b vo l2:=⟨M.K.then k (fun j hj=>.inr (M.o j hj)),O,M.o,M.ob⟩
theorem Keeps.cellF {w w':World} (k:Keeps (fun _=>False) w w') {b i:Nat} {v:Value} (hb:b<w.heap.size) (h:w.cell? ⟨b,i,none⟩=some v):w'.cell? ⟨b,i,none⟩=some v:=by
 rw [←h];exact World.cell?_of_block (w:=w) (a:=⟨b,i,none⟩) (k.block b hb (fun h=>h))
def GrownRet (w:World) (l:List Bool) (e:Ending) (w':World):Prop:=
 ∃ ao cap,e=.returned (.slice ao l.length cap)∧Sl w' 4 1 (.slice ao l.length cap) l.length (l.map Value.bool)∧Keeps (fun _=>False) w w'∧∀ k,ownB (.slice ao l.length cap) k→w.heap.size≤k
section
variable {w:World} {p:Nat} {tv wv:Value} {F:Nat→Prop} {W:Wd} {q:List (Int × Int)} {is:List Bool}
def GPass (w wr:World) (b:Nat) (vo:Value) (W:Wd) (q:List (Int × Int)) (is:List Bool) (m:Bool) (l:List Bool):Prop:=
 GM w wr b vo l∧GrOk W q is l∧(m=false→∀ j:Nat,j<l.length→ClosedAt W q l j)
def GIn (w wr:World) (b:Nat) (vo:Value) (W:Wd) (q:List (Int × Int)) (is lp:List Bool) (m:Bool) (l:List Bool) (i:Nat):Prop:=
 GM w wr b vo l∧GrOk W q is l∧Fl m lp l∧Yet m (∀ j:Nat,j<i→ClosedAt W q lp j)
theorem GIn.next {wr:World} {b:Nat} {vo:Value} {lp l:List Bool} {m:Bool} {i:Nat} (h:GM w wr b vo l∧GrOk W q is l∧Fl m lp l∧Yet m ((∀ j:Nat,j<i→ClosedAt W q lp j)∧ClosedAt W q lp i)):GIn w wr b vo W q is lp m l (i+1):=
 ⟨h.1,h.2.1,h.2.2.1,fun hm j hj=>by
  have:=h.2.2.2 hm
  rcases Nat.lt_succ_iff_lt_or_eq.1 hj with h1 | rfl
  ·exact this.1 j h1
  ·exact this.2⟩
theorem Grown_c (io:Option Addr) (icap:Nat) (H:GrAt w p tv wv F W q) (hok:W.ok) (hq:∀ e ∈ q,W.okE e) (hi:Rd w io (is.map Value.bool)) (hlen:is.length=W.T.length) (hT:W.T.length≤100000) (hl:∀ i,atB is i=true→W.live i) (hql:q.length≤1000000) :
  Calls Tryz.prog 140 #[.pointer (some ⟨p,0,none⟩), .slice io is.length icap] w (GrownRet w (W.clo q is)):=by
 obtain ⟨ib,hib,hz0,hz1,hz2⟩:=info_parts info_bool
 have Hi:=Hz hib;have Hz0:=Hz hz0;have Hz1:=Hz hz1;have Hz2:=Hz hz2;clear hib hz0 hz1 hz2
 have HG:=Hz H;have HOK:=Hz hok;have HQ:=Hz hq;have HI:=Hz hi;have HLEN:=Hz hlen;have HLV:=Hz hl
 have hil:is.length≤100000:=by omega
 obtain ⟨no,nc,rfl,-⟩:=HG.out.ht.nth
 obtain ⟨qo,qc,rfl,-,-,-⟩:=HG.out.hw.rd
 clear H hok hq hi hl hlen
 go_enter Tryz.func140,Tryz.ntmps140
 go_wp2_with (at_builtin;refine wpList_appR rfl (.tmp 12) (.tmp 13) 122 rfl 4 ib (.bool false) 1 1 Tryz.underlying122 Hi.out Hz0.out Hz1.out Hz2.out rfl (by decide) _ 0 [] rfl ?ha io is.length icap (is.map Value.bool) rfl ?hb ?hc ?hd ?he ?hf ?hg)
 case ha=>exact ⟨by simp, .inr ⟨w.heap.size,0,0,[],rfl,Blk.newAt _ rfl rfl,Nat.le_refl _,Nat.zero_le _,by simp,by simp⟩⟩
 case hb=>simp
 case hc=>exact HI.out.keep ((Kz w).alloc _) (fun _ _ _ h=>h)
 case hd=>intro u hu;simp at hu;rcases hu with ⟨_,rfl⟩ | ⟨_,rfl⟩ <;> rfl
 case he=>unfold maxLen;omega
 case hf=>omega
 case hg=>
  intro v2 w2 hs2 hk2 ho2
  obtain ⟨ao,cap,hv2,-,-,-⟩:=hs2.rd
  have hK2:Keeps (fun _=>False) w w2:=((Kz w).alloc (.cells #[] 4)).then hk2 (fun k hk=>.inr (by simp [ownB,Value.ownBlock] at hk;omega))
  have ho3:∀ k,ownB v2 k→w.heap.size≤k:=fun k hk=>by
   rcases ho2 k hk with h | h
   ·simp [ownB,Value.ownBlock] at h;omega
   ·omega
  try rw [Nat.zero_add] at hs2 hv2
  try rw [List.nil_append] at hs2
  subst hv2
  go_wp2_with fail
  generalize hwx:w2.alloc (.cells #[.slice ao is.length cap] 122)=wx
  have MX:=Hz (show GM w wx w2.heap.size (.slice ao is.length cap) is by
   rw [←hwx]
   have ka:=(Kz w2).alloc (.cells #[.slice ao is.length cap] 122)
   exact ⟨hK2.trans ka,⟨Blk.newAt _ rfl rfl,hs2.keep ka (fun _ _ h=>h)⟩,ho3,hK2.size⟩)
  clear hs2 hk2 ho2 hK2 ho3 hwx HI
  generalize w2.heap.size=b at *
  have hn:=HLEN.out
  go_loopg [7] (unB is+1) (fun n m wr=>∃ (x:Bool) (l:List Bool),m=.bool x∧GPass w wr b (.slice ao is.length cap) W q is x l∧unB l+(if x then 1 else 0)≤n)
  case atStart=>exact ⟨true,is,rfl,⟨MX.out,GrOk.start W q is,fun h=>by cases h⟩,Nat.le_refl _⟩
  case round=>
   clear MX
   obtain ⟨x,lp,rfl,⟨hM,hG,hC⟩,hun⟩:=hrel
   have M:=Hz hM;have GK:=Hz hG;have HC:=Hz hC;have HU:=Hz hun
   clear hM hG hC hun hn
   cases x
   ·have HE:=Hz (GK.out.done (HC.out rfl))
    have b0:=M.out.O.hb.cell 0;have bl:=M.out.O.hb.lt
    simp only [List.getElem?_cons_zero] at b0
    go_wp2_with fail
    go_ret
    have hl:=cloL_length W.nd q is
    have hs:=M.out.O.hs
    rw [HE.out] at hs
    have hl2:(W.clo q is).length=is.length:=hl
    refine ⟨ao,cap,by rw [hl2];rfl,?_,M.out.K,fun k hk=>M.out.o k (by rw [hl2] at hk;exact hk)⟩
    rw [hl2]
    rw [hl2] at hs
    exact hs
   ·obtain ⟨w1,rfl⟩:∃ x:World,x=wr:=⟨wr,rfl⟩
    go_wp2_with fail
    go_loopw [7,8] (fun m u wr=>∃ (i:Nat) (x:Bool) (l:List Bool),i≤W.T.length∧u=.int .i64 i∧m=.bool x∧GIn w wr b (.slice ao is.length cap) W q is lp x l i) (fun _ u _=>W.T.length-(intOf u).toNat)
    case atStart=>exact ⟨0,false,lp,Nat.zero_le _,rfl,rfl,M.out,GK.out,Fl.start _,fun _ j hj=>by omega⟩
    case round=>
     obtain ⟨i,x,l,hi,rfl,rfl,hM,hG,hF,hY⟩:=hrel
     have M2:=Hz hM;have G2:=Hz hG;have F2:=Hz hF;have Y2:=Hz hY
     obtain ⟨⟨c1,c2,c3,c4,hp⟩,ht,hw⟩:=HG.out.same hM.K
     have HP:=Hz hp;have HW:=Hz hw
     have p0:=hp.cell 0;have pl:=hp.lt
     simp only [List.getElem?_cons_zero] at p0
     have hll:l.length=W.T.length:=hG.len.trans HLEN.out
     have HLL:=Hz hll
     clear hM hG hF hY hp hw
     by_cases hlt:i<W.T.length
     ·obtain ⟨_,_,e',N⟩:=HG.out.ht.nth
      cases e'
      obtain ⟨g,o,fo,fc,rfl,-,hgl,t0,t1,t2,t3,hrd,-,hml⟩:=N i hlt
      replace t0:=M2.out.K.cellF hgl t0;replace t1:=M2.out.K.cellF hgl t1;replace t2:=M2.out.K.cellF hgl t2;replace t3:=M2.out.K.cellF hgl t3
      replace hgl:g<wr.heap.size:=Nat.lt_of_lt_of_le hgl M2.out.K.size
      have HTH:=Hz (show W.th (i:Int)=W.T.getD i Th.none by unfold Wd.th;rw [Int.toNat_natCast])
      generalize W.T.getD i Th.none=t at *
      obtain ⟨tk,tf,tol,tde⟩:=t
      dsimp only at t0 t1 t2 t3 hrd hml HTH
      have HRD:=Hz (show Rd w fo (entV tf) from hrd)
      obtain ⟨_,_,e',rdo,-,-⟩:=M2.out.O.hs.rd
      obtain ⟨rfl,-,rfl⟩:=Value.slice.inj e'
      clear e'
      obtain ⟨go,oo,rfl,hgo,d0⟩:=rdo.boolAt i (by omega)
      have b0:=M2.out.O.hb.cell 0;have bl:=M2.out.O.hb.lt
      simp only [List.getElem?_cons_zero] at b0
      have b1:=hgo
      have HAT:=Hz (show atB l (i:Int)=l.getD i false from atB_nat l i)
      generalize l.getD i false=z at *
      clear rdo N ht hrd hll
      have hi2:i<is.length:=by rw [HLEN.out];exact hlt
      have hb0:wr.heap.size<(wr.alloc (.cells #[.int .i64 tk, .slice fo tf.length fc, .bool tol, .bool tde] 154)).heap.size:=by simp
      generalize hwt:wr.alloc (.cells #[.int .i64 tk, .slice fo tf.length fc, .bool tol, .bool tde] 154)=wt at hb0
      have KT:=Hz (show Keeps (fun _=>False) wr wt by rw [←hwt];exact (Keeps.refl _ _).alloc _)
      have BT:=Hz (show Blk wt wr.heap.size [.int .i64 tk, .slice fo tf.length fc, .bool tol, .bool tde] 154 by rw [←hwt];exact Blk.newAt _ rfl rfl)
      have HWT:=Hz hwt
      clear hwt hb0
      have MT:=Hz (M2.out.same KT.out)
      cases z
      ·go_wp2_with (refine wpList_agg rfl 154 (.tmp 31) rfl [.int .i64 tk, .slice fo tf.length fc, .bool tol, .bool tde] (by kernel_rfl) g (o+i*4) rfl (rangeAt_cons t0 (rangeAt_cons t1 (rangeAt_cons t2 (rangeAt_cons t3 rangeAt_nil)))) ?_)
       go_roundw
       case rel=>
        first
        | exact ⟨i+1,x,l,hlt,by go_num,rfl,GIn.next ⟨by rw [HWT.out];exact MT.out,G2.out,F2.out,fun hm=>⟨Y2.out hm,by
          rcases F2.out with ⟨_,e⟩ | ⟨e,_⟩
          ·rw [←e];exact closedAt_no HAT.out
          ·rw [e] at hm;cases hm⟩⟩⟩
        | ((repeat apply Exists.intro);exact ⟨⟨i+1,x,l,hlt,by go_num,rfl,GIn.next ⟨by rw [HWT.out];exact MT.out,G2.out,F2.out,fun hm=>⟨Y2.out hm,by
          rcases F2.out with ⟨_,e⟩ | ⟨e,_⟩
          ·rw [←e];exact closedAt_no HAT.out
          ·rw [e] at hm;cases hm⟩⟩⟩,rfl⟩)
       case measure=>simp [intOf];omega
      ·have hlv:=G2.out.live HOK.out HQ.out HLV.out (i:=(i:Int)) HAT.out
       have HLI:=Hz hlv
       have hfit:=fitsW_spec (HOK.out.tk _ hlv)
       rw [HTH.out] at hfit
       dsimp only at hfit
       have HFT:=Hz hfit
       have hfl:tf.length≤12:=by have:=hfit.2.2.2;omega
       have hk15:=hfit.1
       have hk16:=hfit.2.1
       clear hlv hfit
       rcases (show tk=1∨tk=2∨tk=3∨tk=4∨tk=5 by omega) with rfl | rfl | rfl | rfl | rfl
       ·as_aux_lemma=>
        go_wp2_with (refine wpList_agg rfl 154 (.tmp 31) rfl [.int .i64 1, .slice fo tf.length fc, .bool tol, .bool tde] (by kernel_rfl) g (o+i*4) rfl (rangeAt_cons t0 (rangeAt_cons t1 (rangeAt_cons t2 (rangeAt_cons t3 rangeAt_nil)))) ?_)
        rw [HWT.out]
        clear t0 t1 t2 t3 b0 bl p0 pl hgl hgo b1 d0
        have hkk:=Hz (show (W.th (i:Int)).k=1∨(W.th (i:Int)).k=2 by rw [HTH.out];first | exact .inl rfl | exact .inr rfl)
        go_loopw [7,10] (fun m u wr2=>∃ (f:Nat) (x:Bool) (l:List Bool),f≤tf.length∧u=.int .i64 f∧m=.bool x∧GM w wr2 b (.slice (some ⟨go,oo,none⟩) is.length cap) l∧GrOk W q is l∧Fl x lp l∧Yet x ((∀ j:Nat,j<i→ClosedAt W q lp j)∧∀ v ∈ tf.take f,inS lp v=true)∧atB l (i:Int)=true∧Blk wr2 wr.heap.size [.int .i64 1, .slice fo tf.length fc, .bool tol, .bool tde] 154) (fun _ u _=>tf.length-(intOf u).toNat)
        case atStart=>exact ⟨0,x,l,Nat.zero_le _,rfl,rfl,MT.out,G2.out,F2.out,fun hm=>⟨Y2.out hm,(fun v hv=>by simp at hv)⟩,HAT.out,BT.out⟩
        case round=>
         obtain ⟨f,x,l,hf,rfl,rfl,hM,hG,hF,hY,hA,hB⟩:=hrel
         have M3:=Hz hM;have G3:=Hz hG;have F3:=Hz hF;have Y3:=Hz hY;have A3:=Hz hA;have B3:=Hz hB
         have x1:=hB.cell 1;have xl:=hB.lt
         simp only [List.getElem?_cons_zero,List.getElem?_cons_succ] at x1
         have hll3:l.length=W.T.length:=hG.len.trans HLEN.out
         clear hM hG hF hY hA hB
         by_cases hlt3:f<tf.length
         ·have k3:Keeps (fun _=>False) w wr:=M3.out.K
          have rd3:=HRD.out.keep k3 (fun _ _ _ h=>h)
          clear k3
          obtain ⟨gf,of,rfl,hgf,v0,v1⟩:=rd3.val f hlt3
          have hmem:tf.getD f (0,0) ∈ tf:=by rw [List.getD_eq_getElem?_getD,List.getElem?_eq_getElem hlt3];exact List.getElem_mem hlt3
          have htk:=Hz (show tf.take (f+1)=tf.take f ++ [tf.getD f (0,0)] by rw [←List.take_append_getElem hlt3,List.getD_eq_getElem?_getD,List.getElem?_eq_getElem hlt3];rfl)
          have HMM:=Hz hmem
          generalize tf.getD f (0,0)=v at *
          have hin:InL l.length v:=fun h3=>by
           have:=HOK.out.tv _ HLI.out v (by rw [HTH.out];exact hmem)
           have:=Wd.okV_ref this h3
           exact ⟨this.1,by rw [hll3];exact this.2.1⟩
          have HIN:=Hz hin
          have LD:=Hz (G3.out.lead A3.out (v:=v) (lead_strong hkk.out (by rw [HTH.out];exact hmem)))
          clear hmem hin rd3 hll3
          go_wp2_with (refine wpList_agg2 rfl 96 (.tmp 54) rfl (by kernel_rfl) gf (of+f*2) rfl _ _ v0 v1 ?_)
          refine (GAdd_c v b _ l _ M3.out.O (by have:=HIN.out;have:=G3.out.len;omega) HIN.out).mono ?_
          rintro e w3 ⟨rfl,hO,hK⟩
          have B4:=Hz (hK.blk B3.out (fun hb=>by
           obtain ⟨_,cur,hc⟩:=M3.out.O.hs.own hb
           exact B3.out.ne hc (by decide) rfl))
          have A4:=Hz ((G3.out.add HIN.out LD.out))
          have A5:=Hz (show atB (addL l v) (i:Int)=true by
           have:=A3.out
           unfold addL
           split
           ·exact this
           ·rename_i hn
            obtain ⟨h3,-⟩:=inS_no (by simpa using hn)
            exact (atB_set (HIN.out h3).1 (HIN.out h3).2).2 (.inr this))
          have NX:=Hz (And.intro (M3.out.add hO hK) (And.intro (F3.out.add (v:=v) HIN.out) (Yet.add (v:=v) (r:=(∀ j:Nat,j<i→ClosedAt W q lp j)∧∀ v ∈ tf.take (f+1),inS lp v=true) F3.out Y3.out (fun h1 h2=>⟨h1.1,fun u hu=>by
           rw [htk.out] at hu
           rcases List.mem_append.1 hu with hu | hu
           ·exact h1.2 u hu
           ·rw [List.mem_singleton] at hu;subst hu;exact h2⟩))))
          clear hO hK x1 xl v0 v1 hgf
          generalize (!inS l v)=a at *
          cases a
          ·have nx:=NX.out
           simp only [Bool.false_or] at nx
           have NY:=Hz nx
           clear nx NX
           go_wp2_with fail
           go_roundw
           case rel=>
            first
            | exact ⟨f+1,x,_,hlt3,by go_num,rfl,NY.out.1,A4.out,NY.out.2.1,NY.out.2.2,A5.out,B4.out⟩
            | ((repeat apply Exists.intro);exact ⟨⟨f+1,x,_,hlt3,by go_num,rfl,NY.out.1,A4.out,NY.out.2.1,NY.out.2.2,A5.out,B4.out⟩,rfl⟩)
           case measure=>simp [intOf];omega
          ·have nx:=NX.out
           simp only [Bool.true_or] at nx
           have NY:=Hz nx
           clear nx NX
           go_wp2_with fail
           go_roundw
           case rel=>
            first
            | exact ⟨f+1,true,_,hlt3,by go_num,rfl,NY.out.1,A4.out,NY.out.2.1,NY.out.2.2,A5.out,B4.out⟩
            | ((repeat apply Exists.intro);exact ⟨⟨f+1,true,_,hlt3,by go_num,rfl,NY.out.1,A4.out,NY.out.2.1,NY.out.2.2,A5.out,B4.out⟩,rfl⟩)
           case measure=>simp [intOf];omega
         ·obtain rfl:f=tf.length:=by omega
          clear hll3
          go_wp2_with fail
          go_roundw
          case rel=>
           first
           | exact ⟨i+1,x,l,hlt,by go_num,rfl,GIn.next ⟨M3.out,G3.out,F3.out,fun hm=>⟨(Y3.out hm).1,closedAt_strong hkk.out (by rw [HTH.out];intro v hv;exact (Y3.out hm).2 v (by rw [List.take_length];exact hv))⟩⟩⟩
           | ((repeat apply Exists.intro);exact ⟨⟨i+1,x,l,hlt,by go_num,rfl,GIn.next ⟨M3.out,G3.out,F3.out,fun hm=>⟨(Y3.out hm).1,closedAt_strong hkk.out (by rw [HTH.out];intro v hv;exact (Y3.out hm).2 v (by rw [List.take_length];exact hv))⟩⟩⟩,rfl⟩)
          case measure=>simp [intOf];omega
       ·as_aux_lemma=>
        go_wp2_with (refine wpList_agg rfl 154 (.tmp 31) rfl [.int .i64 2, .slice fo tf.length fc, .bool tol, .bool tde] (by kernel_rfl) g (o+i*4) rfl (rangeAt_cons t0 (rangeAt_cons t1 (rangeAt_cons t2 (rangeAt_cons t3 rangeAt_nil)))) ?_)
        rw [HWT.out]
        clear t0 t1 t2 t3 b0 bl p0 pl hgl hgo b1 d0
        have hkk:=Hz (show (W.th (i:Int)).k=1∨(W.th (i:Int)).k=2 by rw [HTH.out];first | exact .inl rfl | exact .inr rfl)
        go_loopw [7,10] (fun m u wr2=>∃ (f:Nat) (x:Bool) (l:List Bool),f≤tf.length∧u=.int .i64 f∧m=.bool x∧GM w wr2 b (.slice (some ⟨go,oo,none⟩) is.length cap) l∧GrOk W q is l∧Fl x lp l∧Yet x ((∀ j:Nat,j<i→ClosedAt W q lp j)∧∀ v ∈ tf.take f,inS lp v=true)∧atB l (i:Int)=true∧Blk wr2 wr.heap.size [.int .i64 2, .slice fo tf.length fc, .bool tol, .bool tde] 154) (fun _ u _=>tf.length-(intOf u).toNat)
        case atStart=>exact ⟨0,x,l,Nat.zero_le _,rfl,rfl,MT.out,G2.out,F2.out,fun hm=>⟨Y2.out hm,(fun v hv=>by simp at hv)⟩,HAT.out,BT.out⟩
        case round=>
         obtain ⟨f,x,l,hf,rfl,rfl,hM,hG,hF,hY,hA,hB⟩:=hrel
         have M3:=Hz hM;have G3:=Hz hG;have F3:=Hz hF;have Y3:=Hz hY;have A3:=Hz hA;have B3:=Hz hB
         have x1:=hB.cell 1;have xl:=hB.lt
         simp only [List.getElem?_cons_zero,List.getElem?_cons_succ] at x1
         have hll3:l.length=W.T.length:=hG.len.trans HLEN.out
         clear hM hG hF hY hA hB
         by_cases hlt3:f<tf.length
         ·have k3:Keeps (fun _=>False) w wr:=M3.out.K
          have rd3:=HRD.out.keep k3 (fun _ _ _ h=>h)
          clear k3
          obtain ⟨gf,of,rfl,hgf,v0,v1⟩:=rd3.val f hlt3
          have hmem:tf.getD f (0,0) ∈ tf:=by rw [List.getD_eq_getElem?_getD,List.getElem?_eq_getElem hlt3];exact List.getElem_mem hlt3
          have htk:=Hz (show tf.take (f+1)=tf.take f ++ [tf.getD f (0,0)] by rw [←List.take_append_getElem hlt3,List.getD_eq_getElem?_getD,List.getElem?_eq_getElem hlt3];rfl)
          have HMM:=Hz hmem
          generalize tf.getD f (0,0)=v at *
          have hin:InL l.length v:=fun h3=>by
           have:=HOK.out.tv _ HLI.out v (by rw [HTH.out];exact hmem)
           have:=Wd.okV_ref this h3
           exact ⟨this.1,by rw [hll3];exact this.2.1⟩
          have HIN:=Hz hin
          have LD:=Hz (G3.out.lead A3.out (v:=v) (lead_strong hkk.out (by rw [HTH.out];exact hmem)))
          clear hmem hin rd3 hll3
          go_wp2_with (refine wpList_agg2 rfl 96 (.tmp 54) rfl (by kernel_rfl) gf (of+f*2) rfl _ _ v0 v1 ?_)
          refine (GAdd_c v b _ l _ M3.out.O (by have:=HIN.out;have:=G3.out.len;omega) HIN.out).mono ?_
          rintro e w3 ⟨rfl,hO,hK⟩
          have B4:=Hz (hK.blk B3.out (fun hb=>by
           obtain ⟨_,cur,hc⟩:=M3.out.O.hs.own hb
           exact B3.out.ne hc (by decide) rfl))
          have A4:=Hz ((G3.out.add HIN.out LD.out))
          have A5:=Hz (show atB (addL l v) (i:Int)=true by
           have:=A3.out
           unfold addL
           split
           ·exact this
           ·rename_i hn
            obtain ⟨h3,-⟩:=inS_no (by simpa using hn)
            exact (atB_set (HIN.out h3).1 (HIN.out h3).2).2 (.inr this))
          have NX:=Hz (And.intro (M3.out.add hO hK) (And.intro (F3.out.add (v:=v) HIN.out) (Yet.add (v:=v) (r:=(∀ j:Nat,j<i→ClosedAt W q lp j)∧∀ v ∈ tf.take (f+1),inS lp v=true) F3.out Y3.out (fun h1 h2=>⟨h1.1,fun u hu=>by
           rw [htk.out] at hu
           rcases List.mem_append.1 hu with hu | hu
           ·exact h1.2 u hu
           ·rw [List.mem_singleton] at hu;subst hu;exact h2⟩))))
          clear hO hK x1 xl v0 v1 hgf
          generalize (!inS l v)=a at *
          cases a
          ·have nx:=NX.out
           simp only [Bool.false_or] at nx
           have NY:=Hz nx
           clear nx NX
           go_wp2_with fail
           go_roundw
           case rel=>
            first
            | exact ⟨f+1,x,_,hlt3,by go_num,rfl,NY.out.1,A4.out,NY.out.2.1,NY.out.2.2,A5.out,B4.out⟩
            | ((repeat apply Exists.intro);exact ⟨⟨f+1,x,_,hlt3,by go_num,rfl,NY.out.1,A4.out,NY.out.2.1,NY.out.2.2,A5.out,B4.out⟩,rfl⟩)
           case measure=>simp [intOf];omega
          ·have nx:=NX.out
           simp only [Bool.true_or] at nx
           have NY:=Hz nx
           clear nx NX
           go_wp2_with fail
           go_roundw
           case rel=>
            first
            | exact ⟨f+1,true,_,hlt3,by go_num,rfl,NY.out.1,A4.out,NY.out.2.1,NY.out.2.2,A5.out,B4.out⟩
            | ((repeat apply Exists.intro);exact ⟨⟨f+1,true,_,hlt3,by go_num,rfl,NY.out.1,A4.out,NY.out.2.1,NY.out.2.2,A5.out,B4.out⟩,rfl⟩)
           case measure=>simp [intOf];omega
         ·obtain rfl:f=tf.length:=by omega
          clear hll3
          go_wp2_with fail
          go_roundw
          case rel=>
           first
           | exact ⟨i+1,x,l,hlt,by go_num,rfl,GIn.next ⟨M3.out,G3.out,F3.out,fun hm=>⟨(Y3.out hm).1,closedAt_strong hkk.out (by rw [HTH.out];intro v hv;exact (Y3.out hm).2 v (by rw [List.take_length];exact hv))⟩⟩⟩
           | ((repeat apply Exists.intro);exact ⟨⟨i+1,x,l,hlt,by go_num,rfl,GIn.next ⟨M3.out,G3.out,F3.out,fun hm=>⟨(Y3.out hm).1,closedAt_strong hkk.out (by rw [HTH.out];intro v hv;exact (Y3.out hm).2 v (by rw [List.take_length];exact hv))⟩⟩⟩,rfl⟩)
          case measure=>simp [intOf];omega
       ·as_aux_lemma=>
        obtain ⟨u,v,rfl⟩:∃ u v,tf=[u,v]:=by
         have h2:tf.length=2:=by
          have:=HOK.out.tk _ HLI.out
          rw [HTH.out] at this
          simp [fitsW] at this
          omega
         match tf,h2 with
         | [u,v],_=>exact ⟨u,v,rfl⟩
        have kT:Keeps (fun _=>False) w wt:=MT.out.K
        have rdT:=HRD.out.keep kT (fun _ _ _ h=>h)
        obtain ⟨gf,of,rfl,hgf,u0,u1⟩:=rdT.val 0 (by simp)
        obtain ⟨_,_,e',-,v0,v1⟩:=rdT.val 1 (by simp)
        cases e'
        have lenE:([u,v]:List Vl).length=2:=rfl
        simp only [List.getD_cons_zero,List.getD_cons_succ,Nat.zero_mul,Nat.add_zero,Nat.one_mul] at u0 u1 v0 v1
        have hin:∀ y:Vl,y ∈ [u,v]→InL l.length y:=fun y hy h3=>by
         have:=HOK.out.tv _ HLI.out y (by rw [HTH.out];exact hy)
         have:=Wd.okV_ref this h3
         rw [HLL.out]
         exact ⟨this.1,this.2.1⟩
        have HIN:=Hz hin
        have hll4:l.length≤1000000:=by have:=HLL.out;omega
        clear rdT kT hin
        have hk3:=Hz (show (W.th (i:Int)).k=3 by rw [HTH.out])
        have HW2:=Hz (show wr.alloc (.cells #[.int .i64 3, .slice (some ⟨gf,of,none⟩) 2 fc, .bool tol, .bool tde] 154)=wt from HWT.out)
        have hf3:=Hz (show (W.th (i:Int)).fs=[u,v] by rw [HTH.out])
        have LD:=Hz (G2.out.lead HAT.out (v:=v) (lead_weak hk3.out hf3.out))
        rw [←HW2.out] at v0 v1
        go_wp2_with (first | (refine wpList_agg rfl 154 (.tmp 31) rfl [.int .i64 3, .slice fo ([u,v]:List Vl).length fc, .bool tol, .bool tde] (by kernel_rfl) g (o+i*4) rfl (rangeAt_cons t0 (rangeAt_cons t1 (rangeAt_cons t2 (rangeAt_cons t3 rangeAt_nil)))) ?_) | (refine wpList_agg2 rfl 96 (.tmp 65) rfl (by kernel_rfl) gf _ rfl _ _ v0 v1 ?_))
        rw [HW2.out]
        clear t0 t1 t2 t3 b0 bl p0 pl hgl hgo b1 d0 u0 u1 v0 v1
        refine (GAdd_c v b _ l _ MT.out.O hll4 (HIN.out v (by simp))).mono ?_
        rintro e w3 ⟨rfl,hO,hK⟩
        have A4:=Hz (G2.out.add (HIN.out v (by simp)) LD.out)
        have NX:=Hz (And.intro (MT.out.add hO hK) (And.intro (F2.out.add (v:=v) (HIN.out v (by simp))) (Yet.add (v:=v) (r:=(∀ j:Nat,j<i→ClosedAt W q lp j)∧ClosedAt W q lp i) F2.out Y2.out (fun h1 h2=>⟨h1,closedAt_weak hk3.out hf3.out h2⟩))))
        clear hO hK
        generalize (!inS l v)=a at *
        cases a
        ·have nx:=NX.out
         simp only [Bool.false_or] at nx
         have NY:=Hz nx
         clear nx NX
         go_wp2_with fail
         go_roundw
         case rel=>
          first
          | exact ⟨i+1,x,_,hlt,by go_num,rfl,GIn.next ⟨NY.out.1,A4.out,NY.out.2.1,NY.out.2.2⟩⟩
          | ((repeat apply Exists.intro);exact ⟨⟨i+1,x,_,hlt,by go_num,rfl,GIn.next ⟨NY.out.1,A4.out,NY.out.2.1,NY.out.2.2⟩⟩,rfl⟩)
         case measure=>simp [intOf];omega
        ·have nx:=NX.out
         simp only [Bool.true_or] at nx
         have NY:=Hz nx
         clear nx NX
         go_wp2_with fail
         go_roundw
         case rel=>
          first
          | exact ⟨i+1,true,_,hlt,by go_num,rfl,GIn.next ⟨NY.out.1,A4.out,NY.out.2.1,NY.out.2.2⟩⟩
          | ((repeat apply Exists.intro);exact ⟨⟨i+1,true,_,hlt,by go_num,rfl,GIn.next ⟨NY.out.1,A4.out,NY.out.2.1,NY.out.2.2⟩⟩,rfl⟩)
         case measure=>simp [intOf];omega
       ·as_aux_lemma=>
        obtain ⟨u,v,rfl⟩:∃ u v,tf=[u,v]:=by
         have h2:tf.length=2:=by
          have:=HOK.out.tk _ HLI.out
          rw [HTH.out] at this
          simp [fitsW] at this
          omega
         match tf,h2 with
         | [u,v],_=>exact ⟨u,v,rfl⟩
        have kT:Keeps (fun _=>False) w wt:=MT.out.K
        have rdT:=HRD.out.keep kT (fun _ _ _ h=>h)
        obtain ⟨gf,of,rfl,hgf,u0,u1⟩:=rdT.val 0 (by simp)
        obtain ⟨_,_,e',-,v0,v1⟩:=rdT.val 1 (by simp)
        cases e'
        have lenE:([u,v]:List Vl).length=2:=rfl
        simp only [List.getD_cons_zero,List.getD_cons_succ,Nat.zero_mul,Nat.add_zero,Nat.one_mul] at u0 u1 v0 v1
        have hin:∀ y:Vl,y ∈ [u,v]→InL l.length y:=fun y hy h3=>by
         have:=HOK.out.tv _ HLI.out y (by rw [HTH.out];exact hy)
         have:=Wd.okV_ref this h3
         rw [HLL.out]
         exact ⟨this.1,this.2.1⟩
        have HIN:=Hz hin
        have hll4:l.length≤1000000:=by have:=HLL.out;omega
        clear rdT kT hin
        have hk3:=Hz (show (W.th (i:Int)).k=4 by rw [HTH.out])
        have HW2:=Hz (show wr.alloc (.cells #[.int .i64 4, .slice (some ⟨gf,of,none⟩) 2 fc, .bool tol, .bool tde] 154)=wt from HWT.out)
        have hf3:=Hz (show (W.th (i:Int)).fs=[u,v] by rw [HTH.out])
        go_wp2_with (refine wpList_agg rfl 154 (.tmp 31) rfl [.int .i64 4, .slice fo ([u,v]:List Vl).length fc, .bool tol, .bool tde] (by kernel_rfl) g (o+i*4) rfl (rangeAt_cons t0 (rangeAt_cons t1 (rangeAt_cons t2 (rangeAt_cons t3 rangeAt_nil)))) ?_)
        rw [HW2.out]
        clear t0 t1 t2 t3 p0 pl hgl hgo b1 d0
        have b0:=MT.out.O.hb.cell 0;have bl:=MT.out.O.hb.lt;have x1:=BT.out.cell 1;have xl:=BT.out.lt
        simp only [List.getElem?_cons_zero,List.getElem?_cons_succ] at b0 x1
        refine wp_region_ro (.free 1 (.pure 0 (.pure 2 (.free 3 (.pure 4 (.run 5 (.swi [] (.fin)))))))) [5] (fun w'=>w'.cell? ⟨b,0,none⟩=some (.slice (some ⟨go,oo,none⟩) is.length cap)∧w'.cell? ⟨wr.heap.size,1,none⟩=some (.slice (some ⟨gf,of,none⟩) 2 fc)∧w'.cell? ⟨gf,of,none⟩=some (.int .i64 u.1)∧w'.cell? ⟨gf,of+1,none⟩=some (.int .i64 u.2)) (by kernel_rfl) (by kernel_rfl) ⟨b0,x1,u0,u1⟩ ?_
        iterate 5 first | (refine wpRO_free rfl rfl _ (fun w'=>by go_simp;exact Gives.mk _ _) (fun K hK=>?_);go_simp;refine hK _ ?_;clear hK K) | (refine wpRO_skipF rfl rfl (fun K hK=>?_);go_simp;refine hK _ ?_;clear hK K) | (refine wpRO_pure rfl rfl _ (fun w' hG=>by obtain ⟨g0,g1,g2,g3⟩:=hG;exact gives_agg2 rfl (by decide +kernel) rfl (by assumption) (by assumption)) (fun K hK=>?_);go_simp;refine hK _ ?_;clear hK K) | (refine wpRO_pure rfl rfl _ (fun w' hG=>by obtain ⟨g0,g1,g2,g3⟩:=hG;go_simp;exact Gives.mk _ _) (fun K hK=>?_);go_simp;refine hK _ ?_;clear hK K) | (refine wpRO_skip rfl rfl (fun K hK=>?_);go_simp;refine hK _ ?_;clear hK K)
        refine wpRO_chg rfl rfl rfl (fun K hK=>?_);unfold gRun;go_simp
        have MD:=Hz (MT.out.same ((Kz wt).drew))
        obtain ⟨_,_,e',rdo,-,-⟩:=MD.out.O.hs.rd
        obtain ⟨rfl,-,rfl⟩:=Value.slice.inj e'
        have HIS:=inSet_c u (some ⟨go,oo,none⟩) cap l _ rdo hll4 (HIN.out u (by simp))
        rw [G2.out.len] at HIS
        refine HIS.mono ?_
        rintro e w3 ⟨rfl,hk⟩
        have k3:Keeps (fun _=>False) wt w3:=((Kz wt).drew).trans hk
        have M3:=Hz (MT.out.same k3)
        have B3:=Hz (k3.blk BT.out (fun h=>h))
        have v0':=k3.cellF hgf v0;have v1':=k3.cellF hgf v1
        have hgf3:gf<w3.heap.size:=Nat.lt_of_lt_of_le hgf k3.size
        refine hK _ _ ?_
        clear hK K hk k3 HIS rdo e' b0 bl x1 xl u0 u1 v0 v1
        refine wpRO_swi (fun _=>True) trivial (wpRO_fin ?_)
        cases hu:inS l u
        ·have HU:=Hz hu
         clear hu v0' v1'
         go_wp2_with fail
         go_roundw
         case rel=>
          first
          | exact ⟨i+1,x,l,hlt,by go_num,rfl,GIn.next ⟨M3.out,G2.out,F2.out,fun hm=>⟨Y2.out hm,by
           rcases F2.out with ⟨_,e⟩ | ⟨e,_⟩
           ·rw [←e];exact closedAt_eph hk3.out hf3.out (fun h=>by rw [HU.out] at h;cases h)
           ·rw [e] at hm;cases hm⟩⟩⟩
          | ((repeat apply Exists.intro);exact ⟨⟨i+1,x,l,hlt,by go_num,rfl,GIn.next ⟨M3.out,G2.out,F2.out,fun hm=>⟨Y2.out hm,by
           rcases F2.out with ⟨_,e⟩ | ⟨e,_⟩
           ·rw [←e];exact closedAt_eph hk3.out hf3.out (fun h=>by rw [HU.out] at h;cases h)
           ·rw [e] at hm;cases hm⟩⟩⟩,rfl⟩)
         case measure=>simp [intOf];omega
        ·have LD:=Hz (G2.out.lead HAT.out (v:=v) (lead_eph hk3.out hf3.out hu))
         clear hu
         have x1:=B3.out.cell 1;have xl:=B3.out.lt
         simp only [List.getElem?_cons_zero,List.getElem?_cons_succ] at x1
         go_wp2_with (refine wpList_agg2 rfl 96 (.tmp 82) rfl (by kernel_rfl) gf _ rfl _ _ v0' v1' ?_)
         refine (GAdd_c v b _ l _ M3.out.O hll4 (HIN.out v (by simp))).mono ?_
         rintro e w4 ⟨rfl,hO,hK⟩
         have A4:=Hz (G2.out.add (HIN.out v (by simp)) LD.out)
         have NX:=Hz (And.intro (M3.out.add hO hK) (And.intro (F2.out.add (v:=v) (HIN.out v (by simp))) (Yet.add (v:=v) (r:=(∀ j:Nat,j<i→ClosedAt W q lp j)∧ClosedAt W q lp i) F2.out Y2.out (fun h1 h2=>⟨h1,closedAt_eph hk3.out hf3.out (fun _=>h2)⟩))))
         clear hO hK x1 xl v0' v1'
         generalize (!inS l v)=a at *
         cases a
         ·have nx:=NX.out
          simp only [Bool.false_or] at nx
          have NY:=Hz nx
          clear nx NX
          go_wp2_with fail
          go_roundw
          case rel=>
           first
           | exact ⟨i+1,x,_,hlt,by go_num,rfl,GIn.next ⟨NY.out.1,A4.out,NY.out.2.1,NY.out.2.2⟩⟩
           | ((repeat apply Exists.intro);exact ⟨⟨i+1,x,_,hlt,by go_num,rfl,GIn.next ⟨NY.out.1,A4.out,NY.out.2.1,NY.out.2.2⟩⟩,rfl⟩)
          case measure=>simp [intOf];omega
         ·have nx:=NX.out
          simp only [Bool.true_or] at nx
          have NY:=Hz nx
          clear nx NX
          go_wp2_with fail
          go_roundw
          case rel=>
           first
           | exact ⟨i+1,true,_,hlt,by go_num,rfl,GIn.next ⟨NY.out.1,A4.out,NY.out.2.1,NY.out.2.2⟩⟩
           | ((repeat apply Exists.intro);exact ⟨⟨i+1,true,_,hlt,by go_num,rfl,GIn.next ⟨NY.out.1,A4.out,NY.out.2.1,NY.out.2.2⟩⟩,rfl⟩)
          case measure=>simp [intOf];omega
       ·as_aux_lemma=>
        go_wp2_with (refine wpList_agg rfl 154 (.tmp 31) rfl [.int .i64 5, .slice fo tf.length fc, .bool tol, .bool tde] (by kernel_rfl) g (o+i*4) rfl (rangeAt_cons t0 (rangeAt_cons t1 (rangeAt_cons t2 (rangeAt_cons t3 rangeAt_nil)))) ?_)
        rw [HWT.out]
        clear t0 t1 t2 t3 b0 bl p0 pl hgl hgo b1 d0
        have hkk:=Hz (show (W.th (i:Int)).k=5 by rw [HTH.out])
        go_loopw [7,11] (fun m u wr2=>∃ (f:Nat) (x:Bool) (l:List Bool),f≤q.length∧u=.int .i64 f∧m=.bool x∧GM w wr2 b (.slice (some ⟨go,oo,none⟩) is.length cap) l∧GrOk W q is l∧Fl x lp l∧Yet x ((∀ j:Nat,j<i→ClosedAt W q lp j)∧∀ e ∈ q.take f,e.1=(i:Int)→inS lp (3,e.2)=true)∧atB l (i:Int)=true) (fun _ u _=>q.length-(intOf u).toNat)
        case atStart=>exact ⟨0,x,l,Nat.zero_le _,rfl,rfl,MT.out,G2.out,F2.out,fun hm=>⟨Y2.out hm,(fun e he=>by simp at he)⟩,HAT.out⟩
        case round=>
         obtain ⟨f,x,l,hf,rfl,rfl,hM,hG,hF,hY,hA⟩:=hrel
         have M3:=Hz hM;have G3:=Hz hG;have F3:=Hz hF;have Y3:=Hz hY;have A3:=Hz hA
         obtain ⟨⟨c1,c2,c3,c4,hp⟩,-,hw⟩:=HG.out.same hM.K
         have p3:=hp.cell 3;have pl:=hp.lt
         simp only [List.getElem?_cons_zero,List.getElem?_cons_succ] at p3
         have hll3:l.length=W.T.length:=hG.len.trans HLEN.out
         clear hM hG hF hY hA hp
         by_cases hlt3:f<q.length
         ·obtain ⟨_,_,e',rd3,-,-⟩:=hw.rd
          cases e'
          obtain ⟨gf,of,rfl,hgf,v0,v1⟩:=rd3.ent f hlt3
          have hmem:q.getD f (0,0) ∈ q:=by rw [List.getD_eq_getElem?_getD,List.getElem?_eq_getElem hlt3];exact List.getElem_mem hlt3
          have htk:=Hz (show q.take (f+1)=q.take f ++ [q.getD f (0,0)] by rw [←List.take_append_getElem hlt3,List.getD_eq_getElem?_getD,List.getElem?_eq_getElem hlt3];rfl)
          have HMM:=Hz hmem
          generalize q.getD f (0,0)=v at *
          obtain ⟨v1g,v2g⟩:=v
          dsimp only at v0 v1
          have hin:InL l.length (3,v2g):=fun h3=>by
           have:=(HQ.out _ HMM.out).2.2
           exact ⟨this.1,by rw [hll3];exact this.2.1⟩
          have HIN:=Hz hin
          clear hmem hin rd3 hll3 hw
          by_cases he:v1g=(i:Int)
          ·have hd:(v1g == (i:Int))=true:=by simpa using he
           have LD:=Hz (G3.out.lead A3.out (v:=(3,v2g)) (lead_guard hkk.out HMM.out he))
           have HE:=Hz he
           clear he
           go_wp2_with fail
           refine (GAdd_c (3,v2g) b _ l _ M3.out.O (by have:=G3.out.len;omega) HIN.out).mono ?_
           rintro e w3 ⟨rfl,hO,hK⟩
           have A4:=Hz ((G3.out.add HIN.out (fun _=>LD.out trivial)))
           have A5:=Hz (show atB (addL l (3,v2g)) (i:Int)=true by
            have:=A3.out
            unfold addL
            split
            ·exact this
            ·exact (atB_set (HIN.out rfl).1 (HIN.out rfl).2).2 (.inr this))
           have NX:=Hz (And.intro (M3.out.add hO hK) (And.intro (F3.out.add (v:=(3,v2g)) HIN.out) (Yet.add (v:=(3,v2g)) (r:=(∀ j:Nat,j<i→ClosedAt W q lp j)∧∀ e ∈ q.take (f+1),e.1=(i:Int)→inS lp (3,e.2)=true) F3.out Y3.out (fun h1 h2=>⟨h1.1,fun u hu h5=>by
            rw [htk.out] at hu
            rcases List.mem_append.1 hu with hu | hu
            ·exact h1.2 u hu h5
            ·rw [List.mem_singleton] at hu;subst hu;exact h2⟩))))
           clear hO hK p3 pl v0 v1 hgf
           generalize (!inS l (3,v2g))=a at *
           cases a
           ·have nx:=NX.out
            simp only [Bool.false_or] at nx
            have NY:=Hz nx
            clear nx NX
            go_wp2_with fail
            go_roundw
            case rel=>
             first
             | exact ⟨f+1,x,_,hlt3,by go_num,rfl,NY.out.1,A4.out,NY.out.2.1,NY.out.2.2,A5.out⟩
             | ((repeat apply Exists.intro);exact ⟨⟨f+1,x,_,hlt3,by go_num,rfl,NY.out.1,A4.out,NY.out.2.1,NY.out.2.2,A5.out⟩,rfl⟩)
            case measure=>simp [intOf];omega
           ·have nx:=NX.out
            simp only [Bool.true_or] at nx
            have NY:=Hz nx
            clear nx NX
            go_wp2_with fail
            go_roundw
            case rel=>
             first
             | exact ⟨f+1,true,_,hlt3,by go_num,rfl,NY.out.1,A4.out,NY.out.2.1,NY.out.2.2,A5.out⟩
             | ((repeat apply Exists.intro);exact ⟨⟨f+1,true,_,hlt3,by go_num,rfl,NY.out.1,A4.out,NY.out.2.1,NY.out.2.2,A5.out⟩,rfl⟩)
            case measure=>simp [intOf];omega
          ·have hd:(v1g == (i:Int))=false:=by simpa using he
           have HE:=Hz he
           clear he
           go_wp2_with fail
           go_roundw
           case rel=>
            first
            | exact ⟨f+1,x,l,hlt3,by go_num,rfl,M3.out,G3.out,F3.out,fun hm=>⟨(Y3.out hm).1,fun u hu h5=>by
             rw [htk.out] at hu
             rcases List.mem_append.1 hu with hu | hu
             ·exact (Y3.out hm).2 u hu h5
             ·rw [List.mem_singleton] at hu;subst hu;exact (HE.out h5).elim⟩,A3.out⟩
            | ((repeat apply Exists.intro);exact ⟨⟨f+1,x,l,hlt3,by go_num,rfl,M3.out,G3.out,F3.out,fun hm=>⟨(Y3.out hm).1,fun u hu h5=>by
             rw [htk.out] at hu
             rcases List.mem_append.1 hu with hu | hu
             ·exact (Y3.out hm).2 u hu h5
             ·rw [List.mem_singleton] at hu;subst hu;exact (HE.out h5).elim⟩,A3.out⟩,rfl⟩)
           case measure=>simp [intOf];omega
         ·obtain rfl:f=q.length:=by omega
          clear hll3 hw
          go_wp2_with fail
          go_roundw
          case rel=>
           first
           | exact ⟨i+1,x,l,hlt,by go_num,rfl,GIn.next ⟨M3.out,G3.out,F3.out,fun hm=>⟨(Y3.out hm).1,closedAt_guard hkk.out (fun e he h5=>(Y3.out hm).2 e (by rw [List.take_length];exact he) h5)⟩⟩⟩
           | ((repeat apply Exists.intro);exact ⟨⟨i+1,x,l,hlt,by go_num,rfl,GIn.next ⟨M3.out,G3.out,F3.out,fun hm=>⟨(Y3.out hm).1,closedAt_guard hkk.out (fun e he h5=>(Y3.out hm).2 e (by rw [List.take_length];exact he) h5)⟩⟩⟩,rfl⟩)
          case measure=>simp [intOf];omega
     ·obtain rfl:i=W.T.length:=by omega
      clear ht
      go_wp2_with fail
      go_roundg (unB l+if x then 1 else 0)
      case measure=>
       have h1:=HU.out;have h2:=F2.out
       simp only [if_true] at h1
       rcases h2 with ⟨rfl,rfl⟩ | ⟨rfl,h2⟩
       ·simp;omega
       ·simp;omega
      case rel=>
       refine ⟨x,l,rfl,⟨M2.out,G2.out,fun hm=>?_⟩,Nat.le_refl _⟩
       rcases F2.out with ⟨_,e⟩ | ⟨e,_⟩
       ·rw [e] at HLL ⊢;rw [HLL.out];exact Y2.out hm
       ·rw [e] at hm;cases hm
end
end
section
open Go.RowKit
def firstT (W:Wd) (major:Bool) (k:Nat):List Bool:=(List.range W.T.length).map fun (i:Nat)=>decide (i<k) && ((W.th (i:Int)).old && !(W.th (i:Int)).dead && !major)
def firstR (W:Wd) (major:Bool) (k:Nat):List Bool:=(List.range W.T.length).map fun (i:Nat)=>((W.th (i:Int)).old && !(W.th (i:Int)).dead && !major) || (W.roots.take k).any fun v=>v.1 == 3 && v.2 == (i:Int)
theorem firstT_len (W:Wd) (major:Bool) (k:Nat):(firstT W major k).length=W.T.length:=by simp [firstT]
theorem firstR_len (W:Wd) (major:Bool) (k:Nat):(firstR W major k).length=W.T.length:=by simp [firstR]
theorem firstT_zero (W:Wd) (major:Bool):firstT W major 0=List.replicate W.T.length false:=by
 unfold firstT
 rw [List.eq_replicate_iff]
 refine ⟨by simp,fun b hb=>?_⟩
 simp at hb
 exact hb.2
theorem firstT_step (W:Wd) (major:Bool) {k:Nat} (h:k<W.T.length):(firstT W major k).set k ((W.th (k:Int)).old && !(W.th (k:Int)).dead && !major)=firstT W major (k+1):=by
 unfold firstT
 apply List.ext_getElem (by simp)
 intro j h1 h2
 simp only [List.getElem_set,List.getElem_map,List.getElem_range]
 split
 ·rename_i e;subst e;simp
 ·rename_i e
  congr 1
  simp only [decide_eq_decide]
  omega
theorem firstT_all (W:Wd) (major:Bool):firstT W major W.T.length=firstR W major 0:=by
 unfold firstT firstR
 apply List.map_congr_left
 intro i hi
 have:i<W.T.length:=by simpa using hi
 simp [this]
theorem firstR_all (W:Wd) (major:Bool):firstR W major W.roots.length=W.first major:=by
 unfold firstR Wd.first
 rw [List.take_length]
theorem firstR_step (W:Wd) (major:Bool) {k:Nat} (h:k<W.roots.length) {v:Vl} (hv:W.roots.getD k (0,0)=v):firstR W major (k+1)=if v.1=3 then (if 0≤v.2 then (firstR W major k).set v.2.toNat true else firstR W major k) else firstR W major k:=by
 have e:W.roots.take (k+1)=W.roots.take k ++ [v]:=by
  rw [←List.take_append_getElem h,←hv,List.getD_eq_getElem?_getD,List.getElem?_eq_getElem h];rfl
 have h1:firstR W major (k+1)=(List.range W.T.length).map fun (i:Nat)=>(((W.th (i:Int)).old && !(W.th (i:Int)).dead && !major) || (W.roots.take k).any fun v=>v.1 == 3 && v.2 == (i:Int)) || (v.1 == 3 && v.2 == (i:Int)):=by
  unfold firstR
  rw [e]
  apply List.map_congr_left
  intro i _
  simp [Bool.or_assoc]
 rw [h1]
 by_cases h3:v.1=3
 ·rw [if_pos h3]
  by_cases h0:0≤v.2
  ·rw [if_pos h0]
   unfold firstR
   apply List.ext_getElem (by simp)
   intro j h1 h2
   simp only [List.getElem_set,List.getElem_map,List.getElem_range]
   split
   ·rename_i e
    have:v.2=(j:Int):=by omega
    simp [h3,this]
   ·rename_i e
    have:¬ v.2=(j:Int):=by omega
    simp [this]
  ·rw [if_neg h0]
   unfold firstR
   apply List.map_congr_left
   intro i _
   have:¬ v.2=(i:Int):=by omega
   simp [this]
 ·rw [if_neg h3]
  unfold firstR
  apply List.map_congr_left
  intro i _
  simp [h3]
section
variable {w:World} {h:RW} {W:Wd}
theorem WorldAt.gr (H:WorldAt w h W):GrAt w h.p h.tv h.wv h.F W W.wait:=⟨⟨_,_,_,_,H.hp⟩,H.ht,H.hw⟩
theorem First_c (major:Bool) (H:WorldAt w h W) (hT:W.T.length≤100000) :
  Calls Tryz.prog 141 #[.pointer (some ⟨h.p,0,none⟩), .bool major] w (GrownRet w (W.first major)):=by
 obtain ⟨ib,hi,hz0,hz1,hz2⟩:=info_parts info_bool
 have hmk:=run_make_one (P:=Tryz.prog) w 122 4 ib (.bool false) Tryz.underlying122 hi hz0 rfl hz1 W.T.length (by rw [hz2];omega) (by omega)
 have HM:=Hz hmk;clear hi hz0 hz1 hz2
 have HH:=Hz H
 obtain ⟨no,nc,hno,-⟩:=H.ht.nth
 obtain ⟨ro,rc,hro,-,-,-⟩:=H.hr.rd
 obtain ⟨c0,c1,-,-,-,-⟩:=H.cells
 rw [hno] at c0
 rw [hro] at c1
 have pl:=H.hp.lt
 have hok:=H.ok
 have HOK:=Hz hok;have HNO:=Hz hno;have HRO:=Hz hro
 have h12:=hok.hr
 clear H hok hno hro
 go_enter Tryz.func141,Tryz.ntmps141
 go_wp2_with fail
 generalize hwx:w.alloc (.cells (Array.replicate W.T.length (.bool false)) 4)=wx
 have KX:=Hz (show Keeps (fun _=>False) w wx by rw [←hwx];exact (Keeps.refl _ _).alloc _)
 have BX:=Hz (show Blk wx w.heap.size ((firstT W major 0).map Value.bool) 4 by rw [←hwx,firstT_zero];exact Blk.newAt _ rfl (by simp))
 have HX:=Hz hwx
 clear hwx
 try rw [HX.out]
 go_loopw [6] (fun u wr=>∃ k:Nat,k≤W.T.length∧u=.int .i64 k∧Keeps (fun _=>False) w wr∧Blk wr w.heap.size ((firstT W major k).map Value.bool) 4) (fun u _=>W.T.length-(intOf u).toNat)
 case atStart=>exact ⟨0,Nat.zero_le _,rfl,KX.out,BX.out⟩
 case round=>
  clear c0 c1 pl
  obtain ⟨k,hk,rfl,hK,hB⟩:=hrel
  have K:=Hz hK;have B:=Hz hB
  have HW:=Hz (HH.out.same hK)
  obtain ⟨c0,c1,-,-,-,-⟩:=HW.out.cells
  rw [HNO.out] at c0
  rw [HRO.out] at c1
  have pl:=HW.out.hp.lt
  clear hK hB
  by_cases hlt:k<W.T.length
  ·obtain ⟨_,_,e',N⟩:=HW.out.ht.nth
   rw [HNO.out] at e'
   cases e'
   obtain ⟨g,o,fo,fc,rfl,-,hgl,t0,t1,t2,t3,-,-,-⟩:=N k hlt
   have HST:=Hz (firstT_step W major hlt)
   have HTH:=Hz (show W.th (k:Int)=W.T.getD k Th.none by unfold Wd.th;rw [Int.toNat_natCast])
   have x0:=B.out.cell k;have xl:=B.out.lt;have xf:=B.out.free k
   rw [List.getElem?_map,List.getElem?_eq_getElem (by rw [firstT_len];exact hlt)] at x0
   simp only [Option.map_some] at x0
   generalize (firstT W major k)[k]'(by rw [firstT_len];exact hlt)=b0 at x0
   have hne:g≠w.heap.size:=fun e=>by
    subst e
    obtain ⟨cs,hs,-⟩:=HW.out.ht
    obtain ⟨_,c',hc⟩:=hs.own (k:=w.heap.size) (by rw [HNO.out];rfl)
    exact B.out.ne hc (by decide) rfl
   generalize W.T.getD k Th.none=t at *
   obtain ⟨tk,tf,tol,tde⟩:=t
   dsimp only at t0 t1 t2 t3 HTH
   clear N
   cases tol <;> cases tde <;> cases major
   all_goals
    go_wp2_with fail
    go_roundw
    case rel=>
     refine ⟨k+1,hlt,by go_num,K.out.setCell (p:=⟨w.heap.size,k,none⟩) (.inr (Nat.le_refl _)) _,?_⟩
     rw [←HST.out,List.map_set,HTH.out]
     exact B.out.setSame k _
    case measure=>simp [intOf];omega
  ·obtain rfl:k=W.T.length:=by omega
   rw [firstT_all] at B
   go_wp2_with fail
   go_loopw [7] (fun u wr=>∃ k:Nat,k≤12∧u=.int .i64 k∧Keeps (fun _=>False) w wr∧Blk wr w.heap.size ((firstR W major k).map Value.bool) 4) (fun u _=>12-(intOf u).toNat)
   case atStart=>exact ⟨0,Nat.zero_le _,rfl,K.out,B.out⟩
   case round=>
    clear c0 c1 pl HW
    obtain ⟨k,hk,rfl,hK,hB⟩:=hrel
    have K:=Hz hK;have B:=Hz hB
    have HW:=Hz (HH.out.same hK)
    obtain ⟨c0,c1,-,-,-,-⟩:=HW.out.cells
    rw [HNO.out] at c0
    rw [HRO.out] at c1
    have pl:=HW.out.hp.lt
    clear hK hB
    by_cases hlt2:k<12
    ·obtain ⟨_,_,e',rd,-,-⟩:=HW.out.hr.rd
     rw [HRO.out] at e'
     cases e'
     obtain ⟨g,o,rfl,hgl,v0,v1⟩:=rd.val k (by omega)
     have HST:=Hz (firstR_step W major (k:=k) (by omega) rfl)
     have hokv:=HOK.out.rv (W.roots.getD k (0,0)) (by rw [List.getD_eq_getElem?_getD,List.getElem?_eq_getElem (by omega)];exact List.getElem_mem _)
     have HV:=Hz hokv
     generalize W.roots.getD k (0,0)=v at *
     obtain ⟨vk,vn⟩:=v
     dsimp only at v0 v1
     clear rd hokv
     by_cases h3:vk=3
     ·subst h3
      have hlv:=Wd.okV_ref HV.out rfl
      have h0:=hlv.1;have h1:=hlv.2.1
      dsimp only at h0 h1
      obtain ⟨m,rfl⟩:∃ m:Nat,vn=m:=⟨vn.toNat,by omega⟩
      have hm:m<W.T.length:=by omega
      have HS2:=Hz (HST.out.trans (by rw [if_pos rfl,if_pos (by omega)]))
      have x0:=B.out.cell m;have xl:=B.out.lt;have xf:=B.out.free m
      rw [List.getElem?_map,List.getElem?_eq_getElem (by rw [firstR_len];exact hm)] at x0
      simp only [Option.map_some] at x0
      generalize (firstR W major k)[m]'(by rw [firstR_len];exact hm)=b0 at x0
      clear hlv HST
      go_wp2_with fail
      go_roundw
      case rel=>
       have hset:=B.out.setSame m (.bool true)
       rw [←List.map_set] at hset
       have e:(firstR W major k).set m true=firstR W major (k+1):=by rw [HS2.out];simp
       rw [e] at hset
       refine ⟨k+1,hlt2,by go_num,?_,hset⟩
       exact K.out.setCell (p:=⟨w.heap.size,m,none⟩) (.inr (Nat.le_refl _)) _
      case measure=>simp [intOf];omega
     ·have hkb:(vk == 3)=false:=by simpa using h3
      have HS2:=Hz (HST.out.trans (if_neg h3))
      clear h3 HST
      go_wp2_with fail
      go_roundw
      case rel=>exact ⟨k+1,hlt2,by go_num,K.out,by rw [HS2.out];exact B.out⟩
      case measure=>simp [intOf];omega
    ·obtain rfl:k=12:=by omega
     have hall:firstR W major 12=W.first major:=by rw [←h12];exact firstR_all W major
     have hlen:=W.first_length major
     rw [hall] at B
     clear hall
     have HLE:=Hz hlen
     clear hlen
     go_wp2_with fail
     go_ret
     refine ⟨some ⟨w.heap.size,0,none⟩,W.T.length,by rw [HLE.out];rfl,⟨by simp, .inr ⟨w.heap.size,0,W.T.length,_,rfl,B.out,by rw [HLE.out];exact Nat.le_refl _,by unfold maxLen;omega,by simp [HLE.out],?_⟩⟩,K.out,fun k hk=>?_⟩
     ·rw [List.drop_zero];exact List.take_of_length_le (by simp)
     ·simp [ownB,Value.ownBlock] at hk;omega
end
end
section
def refW (x:Int):Int:=IntKind.i64.wrap (4*x+1)
def mAlive (A:Ar) (x:Int):Bool:=!(decide (x%4=1) && A.young (x/4)) || decide (A.load (x/4)<0)
def mNow (A:Ar) (x:Int):Int:=if x%4=1∧A.young (x/4)=true∧A.load (x/4)<0 then refW (-1-A.load (x/4)) else x
def mBring (A:Ar) (x:Int):Ar:=if mAlive A x=true then A else (A.copy (x/4)).2.store (x/4) (-1-(A.copy (x/4)).1)
def mField (A:Ar) (i:Int):Ar:=(mBring A (A.load i)).store i (mNow (mBring A (A.load i)) (A.load i))
def mFields:Nat→Ar→Int→Ar
 | 0,A,_=>A
 | n+1,A,i=>mFields n (mField A i) (i+1)
structure Ms where
 A:Ar
 wk:List Int
 ep:List Int
def mLook (s:Ms) (i:Int):Ms:=
 if (s.A.thing i).1=1∨(s.A.thing i).1=2 then { s with A:=mFields (s.A.thing i).2.1.toNat s.A (i+1) }
 else if (s.A.thing i).1=3 then ⟨mField s.A (i+2),s.wk ++ [i],s.ep⟩
 else if (s.A.thing i).1=4 then { s with ep:=s.ep ++ [i] }
 else s
def mScan:Nat→Ms→Int→Ms × Int
 | 0,s,c=>(s,c)
 | n+1,s,c=>if c<s.A.grn then mScan n (mLook s c) (c+(1+(s.A.thing c).2.1)) else (s,c)
def mEph1 (A:Ar) (i:Int):Ar:=if mAlive A (A.load (i+1))=true then mField (mField A (i+1)) (i+2) else A
def mEph (A:Ar) (l:List Int):Ar:=l.foldl mEph1 A
def mKp (A:Ar) (x:Int):Ar × Int:=(mBring A x,mNow (mBring A x) x)
structure Md where
 s:Ms
 c:Int
 q:List (Int × Int)
def mRound (d:Md):Md:=
 let r:=mScan 2000 d.s d.c
 let w:=wakeM mAlive mKp (mEph r.1.A r.1.ep) d.q
 ⟨{ r.1 with A:=w.1 },r.2,w.2.1⟩
def mDrain:Nat→Md→Md
 | 0,d=>d
 | n+1,d=>if (mRound d).c<(mRound d).s.A.grn then mDrain n (mRound d) else mRound d
abbrev Mt:=Ms × Int
def mtAlive (t:Mt) (x:Int):Bool:=mAlive t.1.A x
def mtNow (t:Mt) (x:Int):Int:=mNow t.1.A x
def mtKeep (t:Mt) (q:List (Int × Int)) (x:Int):Mt × List (Int × Int) × Int:=
 let d:=mDrain 2000 ⟨{ t.1 with A:=mBring t.1.A x },t.2,q⟩
 ((d.s,d.c),d.q,mNow (mBring t.1.A x) x)
def mFix (A:Ar) (i:Int) (dead:Bool):Ar:=A.store i (if dead then 3 else mNow A (A.load i))
def mGoneW (A:Ar) (l:List Int):Ar:=l.foldl (fun A i=>mFix A (i+1) (!mAlive A (A.load (i+1)))) A
def mGoneE1 (A:Ar) (i:Int):Ar:=mFix (mFix A (i+1) (!mAlive A (A.load (i+1)))) (i+2) (!mAlive A (A.load (i+1)))
def mGone (s:Ms):Ar:=s.ep.foldl mGoneE1 (mGoneW s.A s.wk)
def mRoots (A:Ar):List Int→Ar × List Int
 | []=>(A,[])
 | x :: l=>((mRoots (mBring A x) l).1,mNow (mBring A x) x :: (mRoots (mBring A x) l).2)
def mDirty (base:Int) (cd:List Bool) (s:Ms) (l:List Int):Ms:=l.foldl (fun s i=>if dirtyL base cd i=true then mLook s i else s) s
def mPre (O:Wo):Md:=
 mDrain 2000 ⟨mDirty O.ar.nur O.cd ⟨(mRoots O.ar O.rt).1,[],[]⟩ O.ar.things.2,O.ar.grn,O.wt⟩
def mPass (O:Wo):Mt × List (Int × Int) × List It:=passM mtAlive mtKeep ((mPre O).s,(mPre O).c) O.rg (mPre O).q
def mCut (O:Wo):Int × Wo:=
 if (O.ar.yng:Int) > (O.ar.ws.length:Int)-O.ar.grn then (3,O)
 else (0,⟨(mGone (mPass O).1.1).clear,O.cd.map fun _=>false,(mRoots O.ar O.rt).2,
  newRegs mtAlive mtNow (mPass O).1 (mPass O).2.2,newWait mtAlive mtNow (mPass O).1 (mPass O).2.1⟩)
structure Sm (A B:Ar):Prop where
 ok:B.ok
 nur:B.nur=A.nur
 yng:B.yng=A.yng
 len:B.ws.length=A.ws.length
 grn:A.grn≤B.grn
theorem Sm.refl {A:Ar} (h:A.ok):Sm A A:=⟨h,rfl,rfl,rfl,Nat.le_refl _⟩
theorem Sm.trans {A B C:Ar} (h:Sm A B) (k:Sm B C):Sm A C:=⟨k.ok,k.nur.trans h.nur,k.yng.trans h.yng,k.len.trans h.len,Nat.le_trans h.grn k.grn⟩
theorem Sm.store {A:Ar} (h:A.ok) (i:Int) {x:Int} (hx:R64 x):Sm A (A.store i x):=⟨h.store i x hx,A.store_nur i x,A.store_yng i x,A.store_len i x,by rw [A.store_grn];exact Nat.le_refl _⟩
theorem Sm.copy {A:Ar} (h:A.ok) (i:Int):Sm A (A.copy i).2:=by
 refine ⟨h.copy i,?_,?_,?_,?_⟩
 all_goals unfold Ar.copy;dsimp only;split
 all_goals first | rfl | exact Nat.le_add_right _ _ | exact Nat.le_refl _ | skip
 rename_i hc
 have hf:=A.thing_fields i
 have hs:=Ar.whole_spec h hf.1 hc.2.1
 have:=h.h1;have:=h.h2;have:=h.h3
 exact lay_length (by simp;omega)
theorem Ar.copy_range {A:Ar} (h:A.ok) (i:Int):-1≤(A.copy i).1∧(A.copy i).1≤1280:=by
 have:=h.h3;have:=h.h4
 unfold Ar.copy
 dsimp only
 split
 ·dsimp only;omega
 ·dsimp only;omega
theorem R64_wrap (x:Int):R64 (IntKind.i64.wrap x):=by
 unfold R64
 rw [IntKind.wrap_i64]
 omega
theorem Sm.bring {A:Ar} (h:A.ok) (x:Int):Sm A (mBring A x):=by
 unfold mBring
 split
 ·exact Sm.refl h
 ·have:=Ar.copy_range h (x/4)
  exact (Sm.copy h _).trans (Sm.store (h.copy _) _ (by unfold R64;omega))
theorem mNow_R64 {A:Ar} {x:Int} (hx:R64 x):R64 (mNow A x):=by
 unfold mNow
 split
 ·exact R64_wrap _
 ·exact hx
theorem Sm.field {A:Ar} (h:A.ok) (i:Int):Sm A (mField A i):=
 (Sm.bring h _).trans (Sm.store (Sm.bring h _).ok _ (mNow_R64 (h.load i)))
theorem Sm.fields {A:Ar} (h:A.ok):∀ (n:Nat) (i:Int),Sm A (mFields n A i):=by
 intro n
 induction n generalizing A with
 | zero=>intro i;exact Sm.refl h
 | succ n ih=>intro i;exact (Sm.field h i).trans (ih (Sm.field h i).ok (i+1))
theorem Sm.look {s:Ms} (h:s.A.ok) (i:Int):Sm s.A (mLook s i).A:=by
 unfold mLook
 split
 ·exact Sm.fields h _ _
 ·split
  ·exact Sm.field h _
  ·split <;> exact Sm.refl h
theorem Sm.scan:∀ (n:Nat) (s:Ms) (c:Int),s.A.ok→Sm s.A (mScan n s c).1.A
 | 0,s,c,h=>Sm.refl h
 | n+1,s,c,h=>by
  unfold mScan
  split
  ·exact (Sm.look h c).trans (Sm.scan n _ _ (Sm.look h c).ok)
  ·exact Sm.refl h
theorem Sm.eph1 {A:Ar} (h:A.ok) (i:Int):Sm A (mEph1 A i):=by
 unfold mEph1
 split
 ·exact (Sm.field h _).trans (Sm.field (Sm.field h _).ok _)
 ·exact Sm.refl h
theorem Sm.eph:∀ (l:List Int) {A:Ar} (h:A.ok),Sm A (mEph A l)
 | [],A,h=>Sm.refl h
 | i :: l,A,h=>(Sm.eph1 h i).trans (Sm.eph l (Sm.eph1 h i).ok)
theorem Sm.wake:∀ (l:List (Int × Int)) {A:Ar} (h:A.ok),Sm A (wakeM mAlive mKp A l).1
 | [],A,h=>Sm.refl h
 | e :: l,A,h=>by
  unfold wakeM
  split
  ·exact (Sm.bring h e.2).trans (Sm.wake l (Sm.bring h e.2).ok)
  ·exact Sm.wake l h
theorem Sm.round (d:Md) (h:d.s.A.ok):Sm d.s.A (mRound d).s.A:=by
 have h1:=Sm.scan 2000 d.s d.c h
 have h2:=Sm.eph (mScan 2000 d.s d.c).1.ep h1.ok
 exact (h1.trans h2).trans (Sm.wake d.q h2.ok)
theorem Sm.fix {A:Ar} (h:A.ok) (i:Int) (b:Bool):Sm A (mFix A i b):=by
 refine Sm.store h i ?_
 split
 ·unfold R64;omega
 ·exact mNow_R64 (h.load i)
theorem wakeM_len {τ:Type} (alive:τ→Int→Bool) (kp:τ→Int→τ × Int):∀ (l:List (Int × Int)) (t:τ),(wakeM alive kp t l).2.1.length=l.length
 | [],_=>rfl
 | e :: l,t=>by
  unfold wakeM
  split
  ·simp [wakeM_len alive kp l]
  ·simp [wakeM_len alive kp l]
theorem mDrain_len:∀ (n:Nat) (d:Md),(mDrain n d).q.length=d.q.length
 | 0,d=>rfl
 | n+1,d=>by
  have h:(mRound d).q.length=d.q.length:=wakeM_len _ _ _ _
  unfold mDrain
  split
  ·rw [mDrain_len n,h]
  ·exact h
end
section
def Wrd (φ ψ:Int→Int) (S:Int→Prop) (x:Int) (v:Vl):Prop:=x=encV φ v∨((v.1=3→S v.2)∧x=encV ψ v)
structure Cu (O:Wo) (W:Wd) (φ:Int→Int) (A:Ar) (S:Int→Prop) (ψ:Int→Int) (N:List Int):Prop where
 sm:Sm O.ar A
 sl:∀ i,S i→W.live i
 so:∀ i,W.live i→(W.th i).old=true→S i
 po:∀ i,W.live i→(W.th i).old=true→ψ i=φ i
 nd:N.Nodup
 nm:∀ i,i ∈ N↔S i∧(W.th i).old=false
 tile:Tile A (N.map ψ) O.ar.grn A.grn
 th:∀ i,S i→A.thing (ψ i)=((W.th i).k,((W.th i).fs.length:Int),0)
 yet:∀ i,W.live i→(W.th i).old=false→¬ S i→∀ j:Int,0≤j→j≤(W.th i).fs.length→A.load (φ i+j)=O.ar.load (φ i+j)
 fwd:∀ i ∈ N,A.load (φ i)=-1-ψ i
 fd:∀ i,S i→∀ (j:Nat) (v:Vl),(W.th i).fs[j]? = some v→Wrd φ ψ S (A.load (ψ i+1+j)) v
section
variable {O:Wo} {W:Wd} {φ ψ ψ':Int→Int} {A A':Ar} {S S':Int→Prop} {N N':List Int}
def Up (W:Wd) (A:Ar) (S:Int→Prop) (ψ:Int→Int) (i:Int) (j:Nat) (v:Vl):Prop:=(v.1=3→S v.2)∧A.load (ψ i+1+j)=encV ψ v
structure Ext (W:Wd) (A:Ar) (S:Int→Prop) (ψ:Int→Int) (N:List Int) (A':Ar) (S':Int→Prop) (ψ':Int→Int) (N':List Int):Prop where
 sub:∀ i,S i→S' i
 at_:∀ i,S i→ψ' i=ψ i
 pre:∃ m,N'=N ++ m
 up:∀ i,S i→∀ (j:Nat) (v:Vl),(W.th i).fs[j]? = some v→Up W A S ψ i j v→Up W A' S' ψ' i j v
 grn:A.grn≤A'.grn
theorem Ext.refl:Ext W A S ψ N A S ψ N:=⟨fun _ h=>h,fun _ _=>rfl,⟨[],by simp⟩,fun _ _ _ _ _ h=>h,Nat.le_refl _⟩
theorem Ext.trans {A2:Ar} {S2:Int→Prop} {ψ2:Int→Int} {N2:List Int} (h:Ext W A S ψ N A' S' ψ' N') (k:Ext W A' S' ψ' N' A2 S2 ψ2 N2):Ext W A S ψ N A2 S2 ψ2 N2:=by
 obtain ⟨m,e⟩:=h.pre;obtain ⟨m',e'⟩:=k.pre
 exact ⟨fun i hi=>k.sub i (h.sub i hi),fun i hi=>(k.at_ i (h.sub i hi)).trans (h.at_ i hi),⟨m ++ m',by rw [e',e];simp⟩,fun i hi j v hv hu=>k.up i (h.sub i hi) j v hv (h.up i hi j v hv hu),Nat.le_trans h.grn k.grn⟩
theorem Ext.wrd (h:Ext W A S ψ N A' S' ψ' N') {x:Int} {v:Vl} (hw:Wrd φ ψ S x v):Wrd φ ψ' S' x v:=by
 rcases hw with h1 | ⟨h1,h2⟩
 ·exact .inl h1
 ·exact .inr ⟨fun h3=>h.sub _ (h1 h3),by rw [h2];exact (encV_congr (fun h3=>h.at_ _ (h1 h3))).symm⟩
theorem inj_of_nodup {f:Int→Int}:∀ {l:List Int},(l.map f).Nodup→∀ {a b:Int},a ∈ l→b ∈ l→f a=f b→a=b
 | x :: l,h,a,b,ha,hb,e=>by
  simp only [List.map_cons,List.nodup_cons] at h
  rcases List.mem_cons.1 ha with ea | ha'
  ·rcases List.mem_cons.1 hb with eb | hb'
   ·rw [ea,eb]
   ·rw [ea] at e;exact (h.1 (List.mem_map.2 ⟨b,hb',e.symm⟩)).elim
  ·rcases List.mem_cons.1 hb with eb | hb'
   ·rw [eb] at e;exact (h.1 (List.mem_map.2 ⟨a,ha',e⟩)).elim
   ·exact inj_of_nodup h.2 ha' hb' e
theorem Cu.old_of (C:Cu O W φ A S ψ N) {i:Int} (hi:S i) (hn:¬ i ∈ N):(W.th i).old=true:=by
 cases h:(W.th i).old
 ·exact (hn ((C.nm i).2 ⟨hi,h⟩)).elim
 ·rfl
theorem Cu.place (R:Rep O W φ) (C:Cu O W φ A S ψ N) {i:Int} (hi:S i) :
  (A.nur:Int)≤ψ i∧ψ i+1+(W.th i).fs.length≤A.grn∧(i ∈ N→(O.ar.grn:Int)≤ψ i)∧(¬ i ∈ N→ψ i+1+(W.th i).fs.length≤O.ar.grn):=by
 have hg:=C.sm.grn
 have hn:=C.sm.nur
 have h2:=R.ho.ha.h2
 by_cases h:i ∈ N
 ·have:=C.tile.mem (ψ i) (List.mem_map.2 ⟨i,h,rfl⟩)
  rw [C.th i hi] at this
  dsimp only at this
  exact ⟨by omega,by omega,fun _=>by omega,fun h'=>(h' h).elim⟩
 ·have ho:=C.old_of hi h
  have hl:=C.sl i hi
  have:=R.tz.mem _ (R.ino i hl ho)
  rw [R.th i hl] at this
  dsimp only at this
  rw [C.po i hl ho]
  exact ⟨by omega,by omega,fun h'=>(h h').elim,fun _=>by omega⟩
theorem Cu.inO (R:Rep O W φ) (C:Cu O W φ A S ψ N) {i:Int} (hi:S i) {j:Int} (h0:0≤j) (h1:j≤(W.th i).fs.length):A.old (ψ i+j)=true:=by
 have:=C.place R hi
 rw [old_iff];omega
theorem Cu.inU (R:Rep O W φ) (C:Cu O W φ A S ψ N) {i:Int} (hi:S i) {j:Int} (h0:0≤j) (h1:j≤(W.th i).fs.length):A.inUse (ψ i+j)=true:=by
 unfold Ar.inUse;rw [C.inO R hi h0 h1];simp
theorem Cu.apart (R:Rep O W φ) (C:Cu O W φ A S ψ N) {i j:Int} (hi:S i) (hj:S j) (h:i≠j):ψ i+1+(W.th i).fs.length≤ψ j∨ψ j+1+(W.th j).fs.length≤ψ i:=by
 have pi:=C.place R hi;have pj:=C.place R hj
 have ti:=C.th i hi;have tj:=C.th j hj
 by_cases ni:i ∈ N <;> by_cases nj:j ∈ N
 ·have:=pairwise_two (f:=fun p=>(A.thing p).2.1) C.tile.apart (List.mem_map.2 ⟨i,ni,rfl⟩) (List.mem_map.2 ⟨j,nj,rfl⟩)
  rw [ti,tj] at this
  dsimp only at this
  rcases this with e | e | e
  ·exact (h (inj_of_nodup C.tile.nodup ni nj e)).elim
  ·exact .inl e
  ·exact .inr e
 ·have:=pi.2.2.1 ni;have:=pj.2.2.2 nj;omega
 ·have:=pi.2.2.2 ni;have:=pj.2.2.1 nj;omega
 ·have oi:=C.old_of hi ni;have oj:=C.old_of hj nj
  have li:=C.sl i hi;have lj:=C.sl j hj
  rw [C.po i li oi,C.po j lj oj]
  exact R.apart li lj h
theorem Cu.inj (R:Rep O W φ) (C:Cu O W φ A S ψ N) {i j:Int} (hi:S i) (hj:S j) (e:ψ i=ψ j):i=j:=by
 by_cases h:i=j
 ·exact h
 ·have:=C.apart R hi hj h;omega
theorem thing_of_load' {A B:Ar} {p q:Int} (h:B.load p=A.load q):B.thing p=A.thing q:=by unfold Ar.thing;rw [h]
theorem thing_pos {A:Ar} {p:Int} (h:(A.thing p).2.2=0):0<A.load p:=by
 unfold Ar.thing partsW at h
 split at h
 ·rename_i hf
  have:=fitsW_spec hf
  omega
 ·simp at h
theorem Cu.fresh_load (R:Rep O W φ) (C:Cu O W φ A S ψ N) {i:Int} (hl:W.live i) (ho:(W.th i).old=false) (hs:¬ S i):A.load (φ i)=O.ar.load (φ i)∧0<A.load (φ i):=by
 have:=C.yet i hl ho hs 0 (by omega) (by omega)
 rw [Int.add_zero] at this
 have h2:=R.th i hl
 exact ⟨this,by rw [this];exact thing_pos (by rw [h2])⟩
theorem Cu.young_phi (R:Rep O W φ) (C:Cu O W φ A S ψ N) {i:Int} (hl:W.live i):A.young (φ i)=true↔(W.th i).old=false:=by
 have:A.young (φ i)=O.ar.young (φ i):=by unfold Ar.young;rw [C.sm.yng]
 rw [this];exact R.young_iff hl
theorem Cu.young_psi (R:Rep O W φ) (C:Cu O W φ A S ψ N) {i:Int} (hi:S i):A.young (ψ i)=false:=by
 have:=C.place R hi
 have h1:=C.sm.ok.h1
 cases h:A.young (ψ i)
 ·rfl
 ·rw [young_iff] at h;omega
theorem mAlive_plain {A:Ar} {x:Int} (h:¬ x%4=1):mAlive A x=true:=by unfold mAlive;simp [h]
theorem mNow_plain {A:Ar} {x:Int} (h:¬ x%4=1):mNow A x=x:=if_neg (fun h'=>h h'.1)
theorem Cu.alive (R:Rep O W φ) (C:Cu O W φ A S ψ N) {x:Int} {v:Vl} (hv:W.okV v) (hx:Wrd φ ψ S x v):mAlive A x=true↔(v.1=3→S v.2):=by
 by_cases h3:v.1=3
 ·have hl:=Wd.okV_ref hv h3
  rcases hx with rfl | ⟨hs,rfl⟩
  ·have e:=encV_ref φ h3
   have e4:encV φ v/4=φ v.2:=by rw [e];omega
   have e1:encV φ v%4=1:=by rw [e];omega
   unfold mAlive
   rw [e4]
   cases ho:(W.th v.2).old
   ·rw [(C.young_phi R hl).2 ho]
    by_cases hs:S v.2
    ·have:=C.fwd v.2 ((C.nm _).2 ⟨hs,ho⟩)
     have hp:=C.place R hs
     have h0:(0:Int)≤A.nur:=by omega
     simp [e1,this,hs];omega
    ·have:=(C.fresh_load R hl ho hs).2
     simp [e1,h3,hs];omega
   ·have:A.young (φ v.2)=false:=by
     cases h:A.young (φ v.2)
     ·rfl
     ·rw [C.young_phi R hl,ho] at h;cases h
    rw [this]
    simp [C.so _ hl ho]
  ·have e:=encV_ref ψ h3
   have e4:encV ψ v/4=ψ v.2:=by rw [e];omega
   unfold mAlive
   rw [e4,C.young_psi R (hs h3)]
   simp [hs h3]
 ·have e:x=encV φ v:=by
   rcases hx with h | ⟨_,h⟩
   ·exact h
   ·rw [h];exact encV_plain h3
  subst e
  rw [mAlive_plain (fun h=>h3 ((encV_mod hv).1 h))]
  simp [h3]
theorem Cu.now (R:Rep O W φ) (C:Cu O W φ A S ψ N) {x:Int} {v:Vl} (hv:W.okV v) (hx:Wrd φ ψ S x v) (hs:v.1=3→S v.2):mNow A x=encV ψ v:=by
 by_cases h3:v.1=3
 ·have hl:=Wd.okV_ref hv h3
  have hS:=hs h3
  have hp:=C.place R hS
  have hok:=C.sm.ok
  have b1:=hok.h3;have b2:=hok.h4
  have e':=encV_ref ψ h3
  rcases hx with rfl | ⟨_,rfl⟩
  ·have e:=encV_ref φ h3
   have e4:encV φ v/4=φ v.2:=by rw [e];omega
   have e1:encV φ v%4=1:=by rw [e];omega
   unfold mNow
   rw [e4]
   cases ho:(W.th v.2).old
   ·have hf:=C.fwd v.2 ((C.nm _).2 ⟨hS,ho⟩)
    rw [if_pos ⟨e1,(C.young_phi R hl).2 ho,by rw [hf];omega⟩,hf,e']
    unfold refW
    rw [show 4*(-1-(-1-ψ v.2))+1=4*ψ v.2+1 by omega,IntKind.wrap_i64]
    omega
   ·have:¬ A.young (φ v.2)=true:=by rw [C.young_phi R hl,ho];decide
    rw [if_neg (fun h=>this h.2.1),e,e',C.po _ hl ho]
  ·have e4:encV ψ v/4=ψ v.2:=by rw [e'];omega
   unfold mNow
   rw [e4,C.young_psi R hS,if_neg (fun h=>by cases h.2.1)]
 ·have e:x=encV φ v:=by
   rcases hx with h | ⟨_,h⟩
   ·exact h
   ·rw [h];exact encV_plain h3
  subst e
  rw [mNow_plain (fun h=>h3 ((encV_mod hv).1 h))]
  exact encV_plain h3
theorem Cu.room (R:Rep O W φ) (C:Cu O W φ A S ψ N) (hr:(O.ar.yng:Int)≤(O.ar.ws.length:Int)-O.ar.grn) {i:Int} (hl:W.live i) (ho:(W.th i).old=false) (hs:¬ S i) :
  1+((W.th i).fs.length:Int)≤(A.ws.length:Int)-A.grn:=by
 have hn:¬ i ∈ N:=fun h=>hs ((C.nm i).1 h).1
 have h1:=C.tile.sum
 rw [List.map_map] at h1
 have e:N.map ((fun p=>1+(A.thing p).2.1) ∘ ψ)=N.map fun i=>(W.th i).words:=
  List.map_congr_left fun j hj=>by simp only [Function.comp];rw [C.th j ((C.nm j).1 hj).1];rfl
 rw [e] at h1
 have h2:=sum_sub (f:=fun i=>(W.th i).words) (fun i=>by unfold Th.words;omega) (l:=i :: N) (m:=W.idx false) (List.nodup_cons.2 ⟨hn,C.nd⟩) (by
  intro j hj
  rcases List.mem_cons.1 hj with rfl | hj
  ·exact Wd.mem_idx.2 ⟨hl,ho⟩
  ·have:=(C.nm j).1 hj;exact Wd.mem_idx.2 ⟨C.sl j this.1,this.2⟩)
 rw [Wd.sum_idx] at h2
 have h3:(sumW W.T fun t=>!t.dead && (t.old == false))=W.young:=by
  unfold Wd.young
  congr 1
  funext t;cases t.old <;> rfl
 rw [h3,←R.sy] at h2
 simp only [List.map_cons,List.sum_cons] at h2
 have h4:=C.sm.len
 have h5:(W.th i).words=1+((W.th i).fs.length:Int):=rfl
 omega
theorem Ar.copy_loads {A:Ar} (hA:A.ok) {p:Int} (h:(A.thing p).2.2=0∧A.whole p (A.thing p).2.1=true∧1+(A.thing p).2.1≤(A.ws.length:Int)-A.grn) :
  (A.copy p).1=A.grn∧(∀ q,A.inUse q=true→(A.copy p).2.load q=A.load q)∧(∀ j:Int,0≤j→j≤(A.thing p).2.1→(A.copy p).2.load (A.grn+j)=A.load (p+j))∧((A.copy p).2.grn:Int)=A.grn+(1+(A.thing p).2.1):=by
 have hf:=A.thing_fields p
 have hs:=Ar.whole_spec hA hf.1 h.2.1
 have a1:=hA.h1;have a2:=hA.h2;have a3:=hA.h3
 have hl:((A.ws.drop p.toNat).take (1+(A.thing p).2.1).toNat).length=(1+(A.thing p).2.1).toNat:=by simp;omega
 have hle:A.grn+((A.ws.drop p.toNat).take (1+(A.thing p).2.1).toNat).length≤A.ws.length:=by rw [hl];omega
 rw [Ar.copy_yes h]
 refine ⟨rfl,fun q hq=>?_,fun j h0 h1=>?_,by dsimp only;omega⟩
 ·have hu:Ar.inUse { A with grn:=A.grn+(1+(A.thing p).2.1).toNat,ws:=lay A.ws A.grn ((A.ws.drop p.toNat).take (1+(A.thing p).2.1).toNat) } q=true:=by
   unfold Ar.inUse at *
   rw [Bool.or_eq_true] at *
   rw [young_iff,old_iff] at *
   dsimp only
   omega
  unfold Ar.load
  rw [hu,hq]
  simp only [if_true]
  rw [lay_getD hle,if_neg]
  rw [hl]
  unfold Ar.inUse at hq
  rw [Bool.or_eq_true,young_iff,old_iff] at hq
  omega
 ·have hu:Ar.inUse { A with grn:=A.grn+(1+(A.thing p).2.1).toNat,ws:=lay A.ws A.grn ((A.ws.drop p.toNat).take (1+(A.thing p).2.1).toNat) } (A.grn+j)=true:=by
   unfold Ar.inUse
   rw [Bool.or_eq_true,old_iff]
   right
   dsimp only
   omega
  have hup:A.inUse (p+j)=true:=by
   unfold Ar.whole at h
   unfold Ar.inUse
   have h2:=h.2.1
   simp only [Bool.or_eq_true,Bool.and_eq_true,young_iff,old_iff] at h2 ⊢
   omega
  unfold Ar.load
  rw [hu,hup]
  simp only [if_true]
  rw [lay_getD hle,if_pos (by rw [hl];omega)]
  simp only [List.getD_eq_getElem?_getD]
  rw [List.getElem?_take,if_pos (by omega),List.getElem?_drop]
  congr 2;omega
end
end
section
section
variable {O:Wo} {W:Wd} {φ ψ ψ':Int→Int} {A A':Ar} {S S':Int→Prop} {N N':List Int}
def CuTo (O:Wo) (W:Wd) (φ:Int→Int) (A:Ar) (S:Int→Prop) (ψ:Int→Int) (N:List Int) (A':Ar) (Al:Int→Prop) (T:(Int→Prop)→(Int→Int)→List Int→Prop):Prop:=
 ∃ S' ψ' N',Cu O W φ A' S' ψ' N'∧Ext W A S ψ N A' S' ψ' N'∧(∀ k,S' k→S k∨Al k)∧T S' ψ' N'
theorem Cu.bring (R:Rep O W φ) (C:Cu O W φ A S ψ N) (hr:(O.ar.yng:Int)≤(O.ar.ws.length:Int)-O.ar.grn) {x:Int} {v:Vl} (hv:W.okV v) (hx:Wrd φ ψ S x v) :
  CuTo O W φ A S ψ N (mBring A x) (fun k=>v.1=3∧k=v.2) fun S' ψ' N'=>mNow (mBring A x) x=encV ψ' v∧(v.1=3→S' v.2)∧∀ q,A.old q=true→(mBring A x).load q=A.load q:=by
 by_cases ha:mAlive A x=true
 ·have e:mBring A x=A:=by unfold mBring;rw [if_pos ha]
  have hs:=(C.alive R hv hx).1 ha
  rw [e]
  exact ⟨S,ψ,N,C,Ext.refl,fun k hk=>.inl hk,C.now R hv hx hs,hs,fun _ _=>rfl⟩
 ·have hns:¬ (v.1=3→S v.2):=fun h=>ha ((C.alive R hv hx).2 h)
  have h3:v.1=3:=Decidable.byContradiction fun h=>hns (fun h'=>(h h').elim)
  have hs:¬ S v.2:=fun h=>hns (fun _=>h)
  obtain ⟨i,hi⟩:∃ i,v.2=i:=⟨_,rfl⟩
  have hl:=Wd.okV_ref hv h3
  rw [hi] at hs hl
  have ho:(W.th i).old=false:=by
   cases h:(W.th i).old
   ·rfl
   ·exact (hs (C.so i hl h)).elim
  have hxe:x=encV φ v:=by
   rcases hx with h | ⟨h,_⟩
   ·exact h
   ·exact (hns h).elim
  have e4:x/4=φ i:=by rw [hxe,encV_ref φ h3,hi];omega
  have hA:=C.sm.ok
  have hfl:=C.fresh_load R hl ho hs
  have hth:A.thing (φ i)=((W.th i).k,((W.th i).fs.length:Int),0):=(thing_of_load hfl.1).trans (R.th i hl)
  have hyA:∀ j:Int,0≤j→j≤(W.th i).fs.length→A.young (φ i+j)=true:=fun j h0 h1=>by
   have:=R.young hl ho h0 h1
   unfold Ar.young at *;rw [C.sm.yng];exact this
  have hy0:A.young (φ i)=true:=by have:=hyA 0 (by omega) (by omega);rwa [Int.add_zero] at this
  have hcond:(A.thing (φ i)).2.2=0∧A.whole (φ i) (A.thing (φ i)).2.1=true∧1+(A.thing (φ i)).2.1≤(A.ws.length:Int)-A.grn:=by
   rw [hth]
   refine ⟨rfl,?_,C.room R hr hl ho hs⟩
   unfold Ar.whole
   rw [hy0,hyA _ (by omega) (Int.le_refl _)];rfl
  obtain ⟨c1,c2,c3,c4⟩:=Ar.copy_loads hA hcond
  rw [hth] at c3 c4
  dsimp only at c3 c4
  have hB:(A.copy (φ i)).2.ok:=hA.copy _
  obtain ⟨B,hBe⟩:∃ B,(A.copy (φ i)).2=B:=⟨_,rfl⟩
  have e:mBring A x=B.store (φ i) (-1-A.grn):=by
   unfold mBring;rw [if_neg ha,e4,c1,hBe]
  rw [hBe] at c2 c3 c4 hB
  have hsB:Sm A B:=by rw [←hBe];exact Sm.copy hA _
  have hsm:Sm O.ar (mBring A x):=C.sm.trans (Sm.bring hA x)
  have hp:=R.place hl
  have y0:=young_iff.1 hy0
  have a1:=hA.h1;have a2:=hA.h2
  have useB:B.inUse (φ i)=true:=by unfold Ar.inUse;rw [Bool.or_eq_true,young_iff,hsB.yng];exact .inl y0
  have hload:=fun q=>Ar.load_store hB (φ i) q (-1-(A.grn:Int))
  have hlo:∀ q,q≠φ i→(B.store (φ i) (-1-(A.grn:Int))).load q=B.load q:=fun q hq=>by rw [hload,if_neg (fun h=>hq h.1)]
  have hlq:∀ q,A.inUse q=true→q≠φ i→(B.store (φ i) (-1-(A.grn:Int))).load q=A.load q:=fun q hq h=>(hlo q h).trans (c2 q hq)
  have hold:∀ q,A.old q=true→(B.store (φ i) (-1-(A.grn:Int))).load q=A.load q:=fun q hq=>by
   refine hlq q (by unfold Ar.inUse;rw [hq];simp) ?_
   have:=old_iff.1 hq
   omega
  have hnew:∀ j:Int,0≤j→j≤(W.th i).fs.length→(B.store (φ i) (-1-(A.grn:Int))).load (A.grn+j)=O.ar.load (φ i+j):=fun j h0 h1=>by
   rw [hlo _ (by omega),c3 j h0 h1,C.yet i hl ho hs j h0 h1]
  rw [e]
  rw [e] at hsm
  have hni:¬ i ∈ N:=fun h=>hs ((C.nm i).1 h).1
  have fe:∀ k,k≠i→extF i A.grn ψ k=ψ k:=fun k hk=>if_neg hk
  have fi:extF i A.grn ψ i=A.grn:=if_pos rfl
  have fS:∀ k,S k→extF i A.grn ψ k=ψ k:=fun k hk=>fe k (fun h=>hs (h ▸ hk))
  have hgr:((B.store (φ i) (-1-(A.grn:Int))).grn:Int)=A.grn+(1+(W.th i).fs.length):=by rw [Ar.store_grn];exact c4
  have hti:(B.store (φ i) (-1-(A.grn:Int))).thing A.grn=((W.th i).k,((W.th i).fs.length:Int),0):=by
   have:=hnew 0 (by omega) (by omega)
   rw [Int.add_zero,Int.add_zero] at this
   exact (thing_of_load' this).trans (R.th i hl)
  have hts:∀ k,S k→(B.store (φ i) (-1-(A.grn:Int))).thing (ψ k)=A.thing (ψ k):=fun k hk=>by
   refine thing_of_load (hold _ ?_)
   have:=C.inO R hk (j:=0) (by omega) (by omega)
   rwa [Int.add_zero] at this
  have wr:∀ {y:Int} {u:Vl},Wrd φ ψ S y u→Wrd φ (extF i A.grn ψ) (fun k=>S k∨k=i) y u:=fun hw=>by
   rcases hw with h1 | ⟨h1,h2⟩
   ·exact .inl h1
   ·exact .inr ⟨fun h=>.inl (h1 h),by rw [h2];exact (encV_congr (fun h=>fS _ (h1 h))).symm⟩
  refine ⟨fun k=>S k∨k=i,extF i A.grn ψ,N ++ [i],⟨hsm,fun k hk=>?_,fun k hk h=>.inl (C.so k hk h),fun k hk h=>?_,?_,fun k=>?_,?_,fun k hk=>?_,fun k hk hko hks j h0 h1=>?_,fun k hk=>?_,fun k hk j u hu=>?_⟩,
   ⟨fun k hk=>.inl hk,fS,⟨[i],rfl⟩,fun k hk j u hu hup=>?_,by have:=hsB.grn;rw [Ar.store_grn];exact this⟩,fun k hk=>?_,?_,fun _=>.inr hi,hold⟩
  ·rcases hk with hk | rfl
   ·exact C.sl k hk
   ·exact hl
  ·rw [fe k (fun e=>by rw [e,ho] at h;cases h)];exact C.po k hk h
  ·rw [List.nodup_append]
   exact ⟨C.nd,by simp,fun a ha b hb e=>hni (by rw [←List.mem_singleton.1 hb,←e];exact ha)⟩
  ·rw [List.mem_append,List.mem_singleton,C.nm]
   constructor
   ·rintro (⟨h1,h2⟩ | rfl)
    ·exact ⟨.inl h1,h2⟩
    ·exact ⟨.inr rfl,ho⟩
   ·rintro ⟨h1 | rfl,h2⟩
    ·exact .inl ⟨h1,h2⟩
    ·exact .inr rfl
  ·rw [List.map_append]
   have e1:N.map (extF i A.grn ψ)=N.map ψ:=List.map_congr_left fun k hk=>fS k ((C.nm k).1 hk).1
   rw [e1]
   refine Tile.app (Tile.congr (fun p hp'=>?_) C.tile) ⟨by rw [fi],by rw [fi,hti],?_⟩
   ·obtain ⟨k,hk,rfl⟩:=List.mem_map.1 hp'
    exact hts k ((C.nm k).1 hk).1
   ·rw [fi,hti]
    show (A.grn:Int)+1+(W.th i).fs.length=_
    rw [hgr];omega
  ·rcases hk with hk | rfl
   ·rw [fS k hk];exact (hts k hk).trans (C.th k hk)
   ·rw [fi];exact hti
  ·have hki:k≠i:=fun e=>hks (.inr e)
   have hkS:¬ S k:=fun h=>hks (.inl h)
   have hyk:=R.young hk hko h0 h1
   refine (hlq _ ?_ ?_).trans (C.yet k hk hko hkS j h0 h1)
   ·unfold Ar.inUse Ar.young at *;rw [C.sm.yng,hyk];rfl
   ·have:=R.apart hk hl hki
    have:=R.apart hl hk (Ne.symm hki)
    omega
  ·rcases List.mem_append.1 hk with hk | hk
   ·have hkS:=(C.nm k).1 hk
    have hki:k≠i:=fun e=>hs (e ▸ hkS.1)
    rw [fS k hkS.1]
    refine (hlq _ ?_ (fun e=>hki (R.inj k i (C.sl k hkS.1) hl e))).trans (C.fwd k hk)
    unfold Ar.inUse;rw [(C.young_phi R (C.sl k hkS.1)).2 hkS.2];rfl
   ·rw [List.mem_singleton.1 hk,fi,hload,if_pos ⟨rfl,useB⟩]
  ·rcases hk with hk | rfl
   ·have hj:j<(W.th k).fs.length:=(List.getElem?_eq_some_iff.1 hu).1
    rw [fS k hk,hold _ (by rw [Int.add_assoc];exact C.inO R hk (by omega) (by omega))]
    exact wr (C.fd k hk j u hu)
   ·have hj:j<(W.th k).fs.length:=(List.getElem?_eq_some_iff.1 hu).1
    rw [fi,Int.add_assoc,hnew (1+j) (by omega) (by omega),←Int.add_assoc]
    exact .inl (R.fl k hl j u hu)
  ·have hj:j<(W.th k).fs.length:=(List.getElem?_eq_some_iff.1 hu).1
   refine ⟨fun h=>.inl (hup.1 h),?_⟩
   rw [fS k hk,hold _ (by rw [Int.add_assoc];exact C.inO R hk (by omega) (by omega)),hup.2]
   exact (encV_congr (fun h=>fS _ (hup.1 h))).symm
  ·rcases hk with hk | rfl
   ·exact .inl hk
   ·exact .inr ⟨h3,hi.symm⟩
  ·unfold mNow
   have hyB:(B.store (φ i) (-1-(A.grn:Int))).young (φ i)=true:=by rw [young_iff,Ar.store_yng,hsB.yng];exact y0
   have hlp:(B.store (φ i) (-1-(A.grn:Int))).load (φ i)=-1-A.grn:=by rw [hload,if_pos ⟨rfl,useB⟩]
   rw [e4,hlp,if_pos ⟨by rw [hxe,encV_ref φ h3];omega,hyB,by omega⟩,encV_ref _ h3,hi,fi]
   have:=hB.h3;have:=hB.h4
   unfold refW
   rw [show 4*(-1-(-1-(A.grn:Int)))+1=4*(A.grn:Int)+1 by omega,IntKind.wrap_i64]
   omega
theorem Cu.put (R:Rep O W φ) (C:Cu O W φ A S ψ N) {i:Int} (hi:S i) {j:Nat} {v:Vl} (hj:(W.th i).fs[j]? = some v) (hs:v.1=3→S v.2) :
  Cu O W φ (A.store (ψ i+1+j) (encV ψ v)) S ψ N∧Ext W A S ψ N (A.store (ψ i+1+j) (encV ψ v)) S ψ N∧Up W (A.store (ψ i+1+j) (encV ψ v)) S ψ i j v:=by
 have hA:=C.sm.ok
 have hjl:j<(W.th i).fs.length:=(List.getElem?_eq_some_iff.1 hj).1
 have hpi:=C.place R hi
 have b1:=hA.h1;have b2:=hA.h2;have b3:=hA.h3;have b4:=hA.h4
 have hok:=R.hw.tv i (C.sl i hi) v (List.mem_of_getElem? hj)
 have hR:R64 (encV ψ v):=by
  unfold R64
  rcases hok with h | h | h | h
  ·have e:encV ψ v=2:=by simp [encV,h.1]
   rw [e];decide
  ·have e:encV ψ v=4*v.2:=by simp [encV,h.1]
   have:=h.2
   unfold big at this
   rw [e];omega
  ·have e:encV ψ v=3:=by simp [encV,h.1]
   rw [e];decide
  ·rw [encV_ref ψ h.1]
   have:=C.place R (hs h.1)
   omega
 have huse:A.inUse (ψ i+1+j)=true:=by rw [Int.add_assoc];exact C.inU R hi (by omega) (by omega)
 have hload:=fun q=>Ar.load_store hA (ψ i+1+(j:Int)) q (encV ψ v)
 have hne:∀ q,q≠ψ i+1+j→(A.store (ψ i+1+j) (encV ψ v)).load q=A.load q:=fun q hq=>by rw [hload,if_neg (fun h=>hq h.1)]
 have heq:(A.store (ψ i+1+j) (encV ψ v)).load (ψ i+1+j)=encV ψ v:=by rw [hload,if_pos ⟨rfl,huse⟩]
 have hth:∀ k,S k→(A.store (ψ i+1+j) (encV ψ v)).thing (ψ k)=A.thing (ψ k):=fun k hk=>by
  refine thing_of_load (hne _ ?_)
  by_cases e:k=i
  ·subst e;omega
  ·have:=C.apart R hk hi e;omega
 have hyo:∀ q,A.young q=true→(A.store (ψ i+1+j) (encV ψ v)).load q=A.load q:=fun q hq=>by
  refine hne _ ?_
  have:=young_iff.1 hq
  omega
 have hfd:∀ k,S k→∀ (n:Nat) (u:Vl),(W.th k).fs[n]? = some u→(k=i∧n=j∧u=v)∨(A.store (ψ i+1+j) (encV ψ v)).load (ψ k+1+n)=A.load (ψ k+1+n):=fun k hk n u hu=>by
  have hn:n<(W.th k).fs.length:=(List.getElem?_eq_some_iff.1 hu).1
  by_cases e:k=i
  ·subst e
   by_cases en:n=j
   ·subst en
    rw [hj] at hu;cases hu
    exact .inl ⟨rfl,rfl,rfl⟩
   ·exact .inr (hne _ (by omega))
  ·have:=C.apart R hk hi e
   exact .inr (hne _ (by omega))
 have hup:Up W (A.store (ψ i+1+j) (encV ψ v)) S ψ i j v:=⟨hs,heq⟩
 refine ⟨⟨C.sm.trans (Sm.store hA _ hR),C.sl,C.so,C.po,C.nd,C.nm,?_,fun k hk=>(hth k hk).trans (C.th k hk),fun k hk hko hks n h0 h1=>?_,fun k hk=>?_,fun k hk n u hu=>?_⟩,⟨fun _ h=>h,fun _ _=>rfl,⟨[],by simp⟩,fun k hk n u hu h=>?_,by rw [Ar.store_grn];exact Nat.le_refl _⟩,hup⟩
 ·rw [Ar.store_grn]
  refine Tile.congr (fun p hp=>?_) C.tile
  obtain ⟨k,hk,rfl⟩:=List.mem_map.1 hp
  exact hth k ((C.nm k).1 hk).1
 ·have hyk:=R.young hk hko h0 h1
  rw [hyo _ (by unfold Ar.young at *;rw [C.sm.yng];exact hyk)]
  exact C.yet k hk hko hks n h0 h1
 ·have hkS:=(C.nm k).1 hk
  rw [hyo _ ((C.young_phi R (C.sl k hkS.1)).2 hkS.2)]
  exact C.fwd k hk
 ·rcases hfd k hk n u hu with ⟨rfl,rfl,rfl⟩ | h
  ·exact .inr hup
  ·rw [h];exact C.fd k hk n u hu
 ·rcases hfd k hk n u hu with ⟨rfl,rfl,rfl⟩ | e
  ·exact hup
  ·exact ⟨h.1,e.trans h.2⟩
theorem Cu.field (R:Rep O W φ) (C:Cu O W φ A S ψ N) (hr:(O.ar.yng:Int)≤(O.ar.ws.length:Int)-O.ar.grn) {i:Int} (hi:S i) {j:Nat} {v:Vl} (hj:(W.th i).fs[j]? = some v) :
  CuTo O W φ A S ψ N (mField A (ψ i+1+j)) (fun k=>v.1=3∧k=v.2) fun S' ψ' N'=>Up W (mField A (ψ i+1+j)) S' ψ' i j v:=by
 have hok:=R.hw.tv i (C.sl i hi) v (List.mem_of_getElem? hj)
 obtain ⟨S1,ψ1,N1,C1,E1,h1,h2,h3,h4⟩:=C.bring R hr hok (C.fd i hi j v hj)
 have e:mField A (ψ i+1+j)=(mBring A (A.load (ψ i+1+j))).store (ψ1 i+1+j) (encV ψ1 v):=by
  unfold mField;rw [h2,E1.at_ i hi]
 rw [e]
 obtain ⟨C2,E2,hup⟩:=C1.put R (E1.sub i hi) hj h3
 exact ⟨S1,ψ1,N1,C2,E1.trans E2,h1,hup⟩
end
end
section
section
variable {O:Wo} {W:Wd} {φ ψ ψ':Int→Int} {A A':Ar} {S S' Al:Int→Prop} {N N':List Int} {qw:List (Int × Int)}
theorem Cu.fields (R:Rep O W φ) (hr:(O.ar.yng:Int)≤(O.ar.ws.length:Int)-O.ar.grn) {i:Int}:∀ (n:Nat) {A:Ar} {S:Int→Prop} {ψ:Int→Int} {N:List Int} (j:Nat),Cu O W φ A S ψ N→S i→j+n≤(W.th i).fs.length →
  CuTo O W φ A S ψ N (mFields n A (ψ i+1+j)) (fun k=>∃ v ∈ (W.th i).fs,v.1=3∧k=v.2) fun S' ψ' N'=>∀ (m:Nat) (v:Vl),j≤m→m<j+n→(W.th i).fs[m]? = some v→Up W (mFields n A (ψ i+1+j)) S' ψ' i m v
 | 0,A,S,ψ,N,j,C,hi,hn=>⟨S,ψ,N,C,Ext.refl,fun k h=>.inl h,fun m v h1 h2=>by omega⟩
 | n+1,A,S,ψ,N,j,C,hi,hn=>by
  have hj:(W.th i).fs[j]? = some (W.th i).fs[j]:=List.getElem?_eq_getElem (by omega)
  obtain ⟨S1,ψ1,N1,C1,E1,h1,u1⟩:=C.field R hr hi hj
  obtain ⟨S2,ψ2,N2,C2,E2,h2,u2⟩:=Cu.fields R hr n (j+1) C1 (E1.sub i hi) (by omega)
  have e:mFields (n+1) A (ψ i+1+j)=mFields n (mField A (ψ i+1+j)) (ψ1 i+1+((j+1:Nat):Int)):=by
   rw [E1.at_ i hi]
   show mFields n (mField A (ψ i+1+j)) (ψ i+1+j+1)=_
   congr 1;omega
  rw [e]
  refine ⟨S2,ψ2,N2,C2,E1.trans E2,fun k hk=>?_,fun m v h3 h4 hv=>?_⟩
  ·rcases h2 k hk with h | h
   ·rcases h1 k h with h | ⟨h,h'⟩
    ·exact .inl h
    ·exact .inr ⟨_,List.getElem_mem (by omega),h,h'⟩
   ·exact .inr h
  ·by_cases em:m=j
   ·subst em
    rw [hj] at hv;cases hv
    exact E2.up i (E1.sub i hi) _ _ hj u1
   ·exact u2 m v (by omega) (by omega) hv
structure Sc (O:Wo) (W:Wd) (φ:Int→Int) (Al:Int→Prop) (s:Ms) (S:Int→Prop) (ψ:Int→Int) (N:List Int):Prop where
 C:Cu O W φ s.A S ψ N
 al:∀ k,S k→Al k
 wk:∀ p ∈ s.wk, ∃ i,S i∧(W.th i).k=3∧p=ψ i
 ep:∀ p ∈ s.ep, ∃ i,S i∧(W.th i).k=4∧p=ψ i
structure SE (W:Wd) (s:Ms) (S:Int→Prop) (ψ:Int→Int) (N:List Int) (s':Ms) (S':Int→Prop) (ψ':Int→Int) (N':List Int):Prop where
 E:Ext W s.A S ψ N s'.A S' ψ' N'
 wk:∀ p ∈ s.wk,p ∈ s'.wk
 ep:∀ p ∈ s.ep,p ∈ s'.ep
variable {s s':Ms}
theorem SE.refl:SE W s S ψ N s S ψ N:=⟨Ext.refl,fun _ h=>h,fun _ h=>h⟩
theorem SE.trans {s2:Ms} {S2:Int→Prop} {ψ2:Int→Int} {N2:List Int} (h:SE W s S ψ N s' S' ψ' N') (k:SE W s' S' ψ' N' s2 S2 ψ2 N2):SE W s S ψ N s2 S2 ψ2 N2:=
 ⟨h.E.trans k.E,fun p hp=>k.wk p (h.wk p hp),fun p hp=>k.ep p (h.ep p hp)⟩
def Looked (W:Wd) (s:Ms) (S:Int→Prop) (ψ:Int→Int) (i:Int):Prop:=
 (((W.th i).k=1∨(W.th i).k=2)→∀ (j:Nat) (v:Vl),(W.th i).fs[j]? = some v→Up W s.A S ψ i j v) ∧
 ((W.th i).k=3→ψ i ∈ s.wk∧∀ v,(W.th i).fs[1]? = some v→Up W s.A S ψ i 1 v)∧((W.th i).k=4→ψ i ∈ s.ep)
def Clean (W:Wd) (i:Int):Prop:=(W.th i).old=true∧∀ v ∈ (W.th i).fs,v.1=3→(W.th v.2).old=true
theorem Looked.mono (h:SE W s S ψ N s' S' ψ' N') {i:Int} (hi:S i) (hl:Looked W s S ψ i):Looked W s' S' ψ' i:=
 ⟨fun hk j v hv=>h.E.up i hi j v hv (hl.1 hk j v hv),fun hk=>⟨by rw [h.E.at_ i hi];exact h.wk _ (hl.2.1 hk).1,fun v hv=>h.E.up i hi 1 v hv ((hl.2.1 hk).2 v hv)⟩,fun hk=>by rw [h.E.at_ i hi];exact h.ep _ (hl.2.2 hk)⟩
theorem Sc.lists (H:Sc O W φ Al s S ψ N) {A':Ar} (E:Ext W s.A S ψ N A' S' ψ' N'):(∀ p ∈ s.wk, ∃ i,S' i∧(W.th i).k=3∧p=ψ' i)∧∀ p ∈ s.ep, ∃ i,S' i∧(W.th i).k=4∧p=ψ' i:=by
 constructor
 ·intro p hp
  obtain ⟨i,h1,h2,h3⟩:=H.wk p hp
  exact ⟨i,E.sub i h1,h2,by rw [E.at_ i h1];exact h3⟩
 ·intro p hp
  obtain ⟨i,h1,h2,h3⟩:=H.ep p hp
  exact ⟨i,E.sub i h1,h2,by rw [E.at_ i h1];exact h3⟩
theorem fits_two {k f:Int} (h:fitsW k f=true) (hk:k=3∨k=4∨k=1):f=2:=by
 unfold fitsW at h
 rcases hk with rfl | rfl | rfl <;> simp at h <;> exact h
theorem Wd.two {W:Wd} (h:W.ok) {i:Int} (hl:W.live i) (hk:(W.th i).k=3∨(W.th i).k=4∨(W.th i).k=1):(W.th i).fs.length=2:=by
 have:=fits_two (h.tk i hl) hk
 omega
theorem Sc.look (R:Rep O W φ) (hr:(O.ar.yng:Int)≤(O.ar.ws.length:Int)-O.ar.grn) (hal:Closed W.nd qw Al) (H:Sc O W φ Al s S ψ N) {i:Int} (hi:S i) :
  ∃ S' ψ' N',Sc O W φ Al (mLook s (ψ i)) S' ψ' N'∧SE W s S ψ N (mLook s (ψ i)) S' ψ' N'∧Looked W (mLook s (ψ i)) S' ψ' i:=by
 have hth:=H.C.th i hi
 have hl:=H.C.sl i hi
 unfold mLook
 rw [hth]
 dsimp only
 by_cases k12:(W.th i).k=1∨(W.th i).k=2
 ·rw [if_pos k12]
  obtain ⟨S1,ψ1,N1,C1,E1,h1,u1⟩:=Cu.fields R hr (W.th i).fs.length 0 H.C hi (by omega)
  rw [show ψ i+1+((0:Nat):Int)=ψ i+1 by omega] at C1 E1 u1
  rw [Int.toNat_natCast]
  have hL:=H.lists E1
  refine ⟨S1,ψ1,N1,⟨C1,fun k hk=>?_,hL.1,hL.2⟩,⟨E1,fun _ h=>h,fun _ h=>h⟩,fun _ j v hv=>u1 j v (by omega) (by have:=(List.getElem?_eq_some_iff.1 hv).1;omega) hv,fun h=>by omega,fun h=>by omega⟩
  rcases h1 k hk with h | ⟨v,hv,h3,rfl⟩
  ·exact H.al k h
  ·exact hal i _ (H.al i hi) (.inl ⟨k12,by show ((3,v.2):Vl) ∈ (W.th i).fs;rw [←h3];exact hv⟩)
 ·rw [if_neg k12]
  by_cases k3:(W.th i).k=3
  ·rw [if_pos k3]
   have h2:=Wd.two R.hw hl (.inl k3)
   have hj:(W.th i).fs[1]? = some (W.th i).fs[1]:=List.getElem?_eq_getElem (by omega)
   obtain ⟨S1,ψ1,N1,C1,E1,h1,u1⟩:=H.C.field R hr hi hj
   rw [show ψ i+1+((1:Nat):Int)=ψ i+2 by omega] at C1 E1 u1
   have hL:=H.lists E1
   refine ⟨S1,ψ1,N1,⟨C1,fun k hk=>?_,fun p hp=>?_,hL.2⟩,⟨E1,fun p hp=>by simp [hp],fun _ h=>h⟩,fun h=>(k12 h).elim,fun _=>⟨by rw [E1.at_ i hi];simp,fun v hv=>?_⟩,fun h=>by omega⟩
   ·rcases h1 k hk with h | ⟨h3,rfl⟩
    ·exact H.al k h
    ·refine hal i _ (H.al i hi) (.inr (.inl ⟨k3,?_⟩))
     show (W.th i).fs[1]? = _
     rw [hj];congr 1;exact Prod.ext h3 rfl
   ·rcases List.mem_append.1 hp with h | h
    ·exact hL.1 p h
    ·rw [List.mem_singleton.1 h];exact ⟨i,E1.sub i hi,k3,(E1.at_ i hi).symm⟩
   ·rw [hj] at hv;cases hv;exact u1
  ·rw [if_neg k3]
   by_cases k4:(W.th i).k=4
   ·rw [if_pos k4]
    refine ⟨S,ψ,N,⟨H.C,H.al,H.wk,fun p hp=>?_⟩,⟨Ext.refl,fun _ h=>h,fun p hp=>by simp [hp]⟩,fun h=>(k12 h).elim,fun h=>(k3 h).elim,fun _=>by simp⟩
    rcases List.mem_append.1 hp with h | h
    ·exact H.ep p h
    ·rw [List.mem_singleton.1 h];exact ⟨i,hi,k4,rfl⟩
   ·rw [if_neg k4]
    exact ⟨S,ψ,N,H,SE.refl,fun h=>(k12 h).elim,fun h=>(k3 h).elim,fun h=>(k4 h).elim⟩
theorem Tile.split {A:Ar} {m:List Int}:∀ {l:List Int} {a b:Int},Tile A (l ++ m) a b→∃ c,Tile A l a c∧Tile A m c b
 | [],a,b,h=>⟨a,rfl,h⟩
 | p :: l,a,b,h=>by
  obtain ⟨c,h1,h2⟩:=Tile.split h.2.2
  exact ⟨c,⟨h.1,h.2.1,h1⟩,h2⟩
theorem Tile.end_ {A:Ar}:∀ {l:List Int} {a b c:Int},Tile A l a b→Tile A l a c→b=c
 | [],a,b,c,h,k=>by have h1:a=b:=h;have h2:a=c:=k;omega
 | p :: l,a,b,c,h,k=>Tile.end_ h.2.2 k.2.2
structure Sn (O:Wo) (W:Wd) (s:Ms) (S:Int→Prop) (ψ:Int→Int) (N:List Int) (c:Int):Prop where
 sp:∃ N1 N2,N=N1 ++ N2∧Tile s.A (N1.map ψ) O.ar.grn c∧∀ i ∈ N1,Looked W s S ψ i
 old:∀ i,W.live i→(W.th i).old=true→Looked W s S ψ i∨Clean W i
theorem Sn.more (C:Cu O W φ s.A S ψ N) (C':Cu O W φ s'.A S' ψ' N') (E:SE W s S ψ N s' S' ψ' N') {c:Int} (h:Sn O W s S ψ N c):Sn O W s' S' ψ' N' c:=by
 obtain ⟨N1,N2,e,ht,hl⟩:=h.sp
 obtain ⟨m,em⟩:=E.E.pre
 have inS:∀ i ∈ N1,S i:=fun i hi=>((C.nm i).1 (by rw [e];simp [hi])).1
 refine ⟨⟨N1,N2 ++ m,by rw [em,e];simp,?_,fun i hi=>(hl i hi).mono E (inS i hi)⟩,fun i hi ho=>?_⟩
 ·have e1:N1.map ψ'=N1.map ψ:=List.map_congr_left fun i hi=>E.E.at_ i (inS i hi)
  rw [e1]
  refine Tile.congr (fun p hp=>?_) ht
  obtain ⟨i,hi,rfl⟩:=List.mem_map.1 hp
  rw [C.th i (inS i hi),←E.E.at_ i (inS i hi),C'.th i (E.E.sub i (inS i hi))]
 ·rcases h.old i hi ho with h1 | h1
  ·exact .inl (h1.mono E (C.so i hi ho))
  ·exact .inr h1
theorem Sn.all (R:Rep O W φ) (C:Cu O W φ s.A S ψ N) {c:Int} (h:Sn O W s S ψ N c) (hc:c=s.A.grn):∀ i ∈ N,Looked W s S ψ i:=by
 obtain ⟨N1,N2,e,ht,hl⟩:=h.sp
 have hw:=C.tile
 rw [e,List.map_append] at hw
 obtain ⟨m,h1,h2⟩:=hw.split
 have:=h1.end_ ht
 subst this
 cases N2 with
 | nil=>rw [e];simpa using hl
 | cons i N2=>
  have h3:=Tile.le h2.2.2
  have h4:=s.A.thing_fields (ψ i)
  have h5:ψ i=m:=h2.1
  omega
theorem Sc.scan (R:Rep O W φ) (hr:(O.ar.yng:Int)≤(O.ar.ws.length:Int)-O.ar.grn) (hal:Closed W.nd qw Al):∀ (n:Nat) {s:Ms} {S:Int→Prop} {ψ:Int→Int} {N:List Int} (c:Int),
  Sc O W φ Al s S ψ N→Sn O W s S ψ N c→c≤s.A.grn→((O.ar.ws.length:Int)-c).toNat<n →
  ∃ S' ψ' N',Sc O W φ Al (mScan n s c).1 S' ψ' N'∧SE W s S ψ N (mScan n s c).1 S' ψ' N'∧Sn O W (mScan n s c).1 S' ψ' N' (mScan n s c).2∧(mScan n s c).2=(mScan n s c).1.A.grn
 | 0,s,S,ψ,N,c,H,hs,hc,hn=>by omega
 | n+1,s,S,ψ,N,c,H,hs,hc,hn=>by
  unfold mScan
  by_cases hlt:c<s.A.grn
  ·rw [if_pos hlt]
   obtain ⟨N1,N2,e,ht,hl⟩:=hs.sp
   have hw:=H.C.tile
   rw [e,List.map_append] at hw
   obtain ⟨m,h1,h2⟩:=hw.split
   have hm:=h1.end_ ht
   subst hm
   cases N2 with
   | nil=>have h2':m=(s.A.grn:Int):=h2;omega
   | cons i N2=>
    have hic:ψ i=m:=h2.1
    have hi:S i:=((H.C.nm i).1 (by rw [e];simp)).1
    subst hic
    have hth:=H.C.th i hi
    obtain ⟨S1,ψ1,M1,H1,E1,hL⟩:=H.look R hr hal hi
    have hsn:=hs.more H.C H1.C E1
    have inS:∀ k ∈ N1,S k:=fun k hk=>((H.C.nm k).1 (by rw [e];simp [hk])).1
    have hth1:=H1.C.th i (E1.E.sub i hi)
    rw [E1.E.at_ i hi] at hth1
    obtain ⟨mm,em⟩:=E1.E.pre
    have hsn':Sn O W (mLook s (ψ i)) S1 ψ1 M1 (ψ i+(1+(s.A.thing (ψ i)).2.1)):=by
     refine ⟨⟨N1 ++ [i],N2 ++ mm,by rw [em,e];simp,?_,fun k hk=>?_⟩,hsn.old⟩
     ·have e1:N1.map ψ1=N1.map ψ:=List.map_congr_left fun k hk=>E1.E.at_ k (inS k hk)
      rw [List.map_append,e1]
      refine Tile.app (Tile.congr (fun p hp=>?_) ht) ⟨E1.E.at_ i hi,by rw [E1.E.at_ i hi,hth1],?_⟩
      ·obtain ⟨k,hk,rfl⟩:=List.mem_map.1 hp
       rw [H.C.th k (inS k hk),←E1.E.at_ k (inS k hk),H1.C.th k (E1.E.sub k (inS k hk))]
      ·rw [E1.E.at_ i hi,hth1,hth]
       show ψ i+1+((W.th i).fs.length:Int)=ψ i+(1+(W.th i).fs.length)
       omega
     ·rcases List.mem_append.1 hk with h | h
      ·exact (hl k h).mono E1 (inS k h)
      ·rw [List.mem_singleton.1 h];exact hL
    have hp:=H1.C.place R (E1.E.sub i hi)
    rw [E1.E.at_ i hi] at hp
    have hth':=hth
    rw [hth] at hsn' ⊢
    dsimp only at hsn' ⊢
    obtain ⟨S2,ψ2,M2,H2,E2,hn2,hc2⟩:=Sc.scan R hr hal n _ H1 hsn' (by omega) (by have:=H.C.sm.ok.h3;have:=H.C.sm.len;omega)
    exact ⟨S2,ψ2,M2,H2,E1.trans E2,hn2,hc2⟩
  ·rw [if_neg hlt]
   exact ⟨S,ψ,N,H,SE.refl,hs,by show c=(s.A.grn:Int);omega⟩
theorem Sc.withA (H:Sc O W φ Al s S ψ N) {A':Ar} (C:Cu O W φ A' S' ψ' N') (E:Ext W s.A S ψ N A' S' ψ' N') (hal:∀ k,S' k→Al k):Sc O W φ Al { s with A:=A' } S' ψ' N'∧SE W s S ψ N { s with A:=A' } S' ψ' N':=
 ⟨⟨C,hal,(H.lists E).1,(H.lists E).2⟩,⟨E,fun _ h=>h,fun _ h=>h⟩⟩
theorem Cu.eph (R:Rep O W φ) (hr:(O.ar.yng:Int)≤(O.ar.ws.length:Int)-O.ar.grn) (hal:Closed W.nd qw Al):∀ (l:List Int) {A:Ar} {S:Int→Prop} {ψ:Int→Int} {N:List Int},
  Cu O W φ A S ψ N→(∀ k,S k→Al k)→(∀ p ∈ l, ∃ i,S i∧(W.th i).k=4∧p=ψ i) →
  ∃ S' ψ' N',Cu O W φ (mEph A l) S' ψ' N'∧Ext W A S ψ N (mEph A l) S' ψ' N'∧(∀ k,S' k→Al k) ∧
   ∀ i,S i→(W.th i).k=4→ψ i ∈ l→(∀ v,(W.th i).fs[0]? = some v→v.1=3→S v.2)→∀ v,(W.th i).fs[1]? = some v→v.1=3→S' v.2
 | [],A,S,ψ,N,C,ha,hl=>⟨S,ψ,N,C,Ext.refl,ha,fun i _ _ h=>by cases h⟩
 | p :: l,A,S,ψ,N,C,ha,hl=>by
  obtain ⟨i,hi,k4,rfl⟩:=hl p (by simp)
  have hli:=C.sl i hi
  have h2:=Wd.two R.hw hli (.inr (.inl k4))
  have hj0:(W.th i).fs[0]? = some (W.th i).fs[0]:=List.getElem?_eq_getElem (by omega)
  have hj1:(W.th i).fs[1]? = some (W.th i).fs[1]:=List.getElem?_eq_getElem (by omega)
  have hok:=R.hw.tv i hli _ (List.mem_of_getElem? hj0)
  have hfd:=C.fd i hi 0 _ hj0
  rw [show ψ i+1+((0:Nat):Int)=ψ i+1 by omega] at hfd
  have halive:=C.alive R hok hfd
  have step:∃ S1 ψ1 N1,Cu O W φ (mEph1 A (ψ i)) S1 ψ1 N1∧Ext W A S ψ N (mEph1 A (ψ i)) S1 ψ1 N1∧(∀ k,S1 k→Al k)∧((∀ v,(W.th i).fs[0]? = some v→v.1=3→S v.2)→∀ v,(W.th i).fs[1]? = some v→v.1=3→S1 v.2):=by
   unfold mEph1
   by_cases hm:mAlive A (A.load (ψ i+1))=true
   ·rw [if_pos hm]
    have hkey:=halive.1 hm
    obtain ⟨S1,ψ1,N1,C1,E1,h1,u1⟩:=C.field R hr hi hj0
    rw [show ψ i+1+((0:Nat):Int)=ψ i+1 by omega] at C1 E1 u1
    obtain ⟨S2,ψ2,N2,C2,E2,h3,u2⟩:=C1.field R hr (E1.sub i hi) hj1
    rw [E1.at_ i hi,show ψ i+1+((1:Nat):Int)=ψ i+2 by omega] at C2 E2 u2
    refine ⟨S2,ψ2,N2,C2,E1.trans E2,fun k hk=>?_,fun _ v hv h=>by rw [hj1] at hv;cases hv;exact u2.1 h⟩
    rcases h3 k hk with h | ⟨h4,rfl⟩
    ·rcases h1 k h with h | ⟨h4,rfl⟩
     ·exact ha k h
     ·exact ha _ (hkey h4)
    ·refine hal i _ (ha i hi) (.inr (.inr (.inl ⟨k4,?_,fun v hv h5=>?_⟩)))
     ·show (W.th i).fs[1]? = _
      rw [hj1];congr 1;exact Prod.ext h4 rfl
     ·have hv':(W.th i).fs[0]? = some v:=hv
      rw [hj0] at hv';cases hv'
      exact ha _ (hkey h5)
   ·rw [if_neg hm]
    exact ⟨S,ψ,N,C,Ext.refl,ha,fun h=>(hm (halive.2 (fun h3=>h _ hj0 h3))).elim⟩
  obtain ⟨S1,ψ1,N1,C1,E1,ha1,hk1⟩:=step
  obtain ⟨S2,ψ2,N2,C2,E2,ha2,hk2⟩:=Cu.eph R hr hal l C1 ha1 (fun p hp=>by
   obtain ⟨k,h3,h4,h5⟩:=hl p (by simp [hp])
   exact ⟨k,E1.sub k h3,h4,by rw [E1.at_ k h3];exact h5⟩)
  have e:mEph A (ψ i :: l)=mEph (mEph1 A (ψ i)) l:=rfl
  rw [e]
  refine ⟨S2,ψ2,N2,C2,E1.trans E2,ha2,fun k hk k4' hkl hkey v hv h3=>?_⟩
  rcases List.mem_cons.1 hkl with h | h
  ·have hki:=C.inj R hk hi h
   subst hki
   exact E2.sub _ (hk1 hkey v hv h3)
  ·exact hk2 k (E1.sub k hk) k4' (by rw [E1.at_ k hk];exact h) (fun v hv h3=>E1.sub _ (hkey v hv h3)) v hv h3
def Qrel (φ ψ:Int→Int) (S:Int→Prop):List (Int × Int)→List (Int × Int)→Prop
 | [],[]=>True
 | e :: l,f :: m=>(e.1=encV φ (3,f.1)∧Wrd φ ψ S e.2 (3,f.2))∧Qrel φ ψ S l m
 | _,_=>False
theorem Qrel.mono (E:Ext W A S ψ N A' S' ψ' N'):∀ {l m:List (Int × Int)},Qrel φ ψ S l m→Qrel φ ψ' S' l m
 | [],[],_=>trivial
 | e :: l,f :: m,h=>⟨⟨h.1.1,E.wrd h.1.2⟩,Qrel.mono E h.2⟩
theorem Qrel.app {e f:Int × Int} (he:e.1=encV φ (3,f.1)∧Wrd φ ψ S e.2 (3,f.2)):∀ {l m:List (Int × Int)},Qrel φ ψ S l m→Qrel φ ψ S (l ++ [e]) (m ++ [f])
 | [],[],_=>⟨he,trivial⟩
 | _ :: l,_ :: m,h=>⟨h.1,Qrel.app he h.2⟩
theorem Cu.wake (R:Rep O W φ) (hr:(O.ar.yng:Int)≤(O.ar.ws.length:Int)-O.ar.grn) (hal:Closed W.nd qw Al) (hqw:∀ e ∈ qw,W.okE e):∀ (l m:List (Int × Int)) {A:Ar} {S:Int→Prop} {ψ:Int→Int} {N:List Int},
  Cu O W φ A S ψ N→(∀ k,S k→Al k)→Qrel φ ψ S l m→(∀ f ∈ m,f ∈ qw) →
  ∃ S' ψ' N',Cu O W φ (wakeM mAlive mKp A l).1 S' ψ' N'∧Ext W A S ψ N (wakeM mAlive mKp A l).1 S' ψ' N'∧(∀ k,S' k→Al k)∧Qrel φ ψ' S' (wakeM mAlive mKp A l).2.1 m∧∀ f ∈ m,S f.1→S' f.2
 | [],[],A,S,ψ,N,C,ha,hq,hm=>⟨S,ψ,N,C,Ext.refl,ha,trivial,fun f h=>by cases h⟩
 | e :: l,f :: m,A,S,ψ,N,C,ha,hq,hm=>by
  have hf:=hqw f (hm f (by simp))
  have okg:W.okV (3,f.1):=.inr (.inr (.inr ⟨rfl,hf.1⟩))
  have okt:W.okV (3,f.2):=.inr (.inr (.inr ⟨rfl,hf.2.2⟩))
  have ag:=C.alive R okg (x:=e.1) (.inl hq.1.1)
  have at_:=C.alive R okt hq.1.2
  simp only [forall_const] at ag at_
  unfold wakeM
  by_cases hc:(mAlive A e.1 && !mAlive A e.2)=true
  ·rw [if_pos hc]
   rw [Bool.and_eq_true] at hc
   have hg:=ag.1 hc.1
   obtain ⟨S1,ψ1,N1,C1,E1,h1,h2,h3,_⟩:=C.bring R hr okt hq.1.2
   have ha1:∀ k,S1 k→Al k:=fun k hk=>by
    rcases h1 k hk with h | ⟨_,rfl⟩
    ·exact ha k h
    ·exact hal f.1 _ (ha _ hg) (.inr (.inr (.inr ⟨hf.2.1,by show (f.1,f.2) ∈ qw;exact hm f (by simp)⟩)))
   obtain ⟨S2,ψ2,N2,C2,E2,ha2,hq2,hk2⟩:=Cu.wake R hr hal hqw l m C1 ha1 (hq.2.mono E1) (fun f hf=>hm f (by simp [hf]))
   have hw:Wrd φ ψ1 S1 (mKp A e.2).2 (3,f.2):=.inr ⟨h3,h2⟩
   refine ⟨S2,ψ2,N2,C2,E1.trans E2,ha2,⟨⟨hq.1.1,E2.wrd hw⟩,hq2⟩,fun f' hf' hs=>?_⟩
   rcases List.mem_cons.1 hf' with rfl | h
   ·exact E2.sub _ (h3 rfl)
   ·exact hk2 f' h (E1.sub _ hs)
  ·rw [if_neg hc]
   obtain ⟨S2,ψ2,N2,C2,E2,ha2,hq2,hk2⟩:=Cu.wake R hr hal hqw l m C ha hq.2 (fun f hf=>hm f (by simp [hf]))
   refine ⟨S2,ψ2,N2,C2,E2,ha2,⟨⟨hq.1.1,E2.wrd hq.1.2⟩,hq2⟩,fun f' hf' hs=>?_⟩
   rcases List.mem_cons.1 hf' with rfl | h
   ·have h1:=ag.2 hs
    rw [h1] at hc
    simp at hc
    exact E2.sub _ (at_.1 hc)
   ·exact hk2 f' h hs
end
end
section
section
variable {O:Wo} {W:Wd} {φ ψ ψ':Int→Int} {A A':Ar} {S S' Al:Int→Prop} {N N':List Int} {qw:List (Int × Int)}
theorem Ext.same (R:Rep O W φ) (C:Cu O W φ A S ψ N) (C':Cu O W φ A' S' ψ' N') (E:Ext W A S ψ N A' S' ψ' N') (h:A'.grn=A.grn):∀ k,S' k→S k:=by
 obtain ⟨m,em⟩:=E.pre
 have hm:m=[]:=by
  have ht':=C'.tile
  rw [em,List.map_append] at ht'
  obtain ⟨c,h1,h2⟩:=ht'.split
  have e1:N.map ψ'=N.map ψ:=List.map_congr_left fun i hi=>E.at_ i ((C.nm i).1 hi).1
  have h3:Tile A' (N.map ψ') O.ar.grn A.grn:=by
   rw [e1]
   refine Tile.congr (fun p hp=>?_) C.tile
   obtain ⟨i,hi,rfl⟩:=List.mem_map.1 hp
   have hS:=((C.nm i).1 hi).1
   rw [C.th i hS,←E.at_ i hS,C'.th i (E.sub i hS)]
  have:=h1.end_ h3
  subst this
  cases m with
  | nil=>rfl
  | cons p m=>
   have h5:ψ' p=(A.grn:Int):=h2.1
   have h6:=Tile.le h2.2.2
   have h7:=A'.thing_fields (ψ' p)
   rw [h] at h6
   omega
 intro k hk
 cases ho:(W.th k).old
 ·have:=(C'.nm k).2 ⟨hk,ho⟩
  rw [em,hm,List.append_nil] at this
  exact ((C.nm k).1 this).1
 ·exact C.so k (C'.sl k hk) ho
theorem Sc.round (R:Rep O W φ) (hr:(O.ar.yng:Int)≤(O.ar.ws.length:Int)-O.ar.grn) (hal:Closed W.nd qw Al) (hqw:∀ e ∈ qw,W.okE e) {d:Md} (H:Sc O W φ Al d.s S ψ N) (hs:Sn O W d.s S ψ N d.c) (hc:d.c≤d.s.A.grn) (hq:Qrel φ ψ S d.q qw) :
  ∃ S' ψ' N',Sc O W φ Al (mRound d).s S' ψ' N'∧SE W d.s S ψ N (mRound d).s S' ψ' N'∧Sn O W (mRound d).s S' ψ' N' (mRound d).c∧(mRound d).c≤(mRound d).s.A.grn∧(d.s.A.grn:Int)≤(mRound d).c∧Qrel φ ψ' S' (mRound d).q qw ∧
   (¬ (mRound d).c<(mRound d).s.A.grn→Closed W.nd qw S'):=by
 have hlen:=H.C.sm.len
 have h3':=H.C.sm.ok.h3
 have h4':=H.C.sm.ok.h4
 have hc0:(0:Int)≤d.c:=by
  obtain ⟨N1,N2,e,ht,hl⟩:=hs.sp
  have:=ht.le
  omega
 obtain ⟨S1,ψ1,N1,H1,E1,n1,c1⟩:=H.scan R hr hal 2000 d.c hs hc (by omega)
 obtain ⟨S2,ψ2,N2,C2,X2,a2,k2⟩:=Cu.eph R hr hal (mScan 2000 d.s d.c).1.ep H1.C H1.al H1.ep
 obtain ⟨S3,ψ3,N3,C3,X3,a3,q3,k3⟩:=Cu.wake R hr hal hqw d.q qw C2 a2 ((hq.mono E1.E).mono X2) (fun f hf=>hf)
 obtain ⟨H3,E3⟩:=H1.withA C3 (X2.trans X3) a3
 have e1:(mRound d).s={ (mScan 2000 d.s d.c).1 with A:=(wakeM mAlive mKp (mEph (mScan 2000 d.s d.c).1.A (mScan 2000 d.s d.c).1.ep) d.q).1 }:=rfl
 have e2:(mRound d).c=(mScan 2000 d.s d.c).2:=rfl
 have e3:(mRound d).q=(wakeM mAlive mKp (mEph (mScan 2000 d.s d.c).1.A (mScan 2000 d.s d.c).1.ep) d.q).2.1:=rfl
 have g3:=(X2.trans X3).grn
 have n3:=n1.more H1.C H3.C E3
 rw [e1,e2,e3]
 refine ⟨S3,ψ3,N3,H3,E1.trans E3,n3,by rw [c1];exact Int.ofNat_le.2 g3,by rw [c1];exact Int.ofNat_le.2 E1.E.grn,q3,fun hno=>?_⟩
 have hg:(wakeM mAlive mKp (mEph (mScan 2000 d.s d.c).1.A (mScan 2000 d.s d.c).1.ep) d.q).1.grn=(mScan 2000 d.s d.c).1.A.grn:=by
  rw [c1] at hno
  have:¬ ((mScan 2000 d.s d.c).1.A.grn:Int)<((wakeM mAlive mKp (mEph (mScan 2000 d.s d.c).1.A (mScan 2000 d.s d.c).1.ep) d.q).1.grn:Int):=hno
  omega
 have back1:=(X2.trans X3).same R H1.C C3 hg
 have back2:∀ k,S3 k→S2 k:=fun k hk=>X2.sub k (back1 k hk)
 have all:=n3.all R C3 (by show (mScan 2000 d.s d.c).2=_;rw [c1];exact (congrArg Int.ofNat hg).symm)
 have seen:∀ i,S3 i→Looked W { (mScan 2000 d.s d.c).1 with A:=(wakeM mAlive mKp (mEph (mScan 2000 d.s d.c).1.A (mScan 2000 d.s d.c).1.ep) d.q).1 } S3 ψ3 i∨Clean W i:=fun i hi=>by
  cases ho:(W.th i).old
  ·exact .inl (all i ((C3.nm i).2 ⟨hi,ho⟩))
  ·exact n3.old i (C3.sl i hi) ho
 intro i j hi hl
 have hli:=C3.sl i hi
 have inF:∀ {n:Nat},(W.th i).fs[n]? = some (3,j)→Clean W i→S3 j:=fun hv hcl=>
  C3.so j (Wd.okV_ref (R.hw.tv i hli _ (List.mem_of_getElem? hv)) rfl) (hcl.2 _ (List.mem_of_getElem? hv) rfl)
 rcases hl with ⟨hk,hm⟩ | ⟨hk,hm⟩ | ⟨hk,hm,hkey⟩ | ⟨hk,hm⟩
 ·obtain ⟨n,hn,he⟩:=List.mem_iff_getElem.1 (show ((3,j):Vl) ∈ (W.th i).fs from hm)
  have hv:(W.th i).fs[n]? = some (3,j):=by rw [List.getElem?_eq_getElem hn,he]
  rcases seen i hi with h | h
  ·exact (h.1 hk n _ hv).1 rfl
  ·exact inF hv h
 ·rcases seen i hi with h | h
  ·exact ((h.2.1 hk).2 _ hm).1 rfl
  ·exact inF hm h
 ·rcases seen i hi with h | h
  ·have hep:=h.2.2 hk
   have hi1:=back1 i hi
   have h2:ψ1 i ∈ (mScan 2000 d.s d.c).1.ep:=by
    rw [←(X2.trans X3).at_ i hi1];exact hep
   exact X3.sub _ (k2 i hi1 hk h2 (fun v hv h3=>back1 _ (hkey v hv h3)) _ hm rfl)
  ·exact inF hm h
 ·exact k3 (i,j) hm (back2 i hi)
theorem Sc.drain (R:Rep O W φ) (hr:(O.ar.yng:Int)≤(O.ar.ws.length:Int)-O.ar.grn) (hal:Closed W.nd qw Al) (hqw:∀ e ∈ qw,W.okE e):∀ (n:Nat) {d:Md} {S:Int→Prop} {ψ:Int→Int} {N:List Int},
  Sc O W φ Al d.s S ψ N→Sn O W d.s S ψ N d.c→d.c≤d.s.A.grn→Qrel φ ψ S d.q qw→((O.ar.ws.length:Int)-d.s.A.grn).toNat<n →
  ∃ S' ψ' N',Sc O W φ Al (mDrain n d).s S' ψ' N'∧SE W d.s S ψ N (mDrain n d).s S' ψ' N'∧Sn O W (mDrain n d).s S' ψ' N' (mDrain n d).c∧(mDrain n d).c=(mDrain n d).s.A.grn∧Qrel φ ψ' S' (mDrain n d).q qw∧Closed W.nd qw S'
 | 0,d,S,ψ,N,H,hs,hc,hq,hn=>by omega
 | n+1,d,S,ψ,N,H,hs,hc,hq,hn=>by
  obtain ⟨S1,ψ1,N1,H1,E1,n1,l1,g1,q1,k1⟩:=H.round R hr hal hqw hs hc hq
  unfold mDrain
  by_cases hlt:(mRound d).c<(mRound d).s.A.grn
  ·rw [if_pos hlt]
   have h3:=H1.C.sm.ok.h3
   have h4:=H1.C.sm.len
   obtain ⟨S2,ψ2,N2,H2,E2,n2,c2,q2,k2⟩:=Sc.drain R hr hal hqw n H1 n1 l1 q1 (by omega)
   exact ⟨S2,ψ2,N2,H2,E1.trans E2,n2,c2,q2,k2⟩
  ·rw [if_neg hlt]
   exact ⟨S1,ψ1,N1,H1,E1,n1,by omega,q1,k1 hlt⟩
end
end
section
section
variable {O:Wo} {W:Wd} {φ ψ ψ':Int→Int} {A A':Ar} {S S' Al:Int→Prop} {N N':List Int} {qw:List (Int × Int)}
theorem Cu.start (R:Rep O W φ):Cu O W φ O.ar (fun i=>W.live i∧(W.th i).old=true) φ []:=by
 refine ⟨Sm.refl R.ho.ha,fun i h=>h.1,fun i h1 h2=>⟨h1,h2⟩,fun _ _ _=>rfl,List.nodup_nil,fun i=>?_,rfl,fun i h=>R.th i h.1,fun _ _ _ _ _ _ _=>rfl,(by intro i hi;cases hi),fun i h j v hv=>.inl (R.fl i h.1 j v hv)⟩
 constructor
 ·intro h;cases h
 ·rintro ⟨h1,h2⟩;rw [h1.2] at h2;cases h2
theorem Cu.roots (R:Rep O W φ) (hr:(O.ar.yng:Int)≤(O.ar.ws.length:Int)-O.ar.grn):∀ (l:List Vl) {A:Ar} {S:Int→Prop} {ψ:Int→Int} {N:List Int},Cu O W φ A S ψ N→(∀ v ∈ l,W.okV v) →
  CuTo O W φ A S ψ N (mRoots A (l.map (encV φ))).1 (fun k=>((3,k):Vl) ∈ l) fun S' ψ' N'=>(∀ v ∈ l,v.1=3→S' v.2)∧(mRoots A (l.map (encV φ))).2=l.map (encV ψ')
 | [],A,S,ψ,N,C,_=>⟨S,ψ,N,C,Ext.refl,fun k h=>.inl h,by simp,rfl⟩
 | v :: l,A,S,ψ,N,C,hl=>by
  obtain ⟨S1,ψ1,N1,C1,E1,h1,h2,h3,_⟩:=C.bring R hr (hl v (by simp)) (x:=encV φ v) (.inl rfl)
  obtain ⟨S2,ψ2,N2,C2,E2,h4,h5,h6⟩:=Cu.roots R hr l C1 (fun u hu=>hl u (by simp [hu]))
  simp only [List.map_cons,mRoots]
  refine ⟨S2,ψ2,N2,C2,E1.trans E2,fun k hk=>?_,fun u hu h=>?_,?_⟩
  ·rcases h4 k hk with h | h
   ·rcases h1 k h with h' | ⟨h',rfl⟩
    ·exact .inl h'
    ·exact .inr (by rw [←h'];simp)
   ·exact .inr (by simp [h])
  ·rcases List.mem_cons.1 hu with rfl | hu
   ·exact E2.sub _ (h3 h)
   ·exact h5 u hu h
  ·rw [h2,h6]
   congr 1
   exact (encV_congr (fun h=>E2.at_ _ (h3 h))).symm
theorem Sc.dirty (R:Rep O W φ) (hr:(O.ar.yng:Int)≤(O.ar.ws.length:Int)-O.ar.grn) (hal:Closed W.nd qw Al):∀ (l:List Int) {s:Ms} {S:Int→Prop} {ψ:Int→Int} {N:List Int},Sc O W φ Al s S ψ N→(∀ p ∈ l, ∃ i,W.live i∧(W.th i).old=true∧p=φ i) →
  ∃ S' ψ' N',Sc O W φ Al (mDirty O.ar.nur O.cd s l) S' ψ' N'∧SE W s S ψ N (mDirty O.ar.nur O.cd s l) S' ψ' N'∧∀ i,W.live i→(W.th i).old=true→φ i ∈ l→Looked W (mDirty O.ar.nur O.cd s l) S' ψ' i∨Clean W i
 | [],s,S,ψ,N,H,_=>⟨S,ψ,N,H,SE.refl,fun i _ _ h=>by cases h⟩
 | p :: l,s,S,ψ,N,H,hl=>by
  obtain ⟨i,hi,ho,rfl⟩:=hl p (by simp)
  have hS:=H.C.so i hi ho
  have step:∃ S1 ψ1 N1,Sc O W φ Al (if dirtyL O.ar.nur O.cd (φ i)=true then mLook s (φ i) else s) S1 ψ1 N1∧SE W s S ψ N (if dirtyL O.ar.nur O.cd (φ i)=true then mLook s (φ i) else s) S1 ψ1 N1∧(Looked W (if dirtyL O.ar.nur O.cd (φ i)=true then mLook s (φ i) else s) S1 ψ1 i∨Clean W i):=by
   by_cases hd:dirtyL O.ar.nur O.cd (φ i)=true
   ·rw [if_pos hd,←H.C.po i hi ho]
    obtain ⟨S1,ψ1,N1,H1,E1,hL⟩:=H.look R hr hal hS
    exact ⟨S1,ψ1,N1,H1,E1, .inl hL⟩
   ·rw [if_neg hd]
    refine ⟨S,ψ,N,H,SE.refl, .inr ⟨ho,fun v hv h3=>?_⟩⟩
    cases hv':(W.th v.2).old
    ·exact (hd (R.card i hi ho v hv h3 hv')).elim
    ·rfl
  obtain ⟨S1,ψ1,N1,H1,E1,k1⟩:=step
  obtain ⟨S2,ψ2,N2,H2,E2,k2⟩:=Sc.dirty R hr hal l H1 (fun p hp=>hl p (by simp [hp]))
  have e:mDirty O.ar.nur O.cd s (φ i :: l)=mDirty O.ar.nur O.cd (if dirtyL O.ar.nur O.cd (φ i)=true then mLook s (φ i) else s) l:=rfl
  rw [e]
  refine ⟨S2,ψ2,N2,H2,E1.trans E2,fun k hk hko hkl=>?_⟩
  rcases List.mem_cons.1 hkl with h | h
  ·have:=R.inj k i hk hi h
   subst this
   rcases k1 with h1 | h1
   ·exact .inl (h1.mono E2 (E1.E.sub k hS))
   ·exact .inr h1
  ·exact k2 k hk hko h
structure Ps (O:Wo) (W:Wd) (φ:Int→Int) (rw_:List Int) (t:Mt) (q:List (Int × Int)) (is:List Bool) (qw:List (Int × Int)) (ψ:Int→Int) (N:List Int):Prop where
 H:Sc O W φ (fun k=>atB is k=true) t.1 (fun k=>atB is k=true) ψ N
 n:Sn O W t.1 (fun k=>atB is k=true) ψ N t.2
 c:t.2=t.1.A.grn
 q:Qrel φ ψ (fun k=>atB is k=true) q qw
 ok:∀ e ∈ qw,W.okE e
 shut:Closed W.nd qw fun k=>atB is k=true
 len:is.length=W.T.length
 rt:∀ v ∈ W.roots,v.1=3→atB is v.2=true
 rw_:rw_=W.roots.map (encV ψ)
theorem Sc.setAl {s:Ms} (H:Sc O W φ Al s S ψ N) {Bl:Int→Prop} (h:∀ k,S k→Bl k):Sc O W φ Bl s S ψ N:=⟨H.C,h,H.wk,H.ep⟩
theorem Sc.drainP (R:Rep O W φ) (hr:(O.ar.yng:Int)≤(O.ar.ws.length:Int)-O.ar.grn) (hqw:∀ e ∈ qw,W.okE e) {d:Md} {is:List Bool} (hlen:is.length=W.T.length) (hS:∀ k,S k↔atB is k=true)
  (H:Sc O W φ (fun k=>Alive W.nd qw (fun k=>atB is k=true) k) d.s S ψ N) (hs:Sn O W d.s S ψ N d.c) (hc:d.c≤d.s.A.grn) (hq:Qrel φ ψ S d.q qw) {rts:List Int} (hrt:∀ v ∈ W.roots,v.1=3→S v.2) (hrw:rts=W.roots.map (encV ψ)) :
  ∃ ψ' N',Ps O W φ rts ((mDrain 2000 d).s,(mDrain 2000 d).c) (mDrain 2000 d).q (W.clo qw is) qw ψ' N'∧SE W d.s S ψ N (mDrain 2000 d).s (fun k=>atB (W.clo qw is) k=true) ψ' N':=by
 have h3:=H.C.sm.ok.h3;have h4:=H.C.sm.ok.h4;have h5:=H.C.sm.len
 obtain ⟨S1,ψ1,N1,H1,E1,n1,c1,q1,k1⟩:=H.drain R hr (Alive.closed W.nd qw _) hqw 2000 hs hc hq (by omega)
 have e:S1=fun k=>atB (W.clo qw is) k=true:=by
  funext k
  refine propext ⟨fun hk=>?_,fun hk=>?_⟩
  ·have hl:=H1.C.sl k hk
   exact cloL_at.2 ⟨hl.1,by rw [hlen];exact hl.2.1,H1.al k hk⟩
  ·exact (cloL_at.1 hk).2.2.least (fun j hj=>E1.E.sub j ((hS j).2 hj)) k1
 subst e
 refine ⟨ψ1,N1,⟨H1.setAl (fun k hk=>hk),n1,c1,q1,hqw,k1,by unfold Wd.clo;rw [cloL_length,hlen],fun v hv h=>E1.E.sub _ (hrt v hv h),?_⟩,E1⟩
 rw [hrw]
 exact List.map_congr_left fun v hv=>(encV_congr (fun h=>E1.E.at_ _ (hrt v hv h))).symm
theorem Rep.pre (R:Rep O W φ) (hr:(O.ar.yng:Int)≤(O.ar.ws.length:Int)-O.ar.grn):∃ ψ N,Ps O W φ (mRoots O.ar O.rt).2 ((mPre O).s,(mPre O).c) (mPre O).q (W.clo W.wait (W.first false)) W.wait ψ N:=by
 have hal:=Alive.closed W.nd W.wait (fun k=>atB (W.first false) k=true)
 have C0:=Cu.start R
 obtain ⟨S1,ψ1,N1,C1,E1,h1,h2,h3⟩:=Cu.roots R hr W.roots C0 R.hw.rv
 rw [←R.rt] at C1 E1 h3
 have hS1:∀ k,S1 k↔atB (W.first false) k=true:=fun k=>by
  rw [Wd.first_at]
  constructor
  ·intro hk
   have hl:=C1.sl k hk
   refine ⟨hl.1,hl.2.1,?_⟩
   rcases h1 k hk with h | h
   ·exact .inl ⟨h.2,hl.2.2,rfl⟩
   ·exact .inr h
  ·rintro ⟨h0,h4,h5 | h5⟩
   ·exact C1.so k ⟨h0,h4,h5.2.1⟩ h5.1
   ·exact h2 _ h5 rfl
 have H1:Sc O W φ (fun k=>Alive W.nd W.wait (fun k=>atB (W.first false) k=true) k) ⟨(mRoots O.ar O.rt).1,[],[]⟩ S1 ψ1 N1:=⟨C1,fun k hk=>Alive.base ((hS1 k).1 hk),(by intro p hp;cases hp),(by intro p hp;cases hp)⟩
 have hz:∀ p ∈ O.ar.things.2, ∃ i,W.live i∧(W.th i).old=true∧p=φ i:=fun p hp=>by
  have:=(R.perm_o.mem_iff (a:=p)).1 hp
  obtain ⟨i,hi,rfl⟩:=List.mem_map.1 this
  have:=Wd.mem_idx.1 hi
  exact ⟨i,this.1,this.2,rfl⟩
 obtain ⟨S2,ψ2,N2,H2,E2,k2⟩:=H1.dirty R hr hal O.ar.things.2 hz
 have hn2:Sn O W (mDirty O.ar.nur O.cd ⟨(mRoots O.ar O.rt).1,[],[]⟩ O.ar.things.2) S2 ψ2 N2 O.ar.grn:=
  ⟨⟨[],N2,rfl,rfl,(by intro i hi;cases hi)⟩,fun i hi ho=>k2 i hi ho (R.ino i hi ho)⟩
 have hq0:∀ (m:List (Int × Int)),Qrel φ ψ2 S2 (m.map (encE φ)) m:=fun m=>by
  induction m with
  | nil=>trivial
  | cons f m ih=>
   refine ⟨⟨?_, .inl ?_⟩,ih⟩
   ·rw [encV_ref φ rfl];rfl
   ·rw [encV_ref φ rfl];rfl
 have h3':=H2.C.sm.ok.h3;have h4':=H2.C.sm.ok.h4;have h5':=H2.C.sm.len
 have hflen:(W.first false).length=W.T.length:=Wd.first_length W false
 obtain ⟨S3,ψ3,N3,H3,E3,n3,c3,q3,k3⟩:=H2.drain R hr hal R.hw.wv 2000 (d:=⟨mDirty O.ar.nur O.cd ⟨(mRoots O.ar O.rt).1,[],[]⟩ O.ar.things.2,O.ar.grn,O.wt⟩) hn2 (Int.ofNat_le.2 (Nat.le_trans E1.grn E2.E.grn)) (by
  show Qrel φ ψ2 S2 O.wt W.wait
  rw [R.wt];exact hq0 _) (by show ((O.ar.ws.length:Int)-_).toNat<2000;omega)
 have e:S3=fun k=>atB (W.clo W.wait (W.first false)) k=true:=by
  funext k
  refine propext ⟨fun hk=>?_,fun hk=>?_⟩
  ·have hl:=H3.C.sl k hk
   exact cloL_at.2 ⟨hl.1,by rw [hflen];exact hl.2.1,H3.al k hk⟩
  ·exact (cloL_at.1 hk).2.2.least (fun j hj=>E3.E.sub j (E2.E.sub j ((hS1 j).2 hj))) k3
 subst e
 have at3:∀ k,S1 k→ψ3 k=ψ1 k:=fun k hk=>(E3.E.at_ k (E2.E.sub k hk)).trans (E2.E.at_ k hk)
 refine ⟨ψ3,N3,⟨H3.setAl (fun k hk=>hk),n3,c3,q3,R.hw.wv,k3,by unfold Wd.clo;rw [cloL_length,hflen],fun v hv h=>E3.E.sub _ (E2.E.sub _ (h2 v hv h)),?_⟩⟩
 rw [h3]
 exact List.map_congr_left fun v hv=>(encV_congr (fun h=>at3 _ (h2 v hv h))).symm
theorem Ps.keep (R:Rep O W φ) (hr:(O.ar.yng:Int)≤(O.ar.ws.length:Int)-O.ar.grn) {rts:List Int} {t:Mt} {q:List (Int × Int)} {is:List Bool} (P:Ps O W φ rts t q is qw ψ N) {x g:Int} (hx:W.live x) (hg:W.live g) (hk:(W.th g).k=5) :
  ∃ ψ' N',Ps O W φ rts (mtKeep t q (encV φ (3,x))).1 ((mtKeep t q (encV φ (3,x))).2.1 ++ [(encV φ (3,g),(mtKeep t q (encV φ (3,x))).2.2)]) (W.clo qw (is.set x.toNat true)) (qw ++ [(g,x)]) ψ' N':=by
 have okx:W.okV (3,x):=.inr (.inr (.inr ⟨rfl,hx⟩))
 obtain ⟨S1,ψ1,N1,C1,E1,h1,h2,h3,_⟩:=P.H.C.bring R hr okx (x:=encV φ (3,x)) (.inl rfl)
 have hS1:∀ k,S1 k↔atB (is.set x.toNat true) k=true:=fun k=>by
  rw [atB_set hx.1 (by rw [P.len];exact hx.2.1)]
  constructor
  ·intro hk
   rcases h1 k hk with h | ⟨_,rfl⟩
   ·exact .inr h
   ·exact .inl rfl
  ·rintro (rfl | h)
   ·exact h3 rfl
   ·exact E1.sub k h
 obtain ⟨H1,SE1⟩:=(P.H.setAl (Bl:=fun k=>Alive W.nd qw (fun k=>atB (is.set x.toNat true) k=true) k) (fun k hk=>Alive.base ((hS1 k).1 (E1.sub k hk)))).withA C1 E1 (fun k hk=>Alive.base ((hS1 k).1 hk))
 have hn1:=P.n.more P.H.C C1 SE1
 have hq1:=P.q.mono E1
 obtain ⟨ψ2,N2,P2,SE2⟩:=H1.drainP (d:=⟨{ t.1 with A:=mBring t.1.A (encV φ (3,x)) },t.2,q⟩) R hr P.ok (by rw [List.length_set];exact P.len) hS1 hn1 (by show t.2≤_;rw [P.c];exact Int.ofNat_le.2 E1.grn) hq1 (rts:=rts) (fun v hv h=>E1.sub _ (P.rt v hv h)) (by
  rw [P.rw_]
  exact List.map_congr_left fun v hv=>(encV_congr (fun h=>E1.at_ _ (P.rt v hv h))).symm)
 have hxin:atB (W.clo qw (is.set x.toNat true)) x=true:=SE2.E.sub _ (h3 rfl)
 refine ⟨ψ2,N2,⟨P2.H,P2.n,P2.c,Qrel.app ⟨rfl,?_⟩ P2.q,fun e he=>?_,?_,P2.len,P2.rt,P2.rw_⟩⟩
 ·refine .inr ⟨fun _=>hxin,?_⟩
  show mNow (mBring t.1.A (encV φ (3,x))) (encV φ (3,x))=_
  rw [h2]
  exact (encV_congr (fun h=>SE2.E.at_ _ (h3 rfl))).symm
 ·rcases List.mem_append.1 he with h | h
  ·exact P.ok e h
  ·rw [List.mem_singleton.1 h];exact ⟨hg,hk,hx⟩
 ·intro a b ha hl
  by_cases hb:b=x
  ·subst hb;exact hxin
  ·refine P2.shut a b ha ?_
   rcases hl with h | h | h | ⟨h,h'⟩
   ·exact .inl h
   ·exact .inr (.inl h)
   ·exact .inr (.inr (.inl h))
   ·refine .inr (.inr (.inr ⟨h,?_⟩))
    rcases List.mem_append.1 h' with h4 | h4
    ·exact h4
    ·simp at h4;exact absurd h4.2 hb
def encI (φ:Int→Int) (i:It):It:=(encE φ i.1,i.2)
theorem encE_eq (φ:Int→Int) (e:Int × Int):encE φ e=(encV φ (3,e.1),encV φ (3,e.2)):=by
 rw [encV_ref φ rfl,encV_ref φ rfl];rfl
theorem Ps.alive (R:Rep O W φ) {rts:List Int} {t:Mt} {q:List (Int × Int)} {is:List Bool} (P:Ps O W φ rts t q is qw ψ N) {x:Int} (hx:W.live x):mtAlive t (encV φ (3,x))=atB is x:=by
 have:=P.H.C.alive R (v:=(3,x)) (x:=encV φ (3,x)) (.inr (.inr (.inr ⟨rfl,hx⟩))) (.inl rfl)
 simp only [forall_const] at this
 rw [Bool.eq_iff_iff]
 exact this
theorem Ps.scan (R:Rep O W φ) (hr:(O.ar.yng:Int)≤(O.ar.ws.length:Int)-O.ar.grn) {rts:List Int}:∀ (l:List It) {t:Mt} {q:List (Int × Int)} {is:List Bool} {qw:List (Int × Int)} {ψ:Int→Int} {N:List Int},Ps O W φ rts t q is qw ψ N→(∀ i ∈ l,W.okE i.1) →
  ∃ ψ' N',Ps O W φ rts (scanM mtAlive mtKeep t q (l.map (encI φ))).1 (scanM mtAlive mtKeep t q (l.map (encI φ))).2.1 (scanM atB W.keepW is qw l).1 (scanM atB W.keepW is qw l).2.1 ψ' N' ∧
   (scanM mtAlive mtKeep t q (l.map (encI φ))).2.2.1=(scanM atB W.keepW is qw l).2.2.1.map (encI φ)∧(scanM mtAlive mtKeep t q (l.map (encI φ))).2.2.2=(scanM atB W.keepW is qw l).2.2.2
 | [],t,q,is,qw,ψ,N,P,_=>⟨ψ,N,P,rfl,rfl⟩
 | i :: l,t,q,is,qw,ψ,N,P,hl=>by
  have hi:=hl i (by simp)
  have ea:mtAlive t (encI φ i).1.1=atB is i.1.1:=by
   show mtAlive t (encE φ i.1).1=_
   rw [encE_eq];exact P.alive R hi.1
  simp only [List.map_cons,scanM]
  rw [ea]
  have e2:(encI φ i).2=i.2:=rfl
  rw [e2]
  by_cases hc:(i.2.1 && !i.2.2 && atB is i.1.1)=true
  ·rw [if_pos hc,if_pos hc]
   obtain ⟨ψ1,N1,P1⟩:=P.keep R hr hi.2.2 hi.1 hi.2.1
   have e3:(encI φ i).1.2=encV φ (3,i.1.2):=by show (encE φ i.1).2=_;rw [encE_eq]
   have e4:(encI φ i).1.1=encV φ (3,i.1.1):=by show (encE φ i.1).1=_;rw [encE_eq]
   rw [←e3,←e4] at P1
   obtain ⟨ψ2,N2,P2,h1,h2⟩:=Ps.scan R hr l P1 (fun j hj=>hl j (by simp [hj]))
   refine ⟨ψ2,N2,P2,?_,rfl⟩
   dsimp only
   rw [h1];rfl
  ·rw [if_neg hc,if_neg hc]
   obtain ⟨ψ2,N2,P2,h1,h2⟩:=Ps.scan R hr l P (fun j hj=>hl j (by simp [hj]))
   refine ⟨ψ2,N2,P2,?_,h2⟩
   dsimp only
   rw [h1];rfl
theorem Ps.rounds (R:Rep O W φ) (hr:(O.ar.yng:Int)≤(O.ar.ws.length:Int)-O.ar.grn) {rts:List Int}:∀ (n:Nat) (l:List It) {t:Mt} {q:List (Int × Int)} {is:List Bool} {qw:List (Int × Int)} {ψ:Int→Int} {N:List Int},Ps O W φ rts t q is qw ψ N→(∀ i ∈ l,W.okE i.1) →
  ∃ ψ' N',Ps O W φ rts (roundsM mtAlive mtKeep n t q (l.map (encI φ))).1 (roundsM mtAlive mtKeep n t q (l.map (encI φ))).2.1 (roundsM atB W.keepW n is qw l).1 (roundsM atB W.keepW n is qw l).2.1 ψ' N' ∧
   (roundsM mtAlive mtKeep n t q (l.map (encI φ))).2.2=(roundsM atB W.keepW n is qw l).2.2.map (encI φ)
 | 0,l,t,q,is,qw,ψ,N,P,hl=>⟨ψ,N,P,rfl⟩
 | n+1,l,t,q,is,qw,ψ,N,P,hl=>by
  obtain ⟨ψ1,N1,P1,h1,h2⟩:=P.scan R hr l hl
  have hl1:=scan_items is qw hl
  simp only [roundsM]
  rw [h2]
  by_cases hc:(scanM atB W.keepW is qw l).2.2.2=true
  ·rw [if_pos hc,if_pos hc,h1]
   exact Ps.rounds R hr n _ P1 hl1
  ·rw [if_neg hc,if_neg hc]
   exact ⟨ψ1,N1,P1,h1⟩
theorem Rep.passes (R:Rep O W φ) (hr:(O.ar.yng:Int)≤(O.ar.ws.length:Int)-O.ar.grn):∃ ψ N,Ps O W φ (mRoots O.ar O.rt).2 (mPass O).1 (mPass O).2.1 (W.pass false).1 (W.pass false).2.1 ψ N∧(mPass O).2.2=(W.pass false).2.2.map (encI φ):=by
 obtain ⟨ψ0,N0,P0⟩:=R.pre hr
 have e:itemsM mtAlive ((mPre O).s,(mPre O).c) O.rg=(itemsM atB (W.clo W.wait (W.first false)) W.regs).map (encI φ):=by
  unfold itemsM
  rw [R.rg,List.map_map,List.map_map]
  refine List.map_congr_left fun e he=>?_
  have:=R.hw.gv e he
  show (encE φ e,!mtAlive _ (encE φ e).2,false)=(encE φ e,!atB _ e.2,false)
  rw [show (encE φ e).2=encV φ (3,e.2) by rw [encE_eq],P0.alive R this.2.2]
 have hlen:O.rg.length=W.regs.length:=by rw [R.rg];simp
 unfold mPass Wd.pass passM
 rw [e,hlen]
 exact P0.rounds R hr _ _ (fun i hi=>by
  simp only [itemsM,List.mem_map] at hi
  obtain ⟨e,he,rfl⟩:=hi
  exact R.hw.gv e he)
end
end
section
section
variable {O:Wo} {W:Wd} {φ ψ:Int→Int} {A B:Ar} {is:List Bool} {N:List Int} {qw:List (Int × Int)}
theorem Cu.encR {S:Int→Prop} (R:Rep O W φ) (C:Cu O W φ A S ψ N) {v:Vl} (hok:W.okV v) (hs:v.1=3→S v.2):R64 (encV ψ v):=by
 have b3:=C.sm.ok.h3;have b4:=C.sm.ok.h4
 unfold R64
 rcases hok with h | h | h | h
 ·have e:encV ψ v=2:=by simp [encV,h.1]
  rw [e];decide
 ·have e:encV ψ v=4*v.2:=by simp [encV,h.1]
  have:=h.2
  unfold big at this
  rw [e];omega
 ·have e:encV ψ v=3:=by simp [encV,h.1]
  rw [e];decide
 ·rw [encV_ref ψ h.1]
  have:=C.place R (hs h.1)
  omega
theorem R64_three:R64 3:=by unfold R64;decide
structure Gb (ψ:Int→Int) (is:List Bool) (A B:Ar):Prop where
 sm:Sm A B
 grn:B.grn=A.grn
 yl:∀ q,A.young q=true→B.load q=A.load q
 hd:∀ k,atB is k=true→B.thing (ψ k)=A.thing (ψ k)
theorem Gb.alive (G:Gb ψ is A B) (x:Int):mAlive B x=mAlive A x:=by
 have hy:B.young (x/4)=A.young (x/4):=by unfold Ar.young;rw [G.sm.yng]
 unfold mAlive
 rw [hy]
 cases h:A.young (x/4)
 ·simp
 ·rw [G.yl _ h]
theorem Gb.now (G:Gb ψ is A B) (x:Int):mNow B x=mNow A x:=by
 have hy:B.young (x/4)=A.young (x/4):=by unfold Ar.young;rw [G.sm.yng]
 unfold mNow
 rw [hy]
 cases h:A.young (x/4)
 ·simp
 ·rw [G.yl _ h]
theorem Gb.put (R:Rep O W φ) (C:Cu O W φ A (fun k=>atB is k=true) ψ N) (G:Gb ψ is A B) {i:Int} (hi:atB is i=true) {j:Nat} (hj:j<(W.th i).fs.length) {x:Int} (hx:R64 x) :
  Gb ψ is A (B.store (ψ i+1+j) x)∧(B.store (ψ i+1+j) x).load (ψ i+1+j)=x ∧
  ∀ k,atB is k=true→∀ n,n<(W.th k).fs.length→(k≠i∨n≠j)→(B.store (ψ i+1+j) x).load (ψ k+1+n)=B.load (ψ k+1+n):=by
 have hB:=G.sm.ok
 have hld:=fun q=>Ar.load_store hB (ψ i+1+(j:Int)) q x
 have hne:∀ q,q≠ψ i+1+j→(B.store (ψ i+1+j) x).load q=B.load q:=fun q hq=>by rw [hld,if_neg (fun h=>hq h.1)]
 have hpi:=C.place R hi
 have b1:=C.sm.ok.h1
 have huse:B.inUse (ψ i+1+j)=true:=by
  have:=C.inO R hi (j:=1+(j:Int)) (by omega) (by omega)
  rw [←Int.add_assoc] at this
  unfold Ar.inUse Ar.old at *
  rw [G.grn,G.sm.nur,this];simp
 refine ⟨⟨G.sm.trans (Sm.store hB _ hx),by rw [Ar.store_grn];exact G.grn,fun q hq=>?_,fun k hk=>?_⟩,by rw [hld,if_pos ⟨rfl,huse⟩],fun k hk n hn hne'=>hne _ ?_⟩
 ·rw [hne q (by have:=young_iff.1 hq;omega)];exact G.yl q hq
 ·have:(B.store (ψ i+1+j) x).thing (ψ k)=B.thing (ψ k):=by
   refine thing_of_load (hne _ ?_)
   by_cases e:k=i
   ·subst e;omega
   ·have:=C.apart R hk hi e;omega
  rw [this];exact G.hd k hk
 ·by_cases e:k=i
  ·subst e
   have:n≠j:=by rcases hne' with h | h;exact absurd rfl h;exact h
   omega
  ·have:=C.apart R hk hi e;omega
def cutF (W:Wd) (is:List Bool) (i:Int):List Vl:=(cutT is i.toNat (W.th i)).fs
def FinF (W:Wd) (ψ:Int→Int) (is:List Bool) (B:Ar) (i:Int):Prop:=∀ (j:Nat) (v:Vl),(cutF W is i)[j]? = some v→B.load (ψ i+1+j)=encV ψ v
def RawF (W:Wd) (φ ψ:Int→Int) (is:List Bool) (B:Ar) (i:Int):Prop:=∀ (j:Nat) (v:Vl),(W.th i).fs[j]? = some v→Wrd φ ψ (fun k=>atB is k=true) (B.load (ψ i+1+j)) v
theorem cutF_eq {i:Int} (h0:0≤i) (hb:atB is i=true):cutF W is i =
  if (W.th i).k=4∧inS is ((W.th i).fs.getD 0 (0,0))=false then [(2,0),(2,0)] else if (W.th i).k=3∧inS is ((W.th i).fs.getD 0 (0,0))=false then [(2,0),(W.th i).fs.getD 1 (0,0)] else (W.th i).fs:=by
 unfold cutF cutT
 rw [if_pos (by rw [atB_toNat h0];exact hb)]
theorem inS_iff {v:Vl}:inS is v=true↔(v.1=3→atB is v.2=true):=by
 unfold inS
 by_cases h:v.1=3
 ·simp [h]
 ·simp [h]
theorem list_two {α:Type} {l:List α} (h:l.length=2):∃ a b,l=[a,b]:=by
 match l,h with
 | [a,b],_=>exact ⟨a,b,rfl⟩
structure Gn (W:Wd) (φ ψ:Int→Int) (is:List Bool) (A B:Ar):Prop where
 G:Gb ψ is A B
 f:∀ i,atB is i=true→FinF W ψ is B i∨((W.th i).k=3∧RawF W φ ψ is B i∧∀ v,(W.th i).fs[1]? = some v→B.load (ψ i+2)=encV ψ v)∨((W.th i).k=4∧RawF W φ ψ is B i)
theorem FinF.congr {B':Ar} {i:Int} (hl:(cutF W is i).length=(W.th i).fs.length) (h:∀ n,n<(W.th i).fs.length→B'.load (ψ i+1+n)=B.load (ψ i+1+n)) (hf:FinF W ψ is B i):FinF W ψ is B' i:=fun j v hv=>by
 have:=(List.getElem?_eq_some_iff.1 hv).1
 rw [h j (by omega)];exact hf j v hv
theorem RawF.congr {B':Ar} {i:Int} (h:∀ n,n<(W.th i).fs.length→B'.load (ψ i+1+n)=B.load (ψ i+1+n)) (hf:RawF W φ ψ is B i):RawF W φ ψ is B' i:=fun j v hv=>by
 rw [h j (List.getElem?_eq_some_iff.1 hv).1];exact hf j v hv
theorem cutF_len (R:Rep O W φ) (C:Cu O W φ A (fun k=>atB is k=true) ψ N) {i:Int} (hi:atB is i=true):(cutF W is i).length=(W.th i).fs.length:=by
 have hl:=C.sl i hi
 exact cutT_len (by rw [atB_toNat hl.1];exact hi) (R.hw.tk i hl)
theorem Gn.other (R:Rep O W φ) (C:Cu O W φ A (fun k=>atB is k=true) ψ N) (g:Gn W φ ψ is A B) {B':Ar} (G':Gb ψ is A B') {i:Int} (hfin:FinF W ψ is B' i)
  (h:∀ k,atB is k=true→k≠i→∀ n,n<(W.th k).fs.length→B'.load (ψ k+1+n)=B.load (ψ k+1+n)):Gn W φ ψ is A B':=by
 refine ⟨G',fun k hk=>?_⟩
 by_cases e:k=i
 ·subst e;exact .inl hfin
 ·rcases g.f k hk with h1 | ⟨h1,h2,h3⟩ | ⟨h1,h2⟩
  ·exact .inl (h1.congr (cutF_len R C hk) (h k hk e))
  ·refine .inr (.inl ⟨h1,h2.congr (h k hk e),fun v hv=>?_⟩)
   have hh:=h k hk e 1 (List.getElem?_eq_some_iff.1 hv).1
   rw [show ψ k+1+((1:Nat):Int)=ψ k+2 by omega] at hh
   rw [hh];exact h3 v hv
  ·exact .inr (.inr ⟨h1,h2.congr (h k hk e)⟩)
theorem enc_gone (ψ:Int→Int):encV ψ (2,0)=3:=rfl
theorem now_three (B:Ar):mNow B 3=3:=mNow_plain (by decide)
theorem alive_three (B:Ar):mAlive B 3=true:=mAlive_plain (by decide)
theorem Gn.key (R:Rep O W φ) (C:Cu O W φ A (fun k=>atB is k=true) ψ N) (g:Gn W φ ψ is A B) {i:Int} (hi:atB is i=true) {v0 v1:Vl} (hk:(W.th i).k=3∨(W.th i).k=4) (hfs:(W.th i).fs=[v0,v1]) :
  (inS is v0=true→mAlive B (B.load (ψ i+1))=true∧mNow B (B.load (ψ i+1))=encV ψ v0) ∧
  (inS is v0=false→(FinF W ψ is B i∧B.load (ψ i+1)=3)∨mAlive B (B.load (ψ i+1))=false):=by
 have hl:=C.sl i hi
 have ok0:=R.hw.tv i hl v0 (by rw [hfs];simp)
 have e0:ψ i+1+((0:Nat):Int)=ψ i+1:=by omega
 have hc:=cutF_eq (W:=W) hl.1 hi
 rw [hfs] at hc
 simp only [List.getD_cons_zero,List.getD_cons_succ] at hc
 constructor
 ·intro hs
  have hw:Wrd φ ψ (fun k=>atB is k=true) (B.load (ψ i+1)) v0:=by
   rw [if_neg (fun h=>by rw [hs] at h;cases h.2),if_neg (fun h=>by rw [hs] at h;cases h.2)] at hc
   rcases g.f i hi with h | ⟨_,h,_⟩ | ⟨_,h⟩
   ·have:=h 0 v0 (by rw [hc];rfl)
    rw [e0] at this
    exact .inr ⟨inS_iff.1 hs,this⟩
   ·have:=h 0 v0 (by rw [hfs];rfl);rwa [e0] at this
   ·have:=h 0 v0 (by rw [hfs];rfl);rwa [e0] at this
  rw [g.G.alive,g.G.now]
  exact ⟨(C.alive R ok0 hw).2 (inS_iff.1 hs),C.now R ok0 hw (inS_iff.1 hs)⟩
 ·intro hs
  have hn:¬ (v0.1=3→atB is v0.2=true):=fun h=>by rw [inS_iff.2 h] at hs;cases hs
  have raw:RawF W φ ψ is B i→mAlive B (B.load (ψ i+1))=false:=fun h=>by
   have h1:=h 0 v0 (by rw [hfs];rfl)
   rw [e0] at h1
   rw [g.G.alive]
   cases ha:mAlive A (B.load (ψ i+1))
   ·rfl
   ·exact (hn ((C.alive R ok0 h1).1 ha)).elim
  rcases g.f i hi with h | ⟨_,h,_⟩ | ⟨_,h⟩
  ·refine .inl ⟨h,?_⟩
   have h2:(cutF W is i)[0]? = some (2,0):=by
    rw [hc]
    rcases hk with hk | hk
    ·rw [if_neg (fun h=>by omega),if_pos ⟨hk,hs⟩];rfl
    ·rw [if_pos ⟨hk,hs⟩];rfl
   have:=h 0 _ h2
   rw [e0] at this
   rw [this,enc_gone]
  ·exact .inr (raw h)
  ·exact .inr (raw h)
theorem Gn.weak (R:Rep O W φ) (C:Cu O W φ A (fun k=>atB is k=true) ψ N) (g:Gn W φ ψ is A B) {i:Int} (hi:atB is i=true) (hk:(W.th i).k=3) :
  Gn W φ ψ is A (mFix B (ψ i+1) (!mAlive B (B.load (ψ i+1))))∧FinF W ψ is (mFix B (ψ i+1) (!mAlive B (B.load (ψ i+1)))) i:=by
 have hl:=C.sl i hi
 have h2:=Wd.two R.hw hl (.inl hk)
 obtain ⟨v0,v1,hfs⟩:=list_two h2
 have ok0:=R.hw.tv i hl v0 (by rw [hfs];simp)
 obtain ⟨k1,k2⟩:=g.key R C hi (.inl hk) hfs
 have hc:=cutF_eq (W:=W) hl.1 hi
 rw [hfs] at hc
 simp only [List.getD_cons_zero,List.getD_cons_succ] at hc
 rw [if_neg (fun h=>by omega)] at hc
 have e0:ψ i+1+((0:Nat):Int)=ψ i+1:=by omega
 have e1:ψ i+1+((1:Nat):Int)=ψ i+2:=by omega
 have hval:∃ w,cutF W is i=[w,v1]∧(if (!mAlive B (B.load (ψ i+1)))=true then 3 else mNow B (B.load (ψ i+1)))=encV ψ w∧R64 (encV ψ w):=by
  cases hs:inS is v0
  ·rw [if_pos ⟨hk,hs⟩] at hc
   refine ⟨(2,0),hc,?_,by rw [enc_gone];exact R64_three⟩
   rcases k2 hs with ⟨_,h⟩ | h
   ·rw [h,alive_three,now_three];rfl
   ·rw [h];rfl
  ·rw [if_neg (fun h=>by rw [hs] at h;cases h.2)] at hc
   obtain ⟨h1,h3⟩:=k1 hs
   exact ⟨v0,hc,by rw [h1,h3];rfl,C.encR R ok0 (inS_iff.1 hs)⟩
 obtain ⟨w,hcw,hv,hR⟩:=hval
 have hB:mFix B (ψ i+1) (!mAlive B (B.load (ψ i+1)))=B.store (ψ i+1+((0:Nat):Int)) (encV ψ w):=by
  rw [e0];unfold mFix;rw [hv]
 obtain ⟨G',a1,a2⟩:=g.G.put R C hi (j:=0) (by omega) hR
 have hfin:FinF W ψ is (mFix B (ψ i+1) (!mAlive B (B.load (ψ i+1)))) i:=by
  rw [hB]
  intro j v hv'
  rw [hcw] at hv'
  match j,hv' with
  | 0,hv'=>simp at hv';subst hv';exact a1
  | 1,hv'=>
   simp at hv';subst hv'
   rw [a2 i hi 1 (by omega) (.inr (by decide)),e1]
   rcases g.f i hi with h | ⟨_,_,h⟩ | ⟨h,_⟩
   ·have:=h 1 v1 (by rw [hcw];rfl);rwa [e1] at this
   ·exact h v1 (by rw [hfs];rfl)
   ·omega
 refine ⟨?_,hfin⟩
 rw [hB] at hfin ⊢
 exact g.other R C G' hfin (fun k hk' hne n hn=>a2 k hk' n hn (.inl hne))
theorem Gn.eph (R:Rep O W φ) (C:Cu O W φ A (fun k=>atB is k=true) ψ N) (hcl:Closed W.nd qw fun k=>atB is k=true) (g:Gn W φ ψ is A B) {i:Int} (hi:atB is i=true) (hk:(W.th i).k=4) :
  Gn W φ ψ is A (mGoneE1 B (ψ i))∧FinF W ψ is (mGoneE1 B (ψ i)) i:=by
 have hl:=C.sl i hi
 have h2:=Wd.two R.hw hl (.inr (.inl hk))
 obtain ⟨v0,v1,hfs⟩:=list_two h2
 have ok0:=R.hw.tv i hl v0 (by rw [hfs];simp)
 have ok1:=R.hw.tv i hl v1 (by rw [hfs];simp)
 obtain ⟨k1,k2⟩:=g.key R C hi (.inr hk) hfs
 have hc:=cutF_eq (W:=W) hl.1 hi
 rw [hfs] at hc
 simp only [List.getD_cons_zero,List.getD_cons_succ] at hc
 have e0:ψ i+1+((0:Nat):Int)=ψ i+1:=by omega
 have e1:ψ i+1+((1:Nat):Int)=ψ i+2:=by omega
 obtain ⟨dd,hd⟩:∃ d,(!mAlive B (B.load (ψ i+1)))=d:=⟨_,rfl⟩
 have hval:∃ w0 w1,cutF W is i=[w0,w1]∧(if dd=true then 3 else mNow B (B.load (ψ i+1)))=encV ψ w0∧R64 (encV ψ w0)∧(if dd=true then 3 else mNow B (B.load (ψ i+2)))=encV ψ w1∧R64 (encV ψ w1):=by
  cases hs:inS is v0
  ·rw [if_pos ⟨hk,hs⟩] at hc
   refine ⟨(2,0),(2,0),hc,?_,by rw [enc_gone];exact R64_three,?_,by rw [enc_gone];exact R64_three⟩
   ·rcases k2 hs with ⟨_,h⟩ | h
    ·rw [←hd,h,alive_three,now_three];rfl
    ·rw [←hd,h];rfl
   ·rcases k2 hs with ⟨hf,h⟩ | h
    ·have:=hf 1 (2,0) (by rw [hc];rfl)
     rw [e1,enc_gone] at this
     rw [←hd,h,alive_three,this,now_three];rfl
    ·rw [←hd,h];rfl
  ·rw [if_neg (fun h=>by rw [hs] at h;cases h.2),if_neg (fun h=>by omega)] at hc
   obtain ⟨h1,h3⟩:=k1 hs
   have hs1:v1.1=3→atB is v1.2=true:=fun h3=>hcl i v1.2 hi (.inr (.inr (.inl ⟨hk,by
    show (W.th i).fs[1]? = _
    rw [hfs];show some v1=_;congr 1;exact Prod.ext h3 rfl,fun v hv h=>by
    have hv':(W.th i).fs[0]? = some v:=hv
    rw [hfs] at hv'
    have:v0=v:=by simpa using hv'
    subst this;exact inS_iff.1 hs h⟩)))
   have hw1:Wrd φ ψ (fun k=>atB is k=true) (B.load (ψ i+2)) v1:=by
    rcases g.f i hi with h | ⟨h,_,_⟩ | ⟨_,h⟩
    ·have:=h 1 v1 (by rw [hc];rfl)
     rw [e1] at this
     exact .inr ⟨hs1,this⟩
    ·omega
    ·have:=h 1 v1 (by rw [hfs];rfl);rwa [e1] at this
   refine ⟨v0,v1,hc,by rw [←hd,h1,h3];rfl,C.encR R ok0 (inS_iff.1 hs),?_,C.encR R ok1 hs1⟩
   rw [←hd,h1]
   show mNow B (B.load (ψ i+2))=_
   rw [g.G.now];exact C.now R ok1 hw1 hs1
 obtain ⟨w0,w1,hcw,hv0,hR0,hv1,hR1⟩:=hval
 obtain ⟨G1,a1,a2⟩:=g.G.put R C hi (j:=0) (by omega) hR0
 have hld:(B.store (ψ i+1+((0:Nat):Int)) (encV ψ w0)).load (ψ i+2)=B.load (ψ i+2):=by
  have:=a2 i hi 1 (by omega) (.inr (by decide));rwa [e1] at this
 obtain ⟨G2,b1,b2⟩:=G1.put R C hi (j:=1) (by omega) hR1
 have hB:mGoneE1 B (ψ i)=(B.store (ψ i+1+((0:Nat):Int)) (encV ψ w0)).store (ψ i+1+((1:Nat):Int)) (encV ψ w1):=by
  unfold mGoneE1
  rw [hd]
  have e2:mFix B (ψ i+1) dd=B.store (ψ i+1+((0:Nat):Int)) (encV ψ w0):=by rw [e0];unfold mFix;rw [hv0]
  rw [e2]
  unfold mFix
  rw [hld,e1,G1.now,←g.G.now,hv1]
 have hfin:FinF W ψ is (mGoneE1 B (ψ i)) i:=by
  rw [hB]
  intro j v hv'
  rw [hcw] at hv'
  match j,hv' with
  | 0,hv'=>simp at hv';subst hv';rw [b2 i hi 0 (by omega) (.inr (by decide))];exact a1
  | 1,hv'=>simp at hv';subst hv';exact b1
 refine ⟨?_,hfin⟩
 rw [hB] at hfin ⊢
 refine g.other R C G2 hfin (fun k hk' hne n hn=>?_)
 rw [b2 k hk' n hn (.inl hne),a2 k hk' n hn (.inl hne)]
theorem Gn.weaks (R:Rep O W φ) (C:Cu O W φ A (fun k=>atB is k=true) ψ N):∀ (l:List Int) {B:Ar},Gn W φ ψ is A B→(∀ p ∈ l, ∃ i,atB is i=true∧(W.th i).k=3∧p=ψ i) →
  Gn W φ ψ is A (mGoneW B l)∧(∀ i,atB is i=true→FinF W ψ is B i→FinF W ψ is (mGoneW B l) i)∧∀ i,atB is i=true→ψ i ∈ l→FinF W ψ is (mGoneW B l) i
 | [],B,g,_=>⟨g,fun _ _ h=>h,fun _ _ h=>by cases h⟩
 | p :: l,B,g,hl=>by
  obtain ⟨i,hi,hk,rfl⟩:=hl p (by simp)
  obtain ⟨g1,f1⟩:=g.weak R C hi hk
  obtain ⟨g2,f2,f3⟩:=Gn.weaks R C l g1 (fun p hp=>hl p (by simp [hp]))
  have e:mGoneW B (ψ i :: l)=mGoneW (mFix B (ψ i+1) (!mAlive B (B.load (ψ i+1)))) l:=rfl
  rw [e]
  have keep:∀ k,atB is k=true→FinF W ψ is B k→FinF W ψ is (mFix B (ψ i+1) (!mAlive B (B.load (ψ i+1)))) k:=fun k hk' hf=>by
   by_cases ek:k=i
   ·subst ek;exact f1
   ·refine hf.congr (cutF_len R C hk') (fun n hn=>?_)
    unfold mFix
    have:=C.apart R hk' hi ek
    have hn2:=Wd.two R.hw (C.sl i hi) (.inl hk)
    rw [Ar.load_store g.G.sm.ok,if_neg (fun h=>by omega)]
  refine ⟨g2,fun k hk' hf=>f2 k hk' (keep k hk' hf),fun k hk' hm=>?_⟩
  rcases List.mem_cons.1 hm with h | h
  ·have:=C.inj R hk' hi h
   subst this
   exact f2 k hk' f1
  ·exact f3 k hk' h
theorem Gn.ephs (R:Rep O W φ) (C:Cu O W φ A (fun k=>atB is k=true) ψ N) (hcl:Closed W.nd qw fun k=>atB is k=true):∀ (l:List Int) {B:Ar},Gn W φ ψ is A B→(∀ p ∈ l, ∃ i,atB is i=true∧(W.th i).k=4∧p=ψ i) →
  Gn W φ ψ is A (l.foldl mGoneE1 B)∧(∀ i,atB is i=true→FinF W ψ is B i→FinF W ψ is (l.foldl mGoneE1 B) i)∧∀ i,atB is i=true→ψ i ∈ l→FinF W ψ is (l.foldl mGoneE1 B) i
 | [],B,g,_=>⟨g,fun _ _ h=>h,fun _ _ h=>by cases h⟩
 | p :: l,B,g,hl=>by
  obtain ⟨i,hi,hk,rfl⟩:=hl p (by simp)
  obtain ⟨g1,f1⟩:=g.eph R C hcl hi hk
  obtain ⟨g2,f2,f3⟩:=Gn.ephs R C hcl l g1 (fun p hp=>hl p (by simp [hp]))
  have e:(ψ i :: l).foldl mGoneE1 B=l.foldl mGoneE1 (mGoneE1 B (ψ i)):=rfl
  rw [e]
  have keep:∀ k,atB is k=true→FinF W ψ is B k→FinF W ψ is (mGoneE1 B (ψ i)) k:=fun k hk' hf=>by
   by_cases ek:k=i
   ·subst ek;exact f1
   ·refine hf.congr (cutF_len R C hk') (fun n hn=>?_)
    unfold mGoneE1 mFix
    have:=C.apart R hk' hi ek
    have hn2:=Wd.two R.hw (C.sl i hi) (.inr (.inl hk))
    have hok1:(B.store (ψ i+1) (if (!mAlive B (B.load (ψ i+1)))=true then 3 else mNow B (B.load (ψ i+1)))).ok:=by
     refine g.G.sm.ok.store _ _ ?_
     split
     ·exact R64_three
     ·exact mNow_R64 (g.G.sm.ok.load _)
    rw [Ar.load_store hok1,if_neg (fun h=>by omega),Ar.load_store g.G.sm.ok,if_neg (fun h=>by omega)]
  refine ⟨g2,fun k hk' hf=>f2 k hk' (keep k hk' hf),fun k hk' hm=>?_⟩
  rcases List.mem_cons.1 hm with h | h
  ·have:=C.inj R hk' hi h
   subst this
   exact f2 k hk' f1
  ·exact f3 k hk' h
theorem Ps.gone (R:Rep O W φ) {rts:List Int} {t:Mt} {q:List (Int × Int)} (P:Ps O W φ rts t q is qw ψ N):Gb ψ is t.1.A (mGone t.1)∧∀ i,atB is i=true→FinF W ψ is (mGone t.1) i:=by
 have C:=P.H.C
 have start:Gn W φ ψ is t.1.A t.1.A∧∀ i,atB is i=true→FinF W ψ is t.1.A i∨((W.th i).k=3∧ψ i ∈ t.1.wk)∨((W.th i).k=4∧ψ i ∈ t.1.ep):=by
  have main:∀ i,atB is i=true→FinF W ψ is t.1.A i∨((W.th i).k=3∧ψ i ∈ t.1.wk∧∀ v,(W.th i).fs[1]? = some v→t.1.A.load (ψ i+2)=encV ψ v)∨((W.th i).k=4∧ψ i ∈ t.1.ep):=by
   intro i hi
   have hl:=C.sl i hi
   have all:Looked W t.1 (fun k=>atB is k=true) ψ i∨Clean W i:=by
    cases ho:(W.th i).old
    ·exact .inl (P.n.all R C P.c i ((C.nm i).2 ⟨hi,ho⟩))
    ·exact P.n.old i hl ho
   rcases all with h | h
   ·by_cases k3:(W.th i).k=3
    ·refine .inr (.inl ⟨k3,(h.2.1 k3).1,fun v hv=>?_⟩)
     have:=((h.2.1 k3).2 v hv).2
     rwa [show ψ i+1+((1:Nat):Int)=ψ i+2 by omega] at this
    ·by_cases k4:(W.th i).k=4
     ·exact .inr (.inr ⟨k4,h.2.2 k4⟩)
     ·left
      intro j v hv
      rw [cutF_eq hl.1 hi,if_neg (fun h=>k4 h.1),if_neg (fun h=>k3 h.1)] at hv
      by_cases k12:(W.th i).k=1∨(W.th i).k=2
      ·exact (h.1 k12 j v hv).2
      ·exfalso
       have hf:=R.hw.tk i hl
       have hs:=fitsW_spec hf
       have k5:(W.th i).k=5:=by omega
       rw [k5] at hf
       simp [fitsW] at hf
       have:=(List.getElem?_eq_some_iff.1 hv).1
       simp [hf] at this
   ·left
    intro j v hv
    have all:∀ v ∈ (W.th i).fs,inS is v=true:=fun v hv=>inS_iff.2 fun h3=>C.so _ (Wd.okV_ref (R.hw.tv i hl v hv) h3) (h.2 v hv h3)
    have h0:(W.th i).k=3∨(W.th i).k=4→inS is ((W.th i).fs.getD 0 (0,0))=true:=fun hk=>by
     obtain ⟨a,b,e⟩:=list_two (Wd.two R.hw hl (by rcases hk with h | h;exact .inl h;exact .inr (.inl h)))
     rw [e];exact all a (by rw [e];simp)
    rw [cutF_eq hl.1 hi,if_neg (fun h=>by rw [h0 (.inr h.1)] at h;cases h.2),if_neg (fun h=>by rw [h0 (.inl h.1)] at h;cases h.2)] at hv
    have hm:=List.mem_of_getElem? hv
    rcases C.fd i hi j v hv with e | ⟨_,e⟩
    ·rw [e]
     exact (encV_congr (fun h3=>C.po _ (Wd.okV_ref (R.hw.tv i hl v hm) h3) (h.2 v hm h3))).symm
    ·exact e
  refine ⟨⟨⟨Sm.refl C.sm.ok,rfl,fun _ _=>rfl,fun _ _=>rfl⟩,fun i hi=>?_⟩,fun i hi=>?_⟩
  ·rcases main i hi with h | ⟨h,_,h'⟩ | ⟨h,_⟩
   ·exact .inl h
   ·exact .inr (.inl ⟨h,C.fd i hi,h'⟩)
   ·exact .inr (.inr ⟨h,C.fd i hi⟩)
  ·rcases main i hi with h | ⟨h,h',_⟩ | h
   ·exact .inl h
   ·exact .inr (.inl ⟨h,h'⟩)
   ·exact .inr (.inr h)
 obtain ⟨g0,f0⟩:=start
 obtain ⟨g1,f1,f2⟩:=g0.weaks R C t.1.wk P.H.wk
 obtain ⟨g2,f3,f4⟩:=g1.ephs R C P.shut t.1.ep P.H.ep
 refine ⟨g2.G,fun i hi=>?_⟩
 rcases f0 i hi with h | ⟨_,h⟩ | ⟨_,h⟩
 ·exact f3 i hi (f1 i hi h)
 ·exact f3 i hi (f2 i hi h)
 ·exact f4 i hi h
end
end
end Go.Proofs.YtjifdalflepcoacGreat
