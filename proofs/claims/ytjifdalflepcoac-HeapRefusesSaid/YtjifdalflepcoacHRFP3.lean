/-
  Parts of the proof, merged: what the functions do, and plain laws.
-/
import Derived.Test.YtjifdalflepcoacHRFP2
import Derived.Test.YtjifdalflepcoacHRFP1
import Derived.Test.YtjifdalflepcoacHRFP0
import Derived.Laws.Tables
import Derived.Deep.MidRow
import Derived.Test.YtjifdalflepcoacProg
import Derived.Laws.EntriesVeiled
set_option maxHeartbeats 16000000
set_option maxRecDepth 100000
set_option linter.unusedVariables false
set_option linter.unusedSimpArgs false
namespace Go.Proofs.Ytjifdalflepcoac
section
open Go.RowKit
theorem usesM_cases (k:Int):k=1∨k=2∨k=3∨k=4∨k=5∨k=6∨k=7∨k=8∨k=9∨k=10∨k=11∨k=12∨k=13∨k=14∨k=15∨k=16∨(k<1∨16<k):=by omega
theorem ret_i64 {a b:Int} (h:a=b):(Ending.returned (.int .i64 a))=.returned (.int .i64 b):=by rw [h]
theorem RUsesOf_c (k:Int) (w:World):Calls Try.prog 10 #[.int .i64 k] w fun e w'=>e=.returned (.int .i64 (usesM k))∧Keeps (fun _=>False) w w':=by
 rcases usesM_cases k with rfl | rfl | rfl | rfl | rfl | rfl | rfl | rfl | rfl | rfl | rfl | rfl | rfl | rfl | rfl | rfl | h
 case inr.inr.inr.inr.inr.inr.inr.inr.inr.inr.inr.inr.inr.inr.inr.inr=>
  have HE:=Hz (show usesM k=-1 by unfold usesM;repeat' (rw [if_neg (by omega)]))
  have e1:(k == 1)=false:=by simp;omega
  have e2:(k == 2)=false:=by simp;omega
  have e3:(k == 3)=false:=by simp;omega
  have e4:(k == 4)=false:=by simp;omega
  have e5:(k == 5)=false:=by simp;omega
  have e6:(k == 6)=false:=by simp;omega
  have e7:(k == 7)=false:=by simp;omega
  have e8:(k == 8)=false:=by simp;omega
  have e9:(k == 9)=false:=by simp;omega
  have e10:(k == 10)=false:=by simp;omega
  have e11:(k == 11)=false:=by simp;omega
  have e12:(k == 12)=false:=by simp;omega
  have e13:(k == 13)=false:=by simp;omega
  have e14:(k == 14)=false:=by simp;omega
  have e15:(k == 15)=false:=by simp;omega
  have e16:(k == 16)=false:=by simp;omega
  clear h
  go_enter Try.func10,Try.ntmps10
  go_wp2_with fail
  go_ret
  exact ⟨ret_i64 HE.out.symm,Keeps.refl _ _⟩
 all_goals
  go_enter Try.func10,Try.ntmps10
  go_wp2_with fail
  go_ret
  exact ⟨ret_i64 rfl,Keeps.refl _ _⟩
theorem usesM_vals (k:Int):usesM k=-1∨usesM k=0∨usesM k=1∨usesM k=3∨usesM k=6∨usesM k=7:=by
 unfold usesM
 repeat' split
 all_goals simp
def St.at3 (x:St) (j:Nat):Int:=if j=0 then x.r else if j=1 then x.a else x.b
def useBit (u:Int) (j:Nat):Bool:=decide (u/2 ^ j%2=1)
theorem checkM_none {x:St} (h:usesM x.k=-1):checkM x=2:=by unfold checkM;rw [if_pos h]
theorem checkM_root {x:St} (h:usesM x.k≠-1) {j:Nat} (hj:j<3) (hb:useBit (usesM x.k) j=true) (hr:rootOk (x.at3 j)=false):checkM x=1:=by
 unfold checkM
 rw [if_neg h,if_pos]
 unfold useBit at hb
 have hb:usesM x.k/2 ^ j%2=1:=by simpa using hb
 rcases (by omega:j=0∨j=1∨j=2) with rfl | rfl | rfl
 ·exact .inl ⟨by simpa using hb,hr⟩
 ·exact .inr (.inl ⟨by simpa using hb,hr⟩)
 ·exact .inr (.inr ⟨by simpa using hb,hr⟩)
theorem checkM_rest {x:St} (h:usesM x.k≠-1) (hb:∀ j,j<3→useBit (usesM x.k) j=true→rootOk (x.at3 j)=true) :
  checkM x=if x.k=1∧¬ (-big≤x.n∧x.n<big) then 1 else if x.k=5∧¬ (0≤x.n∧x.n≤12) then 1 else 0:=by
 unfold checkM
 rw [if_neg h,if_neg]
 rintro (⟨h1,h2⟩ | ⟨h1,h2⟩ | ⟨h1,h2⟩)
 ·have:=hb 0 (by decide) (by unfold useBit;simpa using h1)
  rw [show x.at3 0=x.r from rfl,h2] at this;cases this
 ·have:=hb 1 (by decide) (by unfold useBit;simpa using h1)
  rw [show x.at3 1=x.a from rfl,h2] at this;cases this
 ·have:=hb 2 (by decide) (by unfold useBit;simpa using h1)
  rw [show x.at3 2=x.b from rfl,h2] at this;cases this
end
section
open Go.RowKit
theorem entV_setV:∀ (l:List (Int × Int)) (k:Nat) (v:Int × Int),entV (l.set k v)=((entV l).set (k*2) (.int .i64 v.1)).set (k*2+1) (.int .i64 v.2)
 | [],k,v=>by simp [entV]
 | e :: l,0,v=>by rw [List.set_cons_zero,entV_cons,entV_cons];rfl
 | e :: l,k+1,v=>by
  rw [List.set_cons_succ,entV_cons,entV_cons,entV_setV l k v]
  rw [show (k+1)*2=k*2+1+1 by omega]
  rfl
theorem wpList_store_val {P:Program} {ops:Array Oper} {rest:List Oper} {o:Oper} {a:Act} {w:World} {Q:Exit→Act→World→Prop} (hgd:o.guard=none) (ty:TypeId) (x y:Operand) (ho:o.op=.store ty x y) (hd:o.dst=none)
  (g off n cap k:Nat) (xs:List Value) (e:Nat) (v0 v1:Value) (hx:a.eval x=.pointer (some ⟨g,off+k*2,none⟩)) (hy:a.eval y=.agg #[v0,v1])
  (hs:Sl w e 2 (.slice (some ⟨g,off,none⟩) n cap) n xs) (hk:k<n) (hi:(P.info? ty).map (·.size)=some 2) (h0:v0.oneCell'=true) (h1:v1.oneCell'=true)
  (h:∀ w',Sl w' e 2 (.slice (some ⟨g,off,none⟩) n cap) n ((xs.set (k*2) v0).set (k*2+1) v1)→Keeps (·=g) w w'→w'.heap.size=w.heap.size→wpList P ops Q rest a w'):wpList P ops Q (o :: rest) a w:=by
 obtain ⟨g',o',cap',cur,e1,hb,hc1,hc2,hc3,hc4⟩:=hs.laid (by omega)
 cases e1
 have hth:w.there g (off+k*2) 2:=fun j hj=>by
  have hl:off+k*2+j<cur.length:=by omega
  refine ⟨?_,hb.free _⟩
  rw [hb.cell,List.getElem?_eq_getElem hl];rfl
 refine wpList_store_mid hgd ty x y ho g (off+k*2) #[v0,v1] hx hy hth (by simpa using hi) (all_oneCell_toArray (cs:=[v0,v1]) (by intro v hv;simp at hv;rcases hv with rfl | rfl <;> assumption)) ?_
 rw [hd]
 refine h _ ?_ ?_ ?_
 ·have s1:=hs.set (j:=k*2) (u:=v0) (by omega)
  have s2:=s1.set (j:=k*2+1) (u:=v1) (by omega)
  rw [←Nat.add_assoc] at s2
  exact s2
 ·exact ((Keeps.refl (·=g) w).setCell (p:=⟨g,off+k*2,none⟩) (.inl rfl) v0).setCell (p:=⟨g,off+k*2+1,none⟩) (.inl rfl) v1
 ·show (World.setCell _ _ _).heap.size=_
  simp
theorem gRun_store_val {P:Program} {o:Oper} {a:Act} {w:World} {K:Act→World→Prop} (ty:TypeId) (x y:Operand) (ho:o.op=.store ty x y) (hd:o.dst=none)
  (g off n cap k:Nat) (xs:List Value) (e:Nat) (v0 v1:Value) (hx:a.eval x=.pointer (some ⟨g,off+k*2,none⟩)) (hy:a.eval y=.agg #[v0,v1])
  (hs:Sl w e 2 (.slice (some ⟨g,off,none⟩) n cap) n xs) (hk:k<n) (hi:(P.info? ty).map (·.size)=some 2) (h0:v0.oneCell'=true) (h1:v1.oneCell'=true)
  (h:∀ w',Sl w' e 2 (.slice (some ⟨g,off,none⟩) n cap) n ((xs.set (k*2) v0).set (k*2+1) v1)→Keeps (·=g) w w'→w'.heap.size=w.heap.size→K a w'):gRun P o a w K:=by
 obtain ⟨g',o',cap',cur,e1,hb,hc1,hc2,hc3,hc4⟩:=hs.laid (by omega)
 cases e1
 have hth:w.there g (off+k*2) 2:=fun j hj=>by
  have hl:off+k*2+j<cur.length:=by omega
  refine ⟨?_,hb.free _⟩
  rw [hb.cell,List.getElem?_eq_getElem hl];rfl
 have hh:K a (w.setCells g (off+k*2) [v0,v1]):=by
  refine h _ ?_ ?_ ?_
  ·have s1:=hs.set (j:=k*2) (u:=v0) (by omega)
   have s2:=s1.set (j:=k*2+1) (u:=v1) (by omega)
   rw [←Nat.add_assoc] at s2
   exact s2
  ·exact ((Keeps.refl (·=g) w).setCell (p:=⟨g,off+k*2,none⟩) (.inl rfl) v0).setCell (p:=⟨g,off+k*2+1,none⟩) (.inl rfl) v1
  ·show (World.setCell _ _ _).heap.size=_
   simp
 unfold gRun execOp
 simp only [ho,hx,hy,Instr.storeAt,Instr.sureAddr,Sem.run_bind,Sem.run_pure,Result.andThen_ok,run_storeVar_mid w g (off+k*2) ty #[v0,v1] hth (by simpa using hi) (all_oneCell_toArray (cs:=[v0,v1]) (by intro v hv;simp at hv;rcases hv with rfl | rfl <;> assumption))]
 first | exact hh | (show K (a.put o.dst undef) _;rw [hd];exact hh)
end
section
open Go.RowKit
theorem rootOk_iff (k:Int):rootOk k=true↔0≤k∧k<12:=by simp [rootOk]
def Sound (x:St) (j:Nat):Prop:=∀ i,i<j→useBit (usesM x.k) i=true→rootOk (x.at3 i)=true
theorem Sound.next {x:St} {j:Nat} (h:Sound x j) (hb:useBit (usesM x.k) j=true→rootOk (x.at3 j)=true):Sound x (j+1):=fun i hi h1=>by
 rcases Nat.lt_or_eq_of_le (Nat.le_of_lt_succ hi) with h2 | rfl
 ·exact h i h2 h1
 ·exact hb h1
theorem RStepFault_c (x:St) (w:World):Calls Try.prog 8 #[.agg #[.int .i64 x.k, .int .i64 x.r, .int .i64 x.a, .int .i64 x.b, .int .i64 x.i, .int .i64 x.n]] w fun e w'=>e=.returned (.int .i64 (checkM x))∧Keeps (fun _=>False) w w':=by
 have HU:=Hz (fun w=>RUsesOf_c x.k w)
 have HN:=Hz (fun h=>checkM_none (x:=x) h)
 have HR:=Hz (fun j (h1:usesM x.k≠-1) (h2:j<3) (h3:useBit (usesM x.k) j=true) h4=>checkM_root (x:=x) (j:=j) h1 h2 h3 h4)
 have HX:=Hz (fun h (h2:Sound x 3)=>checkM_rest (x:=x) h h2)
 have S0:=Hz (show Sound x 0 from fun i hi=>by omega)
 have SN:=Hz (fun j=>@Sound.next x j)
 have hv:=usesM_vals x.k
 have B1:Blk (w.alloc (.cells #[.int .i64 x.k, .int .i64 x.r, .int .i64 x.a, .int .i64 x.b, .int .i64 x.i, .int .i64 x.n] 23)) w.heap.size [.int .i64 x.k, .int .i64 x.r, .int .i64 x.a, .int .i64 x.b, .int .i64 x.i, .int .i64 x.n] 23:=Blk.newAt _ rfl rfl
 have K1:=Hz ((Kz w).alloc (.cells #[.int .i64 x.k, .int .i64 x.r, .int .i64 x.a, .int .i64 x.b, .int .i64 x.i, .int .i64 x.n] 23))
 have HB:=Hz B1
 clear B1
 obtain ⟨xk,xr,xa,xb,xi,xn⟩:=x
 dsimp only at hv
 generalize hu:usesM xk=u at hv
 have hU:=Hz hu
 dsimp only at HU
 rw [hu] at HU
 go_enter Try.func8,Try.ntmps8
 go_wp2_with fail
 refine (HU.out _).mono ?_
 rintro e w1 ⟨rfl,hk⟩
 have HB1:=Hz (hk.blk HB.out (fun h=>h))
 have K2:=Hz (K1.out.trans hk)
 clear hk HU hu
 generalize w.heap.size=p at *
 have p0:=HB1.out.cell 0;have p1:=HB1.out.cell 1;have p2:=HB1.out.cell 2;have p3:=HB1.out.cell 3;have p4:=HB1.out.cell 4;have p5:=HB1.out.cell 5;have pl:=HB1.out.lt
 simp only [List.getElem?_cons_zero,List.getElem?_cons_succ] at p0 p1 p2 p3 p4 p5
 by_cases hneg:u=-1
 ·have HE:=Hz (HN.out (hU.out.trans hneg))
  subst hneg
  clear hv
  go_wp2_with fail
  go_ret
  exact ⟨ret_i64 HE.out.symm,K2.out⟩
 ·have hnn:usesM xk≠-1:=by rw [hU.out];exact hneg
  have HNN:=Hz hnn
  have hd:decide (u<0)=false:=by simp;omega
  clear hnn
  go_upto_region 5 with (fail)
  generalize hw2:w1.alloc (.cells #[.int .i64 xr, .int .i64 xa, .int .i64 xb] 3)=w2
  have K3:=Hz (show Keeps (fun _=>False) w w2 by rw [←hw2];exact K2.out.alloc _)
  have HB2:=Hz (show Blk w2 p _ _ by rw [←hw2];exact HB1.out.alloc _)
  have HL:=Hz (show Blk w2 w1.heap.size [.int .i64 xr, .int .i64 xa, .int .i64 xb] 3 by rw [←hw2];exact Blk.newAt _ rfl rfl)
  clear p0 p1 p2 p3 p4 p5 pl HB1 K2 hw2
  generalize w1.heap.size=q at *
  have p0:=HB2.out.cell 0;have p5:=HB2.out.cell 5;have pl:=HB2.out.lt
  have q0:=HL.out.cell 0;have q1:=HL.out.cell 1;have q2:=HL.out.cell 2;have ql:=HL.out.lt
  simp only [List.getElem?_cons_zero,List.getElem?_cons_succ] at p0 p5 q0 q1 q2
  go_wp2_with fail
  go_loopw [5] (fun j wr=>∃ i:Nat,i≤3∧j=.int .i64 i∧wr=w2∧Hid (Sound ⟨xk,xr,xa,xb,xi,xn⟩ i)) (fun j _=>3-(intOf j).toNat)
  case atStart=>exact ⟨0,by omega,rfl,rfl,S0⟩
  case round=>
   obtain ⟨j,hj,rfl,rfl,hS⟩:=hrel
   clear S0
   rcases (by omega:j=3∨j=0∨j=1∨j=2) with rfl | hj'
   ·have HX2:=Hz (HX.out HNN.out hS.out)
    clear HX HN HR SN hS hU HNN hv hd
    by_cases k1:xk=1
    ·subst k1
     by_cases n1:xn≥1152921504606846976
     ·have HE:=Hz (show checkM ⟨1,xr,xa,xb,xi,xn⟩=1 by rw [HX2.out,if_pos ⟨rfl,fun h=>by unfold big at h;omega⟩])
      have d1:decide (xn≥1152921504606846976)=true:=by simpa using n1
      clear n1 HX2
      go_wp2_with fail
      go_ret
      exact ⟨ret_i64 HE.out.symm,K3.out⟩
     ·have d1:decide (xn≥1152921504606846976)=false:=by simpa using n1
      by_cases n2:xn < -1152921504606846976
      ·have HE:=Hz (show checkM ⟨1,xr,xa,xb,xi,xn⟩=1 by rw [HX2.out,if_pos ⟨rfl,fun h=>by unfold big at h;omega⟩])
       have d2:decide (xn < -1152921504606846976)=true:=by simpa using n2
       clear n1 n2 HX2
       go_wp2_with fail
       go_ret
       exact ⟨ret_i64 HE.out.symm,K3.out⟩
      ·have HE:=Hz (show checkM ⟨1,xr,xa,xb,xi,xn⟩=0 by rw [HX2.out,if_neg (fun h=>h.2 (by unfold big;omega)),if_neg (fun h=>by omega)])
       have d2:decide (xn < -1152921504606846976)=false:=by simpa using n2
       clear n1 n2 HX2
       go_wp2_with fail
       go_ret
       exact ⟨ret_i64 HE.out.symm,K3.out⟩
    ·have e1:(xk == 1)=false:=by simpa using k1
     by_cases k5:xk=5
     ·subst k5
      by_cases n1:xn<0
      ·have HE:=Hz (show checkM ⟨5,xr,xa,xb,xi,xn⟩=1 by rw [HX2.out,if_neg (fun h=>by omega),if_pos ⟨rfl,fun h=>by omega⟩])
       have d1:decide (xn<0)=true:=by simpa using n1
       clear n1 HX2 k1
       go_wp2_with fail
       go_ret
       exact ⟨ret_i64 HE.out.symm,K3.out⟩
      ·have d1:decide (xn<0)=false:=by simpa using n1
       by_cases n2:xn > 12
       ·have HE:=Hz (show checkM ⟨5,xr,xa,xb,xi,xn⟩=1 by rw [HX2.out,if_neg (fun h=>by omega),if_pos ⟨rfl,fun h=>by omega⟩])
        have d2:decide (12<xn)=true:=by simpa using n2
        clear n1 n2 HX2 k1
        go_wp2_with fail
        go_ret
        exact ⟨ret_i64 HE.out.symm,K3.out⟩
       ·have HE:=Hz (show checkM ⟨5,xr,xa,xb,xi,xn⟩=0 by rw [HX2.out,if_neg (fun h=>by omega),if_neg (fun h=>h.2 (by omega))])
        have d2:decide (12<xn)=false:=by simpa using n2
        clear n1 n2 HX2 k1
        go_wp2_with fail
        go_ret
        exact ⟨ret_i64 HE.out.symm,K3.out⟩
     ·have e5:(xk == 5)=false:=by simpa using k5
      have HE:=Hz (show checkM ⟨xk,xr,xa,xb,xi,xn⟩=0 by rw [HX2.out,if_neg (fun h=>k1 h.1),if_neg (fun h=>k5 h.1)])
      clear k1 k5 HX2
      go_wp2_with fail
      go_ret
      exact ⟨ret_i64 HE.out.symm,K3.out⟩
   ·have HB2:=Hz (fun hb=>(HR.out j HNN.out (by omega) hb))
    have HNX:=Hz (fun h=>(SN.out j hS.out h))
    clear HX HN HR SN hS HNN
    cases hub:useBit u j
    ·have HSN:=Hz (HNX.out (fun h=>by rw [hU.out,hub] at h;cases h))
     clear HNX HB2 hU
     rcases hv with rfl | rfl | rfl | rfl | rfl | rfl <;> rcases hj' with rfl | rfl | rfl <;> first | (exfalso;revert hub;decide) | (exfalso;exact hneg rfl) | skip
     all_goals
      clear hub hneg
      go_wp2_with fail
      go_roundw
      case rel=>exact ⟨_,by decide,by first | rfl | go_num,by first | rfl | trivial,HSN⟩
      case measure=>simp [intOf]
    ·have HNX2:=Hz (fun h=>HNX.out (fun _=>h))
     have HBB:=Hz (HB2.out (by rw [hU.out];exact hub))
     clear HNX HB2 hU
     cases hro:rootOk (St.at3 ⟨xk,xr,xa,xb,xi,xn⟩ j)
     ·have HE:=Hz (HBB.out hro)
      clear HBB HNX2
      have hlim:St.at3 ⟨xk,xr,xa,xb,xi,xn⟩ j<0∨12≤St.at3 ⟨xk,xr,xa,xb,xi,xn⟩ j:=by
       unfold rootOk at hro;simp at hro;omega
      clear hro
      rcases hv with rfl | rfl | rfl | rfl | rfl | rfl <;> rcases hj' with rfl | rfl | rfl <;> first | (exfalso;revert hub;decide) | (exfalso;exact hneg rfl) | skip
      all_goals
       clear hub hneg
       simp [St.at3] at hlim
       rcases hlim with hlim | hlim
       ·have d1:=decide_eq_true hlim
        clear hlim
        go_wp2_with fail
        go_ret
        exact ⟨ret_i64 HE.out.symm,K3.out⟩
       ·have d1:decide (_<(0:Int))=false:=decide_eq_false (Int.not_lt.2 (Int.le_trans (by decide) hlim))
        have d2:=decide_eq_true hlim
        clear hlim
        go_wp2_with fail
        go_ret
        exact ⟨ret_i64 HE.out.symm,K3.out⟩
     ·have HSN:=Hz (HNX2.out hro)
      clear HBB HNX2
      have hlim:0≤St.at3 ⟨xk,xr,xa,xb,xi,xn⟩ j∧St.at3 ⟨xk,xr,xa,xb,xi,xn⟩ j<12:=(rootOk_iff _).1 hro
      clear hro
      rcases hv with rfl | rfl | rfl | rfl | rfl | rfl <;> rcases hj' with rfl | rfl | rfl <;> first | (exfalso;revert hub;decide) | (exfalso;exact hneg rfl) | skip
      all_goals
       clear hub hneg
       simp [St.at3] at hlim
       obtain ⟨l1,l2⟩:=hlim
       have d1:decide (_<(0:Int))=false:=decide_eq_false (Int.not_lt.2 l1)
       have d2:decide ((12:Int)≤_)=false:=decide_eq_false (Int.not_le.2 l2)
       clear l1 l2
       go_wp2_with fail
       go_roundw
       case rel=>exact ⟨_,by decide,by first | rfl | go_num,by first | rfl | trivial,HSN⟩
       case measure=>simp [intOf]
end
section
open Go.RowKit
def usesL:List Int:=[0,1,1,3,7,3,7,7,1,6,3,3,6,3,7,0,0]
theorem uses_index (k:Nat) (hk:k<17) (w:World):(Instr.index 65 (.agg #[.int .i64 0, .int .i64 1, .int .i64 1, .int .i64 3, .int .i64 7, .int .i64 3, .int .i64 7, .int .i64 7, .int .i64 1, .int .i64 6, .int .i64 3, .int .i64 3, .int .i64 6, .int .i64 3, .int .i64 7, .int .i64 0, .int .i64 0]) (.int .i64 (k:Int))).run Try.prog w=.ok (.int .i64 (usesL.getD k 0)) w:=by
 match k,hk with
 | 0,_=>show _=_;kernel_rfl
 | 1,_=>show _=_;kernel_rfl
 | 2,_=>show _=_;kernel_rfl
 | 3,_=>show _=_;kernel_rfl
 | 4,_=>show _=_;kernel_rfl
 | 5,_=>show _=_;kernel_rfl
 | 6,_=>show _=_;kernel_rfl
 | 7,_=>show _=_;kernel_rfl
 | 8,_=>show _=_;kernel_rfl
 | 9,_=>show _=_;kernel_rfl
 | 10,_=>show _=_;kernel_rfl
 | 11,_=>show _=_;kernel_rfl
 | 12,_=>show _=_;kernel_rfl
 | 13,_=>show _=_;kernel_rfl
 | 14,_=>show _=_;kernel_rfl
 | 15,_=>show _=_;kernel_rfl
 | 16,_=>show _=_;kernel_rfl
 | n+17,h=>omega
theorem uses_list:∀ n:Nat,n<17→1≤n→usesM n=usesL.getD n 0:=by decide
theorem Uses_c (k:Int) (w:World):Calls Try.prog 9 #[.int .i64 k] w fun e w'=>e=.returned (.int .i64 (usesM k))∧w=w':=by
 by_cases h1:k<1
 ·have HE:=Hz (show usesM k=-1 by unfold usesM;repeat' (rw [if_neg (by omega)]))
  have d1:decide (k<1)=true:=by simpa using h1
  clear h1
  go_enter Try.func9,Try.ntmps9
  go_wp2_with fail
  go_ret
  exact ⟨ret_i64 HE.out.symm,rfl⟩
 by_cases h2:16<k
 ·have HE:=Hz (show usesM k=-1 by unfold usesM;repeat' (rw [if_neg (by omega)]))
  have d1:decide (k<1)=false:=by simp;omega
  have d2:decide (16<k)=true:=by simpa using h2
  clear h1 h2
  go_enter Try.func9,Try.ntmps9
  go_wp2_with fail
  go_ret
  exact ⟨ret_i64 HE.out.symm,rfl⟩
 ·obtain ⟨n,rfl⟩:∃ n:Nat,k=n:=⟨k.toNat,by omega⟩
  have d1:decide ((n:Int)<1)=false:=by simpa using h1
  have d2:decide (16<(n:Int))=false:=by simpa using h2
  have HE:=Hz (uses_list n (by omega) (by omega))
  have hix:=uses_index n (by omega)
  clear h1 h2
  go_enter Try.func9,Try.ntmps9
  go_wp2_with fail
  go_ret
  exact ⟨ret_i64 HE.out.symm,rfl⟩
def rootB (u:Int) (j:Nat) (k:Int):Bool:=!useBit u j || rootOk k
theorem CheckRoot_c (u:Int) (hu:u=0∨u=1∨u=3∨u=6∨u=7) (j:Nat) (hj:j=0∨j=1∨j=2) (bit:Int) (hbit:bit=2 ^ j) (k:Int) (b:Nat) (w:World) (hc:w.cell? ⟨b,0,none⟩=some (.int .i64 u)) (hl:b<w.heap.size) :
  Calls Try.prog 19 #[.int .i64 k, .int .i64 bit, .pointer (some ⟨b,0,none⟩)] w fun e w'=>e=.returned (.bool (rootB u j k))∧w=w':=by
 have key:∀ z:Bool,decide (k≥0)=z→True:=fun _ _=>trivial
 by_cases h0:k<0
 ·have d1:decide (0≤k)=false:=by simpa using h0
  have HR:=Hz (show rootOk k=false by unfold rootOk;rw [d1];rfl)
  clear h0
  rcases hu with rfl | rfl | rfl | rfl | rfl <;> rcases hj with rfl | rfl | rfl <;> subst hbit <;> (go_enter Try.func19,Try.ntmps19;go_wp2_with fail;go_ret;exact ⟨ret_bool (by unfold rootB;rw [HR.out];decide),rfl⟩)
 ·have d1:decide (0≤k)=true:=by simp;omega
  by_cases h1:k<12
  ·have d2:decide (k<12)=true:=by simpa using h1
   have HR:=Hz (show rootOk k=true by unfold rootOk;rw [d1,d2];rfl)
   clear h0 h1
   rcases hu with rfl | rfl | rfl | rfl | rfl <;> rcases hj with rfl | rfl | rfl <;> subst hbit <;> (go_enter Try.func19,Try.ntmps19;go_wp2_with fail;go_ret;exact ⟨ret_bool (by unfold rootB;rw [HR.out];decide),rfl⟩)
  ·have d2:decide (k<12)=false:=by simpa using h1
   have HR:=Hz (show rootOk k=false by unfold rootOk;rw [d1,d2];rfl)
   clear h0 h1
   rcases hu with rfl | rfl | rfl | rfl | rfl <;> rcases hj with rfl | rfl | rfl <;> subst hbit <;> (go_enter Try.func19,Try.ntmps19;go_wp2_with fail;go_ret;exact ⟨ret_bool (by unfold rootB;rw [HR.out];decide),rfl⟩)
end
section
open Go.RowKit
theorem rootB_bad {x:St} (h:usesM x.k≠-1) {j:Nat} (hj:j<3) (hb:rootB (usesM x.k) j (x.at3 j)=false):checkM x=1:=by
 unfold rootB at hb
 simp only [Bool.or_eq_false_iff,Bool.not_eq_false'] at hb
 exact checkM_root h hj hb.1 hb.2
theorem rootB_good {x:St} (h0:rootB (usesM x.k) 0 x.r=true) (h1:rootB (usesM x.k) 1 x.a=true) (h2:rootB (usesM x.k) 2 x.b=true):∀ j,j<3→useBit (usesM x.k) j=true→rootOk (x.at3 j)=true:=by
 intro j hj hb
 have key:∀ {k:Int},rootB (usesM x.k) j k=true→rootOk k=true:=fun {k} h=>by
  unfold rootB at h
  rw [hb] at h
  simpa using h
 rcases (by omega:j=0∨j=1∨j=2) with rfl | rfl | rfl
 ·exact key h0
 ·exact key h1
 ·exact key h2
theorem Check_c (x:St) (w:World):Calls Try.prog 7 #[.agg #[.int .i64 x.k, .int .i64 x.r, .int .i64 x.a, .int .i64 x.b, .int .i64 x.i, .int .i64 x.n]] w fun e w'=>e=.returned (.int .i64 (checkM x))∧Keeps (fun _=>False) w w':=by
 have HU:=Hz (fun w=>Uses_c x.k w)
 have HN:=Hz (fun h=>checkM_none (x:=x) h)
 have HR:=Hz (fun (h1:usesM x.k≠-1) j (h2:j<3) h3=>rootB_bad (x:=x) h1 (j:=j) h2 h3)
 have HX:=Hz (fun (h:usesM x.k≠-1) h0 h1 h2=>checkM_rest (x:=x) h (rootB_good h0 h1 h2))
 have hv:=usesM_vals x.k
 have B1:Blk (w.alloc (.cells #[.int .i64 x.k, .int .i64 x.r, .int .i64 x.a, .int .i64 x.b, .int .i64 x.i, .int .i64 x.n] 23)) w.heap.size [.int .i64 x.k, .int .i64 x.r, .int .i64 x.a, .int .i64 x.b, .int .i64 x.i, .int .i64 x.n] 23:=Blk.newAt _ rfl rfl
 have ka:=(Kz w).alloc (.cells #[.int .i64 x.k, .int .i64 x.r, .int .i64 x.a, .int .i64 x.b, .int .i64 x.i, .int .i64 x.n] 23)
 obtain ⟨xk,xr,xa,xb,xi,xn⟩:=x
 dsimp only at hv B1 ka
 generalize hu:usesM xk=u at hv
 have hU:=Hz hu
 dsimp only at HU HR HX HN
 rw [hu] at HU HR HX HN
 clear hu
 go_enter Try.func7,Try.ntmps7
 go_wp2_with fail
 generalize w.alloc (.cells #[.int .i64 xk, .int .i64 xr, .int .i64 xa, .int .i64 xb, .int .i64 xi, .int .i64 xn] 23)=w1 at *
 generalize w.heap.size=p at *
 refine (HU.out _).mono ?_
 rintro e _ ⟨rfl,rfl⟩
 have p0:=B1.cell 0;have p1:=B1.cell 1;have p2:=B1.cell 2;have p3:=B1.cell 3;have p5:=B1.cell 5;have pl:=B1.lt
 simp only [List.getElem?_cons_zero,List.getElem?_cons_succ] at p0 p1 p2 p3 p5
 have HB:=Hz B1;have K1:=Hz ka
 clear B1 ka HU
 by_cases hneg:u=-1
 ·have HE:=Hz (HN.out hneg)
  subst hneg
  clear hv
  go_wp2_with fail
  go_ret
  exact ⟨ret_i64 HE.out.symm,K1.out.alloc _⟩
 ·have hd:decide (u<0)=false:=by simp;omega
  have hu5:u=0∨u=1∨u=3∨u=6∨u=7:=by omega
  have HNN:=Hz hneg
  have hR:=HR.out hneg;have hX:=HX.out hneg
  have HR:=Hz hR;have HX:=Hz hX
  have HU5:=Hz hu5
  clear hneg hv hR hX hu5
  go_upto_region 4 with (fail)
  have ka:=(Kz w1).alloc (.cells #[.int .i64 u] 3)
  have hub:Blk (w1.alloc (.cells #[.int .i64 u] 3)) w1.heap.size [.int .i64 u] 3:=Blk.newAt _ rfl rfl
  have HB2:=Hz (ka.blk HB.out (fun h=>h));have K2:=Hz (K1.out.trans ka)
  clear p0 p1 p2 p3 p5 pl ka HB K1
  generalize w1.alloc (.cells #[.int .i64 u] 3)=w2 at *
  generalize w1.heap.size=q at *
  have p0:=HB2.out.cell 0;have p1:=HB2.out.cell 1;have p2:=HB2.out.cell 2;have p3:=HB2.out.cell 3;have p5:=HB2.out.cell 5;have pl:=HB2.out.lt
  simp only [List.getElem?_cons_zero,List.getElem?_cons_succ] at p0 p1 p2 p3 p5
  have q0:=hub.cell 0;have ql:=hub.lt
  simp only [List.getElem?_cons_zero] at q0
  have C0:=Hz (CheckRoot_c u HU5.out 0 (by decide) 1 rfl xr q w2 q0 ql)
  have C1:=Hz (CheckRoot_c u HU5.out 1 (by decide) 2 rfl xa q w2 q0 ql)
  have C2:=Hz (CheckRoot_c u HU5.out 2 (by decide) 4 rfl xb q w2 q0 ql)
  clear hub q0 ql
  obtain ⟨z0,h0⟩:∃ z,rootB u 0 xr=z:=⟨_,rfl⟩
  obtain ⟨z1,h1⟩:∃ z,rootB u 1 xa=z:=⟨_,rfl⟩
  obtain ⟨z2,h2⟩:∃ z,rootB u 2 xb=z:=⟨_,rfl⟩
  rw [h0] at C0;rw [h1] at C1;rw [h2] at C2
  have H0:=Hz h0;have H1:=Hz h1;have H2:=Hz h2
  clear h0 h1 h2
  go_wp2_with fail
  refine C0.out.mono ?_
  rintro e _ ⟨rfl,rfl⟩
  cases z0
  ·have HE:=Hz (HR.out 0 (by decide) H0.out)
   go_wp2_with fail
   go_ret
   exact ⟨ret_i64 HE.out.symm,K2.out⟩
  go_wp2_with fail
  refine C1.out.mono ?_
  rintro e _ ⟨rfl,rfl⟩
  cases z1
  ·have HE:=Hz (HR.out 1 (by decide) H1.out)
   go_wp2_with fail
   go_ret
   exact ⟨ret_i64 HE.out.symm,K2.out⟩
  go_wp2_with fail
  refine C2.out.mono ?_
  rintro e _ ⟨rfl,rfl⟩
  cases z2
  ·have HE:=Hz (HR.out 2 (by decide) H2.out)
   go_wp2_with fail
   go_ret
   exact ⟨ret_i64 HE.out.symm,K2.out⟩
  have HX2:=Hz (HX.out H0.out H1.out H2.out)
  clear HX HR C0 C1 C2
  by_cases k1:xk=1
  ·subst k1
   by_cases n2:xn < -1152921504606846976
   ·have HE:=Hz (show checkM ⟨1,xr,xa,xb,xi,xn⟩=1 by rw [HX2.out,if_pos ⟨rfl,fun h=>by unfold big at h;omega⟩])
    have d2:decide (xn < -1152921504606846976)=true:=by simpa using n2
    clear n2 HX2
    go_wp2_with fail
    go_ret
    exact ⟨ret_i64 HE.out.symm,K2.out⟩
   have d2:decide (xn < -1152921504606846976)=false:=by simpa using n2
   by_cases n1:1152921504606846976≤xn
   ·have HE:=Hz (show checkM ⟨1,xr,xa,xb,xi,xn⟩=1 by rw [HX2.out,if_pos ⟨rfl,fun h=>by unfold big at h;omega⟩])
    have d1:decide (1152921504606846976≤xn)=true:=by simpa using n1
    clear n1 n2 HX2
    go_wp2_with fail
    go_ret
    exact ⟨ret_i64 HE.out.symm,K2.out⟩
   ·have HE:=Hz (show checkM ⟨1,xr,xa,xb,xi,xn⟩=0 by rw [HX2.out,if_neg (fun h=>h.2 (by unfold big;omega)),if_neg (fun h=>by omega)])
    have d1:decide (1152921504606846976≤xn)=false:=by simpa using n1
    clear n1 n2 HX2
    go_wp2_with fail
    go_ret
    exact ⟨ret_i64 HE.out.symm,K2.out⟩
  ·have e1:(xk == 1)=false:=by simpa using k1
   by_cases k5:xk=5
   ·subst k5
    by_cases n1:xn<0
    ·have HE:=Hz (show checkM ⟨5,xr,xa,xb,xi,xn⟩=1 by rw [HX2.out,if_neg (fun h=>by omega),if_pos ⟨rfl,fun h=>by omega⟩])
     have d1:decide (xn<0)=true:=by simpa using n1
     clear n1 HX2 k1
     go_wp2_with fail
     go_ret
     exact ⟨ret_i64 HE.out.symm,K2.out⟩
    have d1:decide (xn<0)=false:=by simpa using n1
    by_cases n2:12<xn
    ·have HE:=Hz (show checkM ⟨5,xr,xa,xb,xi,xn⟩=1 by rw [HX2.out,if_neg (fun h=>by omega),if_pos ⟨rfl,fun h=>by omega⟩])
     have d2:decide (12<xn)=true:=by simpa using n2
     clear n1 n2 HX2 k1
     go_wp2_with fail
     go_ret
     exact ⟨ret_i64 HE.out.symm,K2.out⟩
    ·have HE:=Hz (show checkM ⟨5,xr,xa,xb,xi,xn⟩=0 by rw [HX2.out,if_neg (fun h=>by omega),if_neg (fun h=>h.2 (by omega))])
     have d2:decide (12<xn)=false:=by simpa using n2
     clear n1 n2 HX2 k1
     go_wp2_with fail
     go_ret
     exact ⟨ret_i64 HE.out.symm,K2.out⟩
   ·have e5:(xk == 5)=false:=by simpa using k5
    have HE:=Hz (show checkM ⟨xk,xr,xa,xb,xi,xn⟩=0 by rw [HX2.out,if_neg (fun h=>k1 h.1),if_neg (fun h=>k5 h.1)])
    clear k1 k5 HX2
    go_wp2_with fail
    go_ret
    exact ⟨ret_i64 HE.out.symm,K2.out⟩
end
section
open Go.RowKit
def WH.In (h:WH) (k:Nat):Prop:=(k=h.pa∨k=h.g)∨k=h.cb
def WoodIn (w:World) (h:WH) (w':World) (O:Wo):Prop:=WoodAt w' h O∧Keeps h.In w w'
theorem WH.In.own {h:WH} {k:Nat} (hk:h.In k):h.Own k:=by
 rcases hk with hk | hk
 ·exact .inr (.inl hk)
 ·exact .inr (.inr (.inl (.inr hk)))
section
variable {w w':World} {h:WH} {O O':Wo}
theorem WoodIn.arena (H:WoodAt w h O) {A:Ar} (t:ArenaTo w h.pa h.g w' A) (hn:A.nur=O.ar.nur):WoodIn w h w' { O with ar:=A }:=
 ⟨H.arena t hn,t.k.mono (fun k _ hk=>.inl hk)⟩
theorem WSet_in (x i y:Int) (H:WoodAt w h O) (hy:R64 y) :
  Calls Try.prog 31 #[.pointer (some ⟨h.p,0,none⟩), .int .i64 x, .int .i64 i, .int .i64 y] w fun e w'=>
   e=.returned (.int .i64 (O.set x i y).1)∧WoodIn w h w' (O.set x i y).2:=by
 have HH:=Hz H;have HY:=Hz hy
 have pl:=H.hp.lt
 have h4:=H.ok.ha.h4
 have HN:=Hz (show 0≤(O.ar.nur:Int)∧(O.ar.nur:Int)≤1000000 by have:=H.ok.ha.h1;have:=H.ok.ha.h2;have:=H.ok.ha.h3;omega)
 by_cases hc:(O.ar.get x i).2=0
 ·have HE:=Hz (Wo.set_yes (y:=y) hc)
  obtain ⟨p1,-,p2,p3,p4,p5,-⟩:=get_place H.ok.ha hc
  have p6:=(O.ar.thing_fields (x/4)).2
  have p7:i<12:=by omega
  have P1:=Hz p1;have HC:=Hz hc
  clear H hy hc p1 p5 p6
  go_enter Try.func31,Try.ntmps31
  go_wp2_with fail
  refine (Get_c x i HH.out).mono ?_
  rintro e w1 ⟨rfl,rfl⟩
  rw [HC.out]
  go_wp2_with fail
  refine (At_yes x _ P1.out).mono ?_
  rintro e w1 ⟨rfl,rfl⟩
  obtain ⟨c0,-,-,-⟩:=HH.out.ptrs
  go_wp2_with fail
  refine (Store_c (x/4+1+i) y _ HH.out.ha HY.out).mono ?_
  rintro e w1 ⟨rfl,ht⟩
  have HT:=Hz ht.k
  have HW:=Hz (HH.out.arena ht (O.ar.store_nur _ _))
  have HTO:=Hz (WoodIn.arena HH.out ht (O.ar.store_nur _ _))
  clear c0 pl ht
  generalize hA:O.ar.store (x/4+1+i) y=A at *
  have HA:=Hz hA;clear hA
  obtain ⟨c0,c1,-,-⟩:=HW.out.ptrs
  have pl:=HW.out.hp.lt
  by_cases hy4:y%4=1
  ·have HY4:=Hz hy4
   cases hyo:A.young (y/4)
   ·have HF:=Hz (show ¬ (y%4=1∧A.young (y/4)=true∧A.old (x/4)=true) by rw [hyo];exact fun h=>by cases h.2.1)
    clear hy4
    go_wp2_with fail
    refine (At_yes y _ HY4.out).mono ?_
    rintro e w2 ⟨rfl,rfl⟩
    go_wp2_with fail
    refine (Young_c (y/4) _ HW.out.ha).mono ?_
    rintro e w2 ⟨rfl,rfl⟩
    rw [hyo]
    go_wp2_with fail
    go_ret
    refine ⟨by rw [HE.out];rfl,?_⟩
    rw [HE.out,if_neg HF.out]
    exact HTO.out
   ·cases hol:A.old (x/4)
    ·have HF:=Hz (show ¬ (y%4=1∧A.young (y/4)=true∧A.old (x/4)=true) by rw [hol];exact fun h=>by cases h.2.2)
     clear hy4
     go_wp2_with fail
     refine (At_yes y _ HY4.out).mono ?_
     rintro e w2 ⟨rfl,rfl⟩
     go_wp2_with fail
     refine (Young_c (y/4) _ HW.out.ha).mono ?_
     rintro e w2 ⟨rfl,rfl⟩
     rw [hyo]
     go_wp2_with fail
     refine (Old_c (x/4) _ HW.out.ha).mono ?_
     rintro e w2 ⟨rfl,rfl⟩
     rw [hol]
     go_wp2_with fail
     go_ret
     refine ⟨by rw [HE.out];rfl,?_⟩
     rw [HE.out,if_neg HF.out]
     exact HTO.out
    ·have HF:=Hz (show (y%4=1∧A.young (y/4)=true∧A.old (x/4)=true) from ⟨hy4,hyo,hol⟩)
     clear hy4
     go_wp2_with fail
     refine (At_yes y _ HY4.out).mono ?_
     rintro e w2 ⟨rfl,rfl⟩
     go_wp2_with fail
     refine (Young_c (y/4) _ HW.out.ha).mono ?_
     rintro e w2 ⟨rfl,rfl⟩
     rw [hyo]
     go_wp2_with fail
     refine (Old_c (x/4) _ HW.out.ha).mono ?_
     rintro e w2 ⟨rfl,rfl⟩
     rw [hol]
     go_wp2_with fail
     have hcc:=HW.out.hc
     have hcl:=HW.out.ok.hc
     have hnn:A.nur=O.ar.nur:=by rw [←HA.out];exact O.ar.store_nur _ _
     refine (Mark_c h.pc h.cb A.nur (x/4) O.cd _ hcc (by rw [hnn];exact HN.out.1) (by rw [hnn];exact HN.out.2) (by omega) (by omega) (by simpa using Nat.le_trans hcl (by decide))).mono ?_
     rintro e w2 ⟨rfl,hc2,hk2⟩
     have HTO2:=Hz (show WoodIn w h w2 { O with ar:=A,cd:=markL O.ar.nur O.cd (x/4) } by
      have:=HW.out.cards hc2 (by rw [markL_length];exact hcl) hk2
      rw [hnn] at this
      exact ⟨this,(HT.out.mono (fun k _ hk=>.inl hk)).then hk2 (fun k hk=>.inl (.inr hk))⟩)
     clear hcc hcl hnn hc2 hk2
     go_wp2_with fail
     go_ret
     refine ⟨by rw [HE.out];rfl,?_⟩
     rw [HE.out,if_pos HF.out]
     exact HTO2.out
  ·have HY4:=Hz hy4
   have HF:=Hz (show ¬ (y%4=1∧A.young (y/4)=true∧A.old (x/4)=true) from fun h=>hy4 h.1)
   clear hy4
   go_wp2_with fail
   refine (At_no y _ HY4.out).mono ?_
   rintro e w2 ⟨rfl,rfl⟩
   go_wp2_with fail
   go_ret
   refine ⟨by rw [HE.out];rfl,?_⟩
   rw [HE.out,if_neg HF.out]
   exact HTO.out
 ·have HE:=Hz (Wo.set_no (y:=y) hc)
  have HTC:=Hz (Get_c x i H)
  obtain ⟨⟨a,c⟩,hT⟩:∃ t,O.ar.get x i=t:=⟨_,rfl⟩
  rw [hT] at hc HE HTC
  dsimp only at hc HE HTC
  have hcb:(c != 0)=true:=by simpa using hc
  clear H hc hT
  go_enter Try.func31,Try.ntmps31
  go_wp2_with fail
  refine HTC.out.mono ?_
  rintro e w1 ⟨rfl,rfl⟩
  go_wp2_with fail
  go_ret
  refine ⟨by rw [HE.out];rfl,?_⟩
  rw [HE.out]
  exact ⟨HH.out,Keeps.refl _ _⟩
end
end
section
open Go.RowKit
section
variable {w w':World} {h:WH} {O:Wo}
theorem WoodAt.roots (H:WoodAt w h O):∃ g o cap,h.ro=.slice (some ⟨g,o,none⟩) O.rt.length cap∧ownB h.ro g∧g<w.heap.size∧w.cell? ⟨h.p,3,none⟩=some (.slice (some ⟨g,o,none⟩) O.rt.length cap)∧(∀ k,w.frozen? ⟨g,k,none⟩=false) ∧
  ∀ k,k<O.rt.length→w.cell? ⟨g,o+k,none⟩=some (.int .i64 (O.rt.getD k 0)):=by
 obtain ⟨ao,cap,e,hrd,-,-⟩:=H.hr.rd
 have h12:=H.ok.h12
 obtain ⟨g,o,rfl,hg,hc⟩:=hrd (by intro e;have:=congrArg List.length e;rw [List.length_map,h12] at this;cases this)
 have hown:ownB h.ro g:=by rw [e];rfl
 obtain ⟨-,cur,hb⟩:=H.hr.own hown
 refine ⟨g,o,cap,e,hown,hg,by have:=H.ptrs.2.2.2;rw [e] at this;exact this,fun k=>hb.free k,fun k hk=>?_⟩
 rw [hc k (by simpa using hk)]
 simp [List.getD,hk]
theorem WoodAt.setRoot (H:WoodAt w h O) {g o cap k:Nat} {x:Int} (e:h.ro=.slice (some ⟨g,o,none⟩) O.rt.length cap) (hk:k<O.rt.length) (hx:R64 x) :
  WoodAt (w.setCell ⟨g,o+k,none⟩ (.int .i64 x)) h { O with rt:=O.rt.set k x }∧Keeps (ownB h.ro) w (w.setCell ⟨g,o+k,none⟩ (.int .i64 x)):=by
 have hown:ownB h.ro g:=by rw [e];rfl
 have kk:Keeps (ownB h.ro) w (w.setCell ⟨g,o+k,none⟩ (.int .i64 x)):=(Keeps.refl _ _).setCell (p:=⟨g,o+k,none⟩) (.inl hown) _
 refine ⟨⟨kk.blk H.hp (H.ro_ne H.hp (by decide)),H.ha.keep kk (H.ro_ne H.ha.hp (by decide)) H.ap,H.hc.keep kk (H.ro_ne H.hc.hp (by decide)) (H.ro_ne H.hc.hq (by decide)),H.hs.keep kk (fun b hb=>?_),?_,H.ap, { H.ok with h12:=by simpa using H.ok.h12,hR:=fun y hy=>?_ }⟩,kk⟩
 ·obtain ⟨c,T,hc,hT⟩:=H.hs.fp_type hb
  rcases hT with rfl | rfl
  ·exact H.ro_ne hc (by decide)
  ·exact H.ro_ne hc (by decide)
 ·have hs:=H.hr
  rw [e] at hs ⊢
  have:=hs.set (j:=k) (u:=.int .i64 x) (by omega)
  show Sl _ _ _ _ (O.rt.set k x).length ((O.rt.set k x).map _)
  rw [List.length_set,List.map_set]
  exact this
 ·rcases List.mem_or_eq_of_mem_set hy with h1 | rfl
  ·exact H.ok.hR y h1
  ·exact hx
end
end
section
open Go.RowKit
theorem meas_lt {m k:Nat} {x y:Value} (hx:x=.int .i64 ((k+1:Nat):Int)) (hy:y=.int .i64 (k:Int)) (h:k<m):m-(intOf x).toNat<m-(intOf y).toNat:=by
 subst hx;subst hy;simp [intOf];omega
section
variable {w0 w w':World} {p:Nat} {h:WH} {O O':Wo}
end
end
section
open Go.RowKit
structure HH where
 p:Nat
 a:WH
def HH.Own (h:HH) (k:Nat):Prop:=k=h.p∨h.a.Own k
structure HeapAt (w:World) (h:HH) (O:Wo):Prop where
 hp:Blk w h.p [.pointer (some ⟨h.a.p,0,none⟩)] 38
 H:WoodAt w h.a O
def HeapTo (w:World) (h:HH) (w':World) (O:Wo):Prop:=∃ h',HeapAt w' h' O∧h'.p=h.p∧Keeps h.Own w w'∧∀ k,h'.Own k→h.Own k∨w.heap.size≤k
section
variable {w w':World} {h:HH} {O O':Wo}
theorem HeapAt.p_a (B:HeapAt w h O):¬ h.a.Own h.p:=fun h1=>by
 obtain ⟨c,T,hc,hT⟩:=B.H.own_type h1
 rcases hT with rfl | rfl | rfl | rfl | rfl | rfl | rfl <;> exact hc.ne B.hp (by decide) rfl
theorem HeapAt.own_lt (B:HeapAt w h O) {k:Nat} (hk:h.Own k):k<w.heap.size:=by
 rcases hk with rfl | hk
 ·exact B.hp.lt
 ·exact B.H.own_lt hk
theorem HeapAt.keep {S:Nat→Prop} (B:HeapAt w h O) (k:Keeps S w w') (hn:∀ b,h.Own b→¬ S b):HeapAt w' h O:=⟨k.blk B.hp (hn _ (.inl rfl)),B.H.keep k (fun b hb=>hn b (.inr hb))⟩
theorem HeapAt.same (B:HeapAt w h O) (k:Keeps (fun _=>False) w w'):HeapAt w' h O:=B.keep k (fun _ _ h=>h)
theorem HeapTo.same (B:HeapAt w h O) (k:Keeps (fun _=>False) w w'):HeapTo w h w' O:=⟨h,B.same k,rfl,k.mono (fun _ _ h=>h.elim),fun k hk=>.inl hk⟩
theorem HeapTo.wood (B:HeapAt w h O) (t:WoodTo w h.a w' O'):HeapTo w h w' O':=by
 obtain ⟨h',H',e',k',o'⟩:=t
 refine ⟨⟨h.p,h'⟩,⟨?_,H'⟩,rfl,k'.mono (fun b _ hb=>.inr hb),fun k hk=>?_⟩
 ·have:=k'.blk B.hp B.p_a
  rw [←e'] at this
  exact this
 ·rcases hk with hk | hk
  ·exact .inl (.inl hk)
  ·exact (o' k hk).imp (fun h=>.inr h) id
theorem HeapTo.from_same {w1:World} (k:Keeps (fun _=>False) w w1) (t:HeapTo w1 h w' O'):HeapTo w h w' O':=by
 obtain ⟨h1,H1,e1,k1,o1⟩:=t
 exact ⟨h1,H1,e1,(k.mono (fun _ _ h=>h.elim)).trans k1,fun b hb=>(o1 b hb).imp id (fun h=>Nat.le_trans k.size h)⟩
theorem HeapAt.inW (B:HeapAt w h O) (t:WoodIn w h.a w' O'):HeapAt w' h O'∧Keeps h.Own w w':=by
 have kk:=t.2.mono (fun k _ hk=>hk.own)
 exact ⟨⟨kk.blk B.hp B.p_a,t.1⟩,kk.mono (fun b _ hb=>.inr hb)⟩
theorem HeapAt.rootW (B:HeapAt w h O) {g o cap k:Nat} {x:Int} (e:h.a.ro=.slice (some ⟨g,o,none⟩) 12 cap) (hk:k<12) (hx:R64 x) :
  HeapAt (w.setCell ⟨g,o+k,none⟩ (.int .i64 x)) h (O.setRt k x)∧Keeps h.Own w (w.setCell ⟨g,o+k,none⟩ (.int .i64 x)):=by
 have h12:=B.H.ok.h12
 obtain ⟨H',k'⟩:=B.H.setRoot (k:=k) (x:=x) (by rw [h12];exact e) (by rw [h12];exact hk) hx
 have kk:Keeps h.a.Own w (w.setCell ⟨g,o+k,none⟩ (.int .i64 x)):=k'.mono (fun b _ hb=>.inr (.inr (.inr (.inr hb))))
 refine ⟨⟨kk.blk B.hp B.p_a,?_⟩,kk.mono (fun b _ hb=>.inr hb)⟩
 unfold Wo.setRt
 rw [Int.toNat_natCast]
 exact H'
theorem HeapAt.pc (B:HeapAt w h O):w.cell? ⟨h.p,0,none⟩=some (.pointer (some ⟨h.a.p,0,none⟩))∧h.p<w.heap.size:=⟨B.hp.cell 0,B.hp.lt⟩
theorem HeapAt.roots (B:HeapAt w h O):∃ g o cap,h.a.ro=.slice (some ⟨g,o,none⟩) 12 cap∧ownB h.a.ro g∧w.cell? ⟨h.a.p,0,none⟩=some (.pointer (some ⟨h.a.pa,0,none⟩))∧w.cell? ⟨h.a.p,3,none⟩=some (.slice (some ⟨g,o,none⟩) 12 cap)∧h.a.p<w.heap.size ∧
  g<w.heap.size∧(∀ k,w.frozen? ⟨g,k,none⟩=false)∧∀ k:Nat,k<12→w.cell? ⟨g,o+k,none⟩=some (.int .i64 (O.rtA k)):=by
 have h12:=B.H.ok.h12
 obtain ⟨g',o',cap',hro,hown,hgl,q3,fz,rcs⟩:=B.H.roots
 rw [h12] at hro q3
 refine ⟨g',o',cap',hro,hown,B.H.ptrs.1,q3,B.H.hp.lt,hgl,fz,fun k hk=>?_⟩
 have:=rcs k (by omega)
 unfold Wo.rtA
 rw [Int.toNat_natCast]
 exact this
theorem rtA_R64 (h:O.ok) (k:Int):R64 (O.rtA k):=by
 unfold Wo.rtA
 rw [List.getD_eq_getElem?_getD]
 by_cases hk:k.toNat<O.rt.length
 ·rw [List.getElem?_eq_getElem hk];exact h.hR _ (List.getElem_mem hk)
 ·rw [List.getElem?_eq_none (by omega)];unfold R64;decide
def HeapRet (w:World) (n o:Int) (e:Ending) (w':World):Prop:=
 ∃ h:HH,e=.returned (.tuple #[.pointer (some ⟨h.p,0,none⟩), .agg #[.int .i64 0, .int .i64 0]])∧HeapAt w' h (Wo.new n o)∧Keeps (fun _=>False) w w'∧∀ k,h.Own k→w.heap.size≤k
theorem HNew_yes (n o:Int) (w:World) (h:Ar.fits n o=true) :
  Calls Try.prog 11 #[.int .i64 n, .int .i64 o] w fun e w'=>HeapRet w n o e w':=by
 go_enter Try.func11,Try.ntmps11
 go_wp2_with fail
 refine (WNew_yes n o _ h).mono ?_
 rintro e w1 ⟨h,rfl,H1,k1,o1⟩
 have hb1:Blk w1 w.heap.size [.int .i64 0, .int .i64 0] 31:=k1.blk (Blk.newAt _ rfl rfl) (fun h=>h)
 have ka0:=(Kz w).alloc (.cells #[.int .i64 0, .int .i64 0] 31)
 have HK:=Hz (ka0.trans k1);have HA:=Hz H1;have HB:=Hz hb1
 have HO:Hid (∀ k,h.Own k→w.heap.size+1≤k):=fun k hk=>by have:=o1 k hk;simpa using this
 clear H1 k1 o1 hb1 ka0
 generalize hb0:w.heap.size=b0 at HB HO ⊢
 have HSB:=Hz (Nat.le_of_eq hb0)
 have HB0:=Hz hb0.symm
 clear hb0
 go_upto_region 2 with (fail)
 have kb:=(Kz w1).alloc (.cells #[.int .i64 0, .int .i64 0] 31)
 have d0:(w1.alloc (.cells #[.int .i64 0, .int .i64 0] 31)).cell? ⟨w1.heap.size,0,none⟩=some (.int .i64 0):=(Blk.new w1 [.int .i64 0, .int .i64 0] 31).cell 0
 have dl:w1.heap.size<(w1.alloc (.cells #[.int .i64 0, .int .i64 0] 31)).heap.size:=by simp
 have HK2:=Hz (HK.out.trans kb);have HA2:=Hz (HA.out.keep kb (fun _ _ h=>h));have HB2:=Hz (kb.blk HB.out (fun h=>h))
 clear kb HK HA HB
 generalize w1.alloc (.cells #[.int .i64 0, .int .i64 0] 31)=w2 at *
 have f0:=HB2.out.free 0;have f1:=HB2.out.free 1;have c0:=HB2.out.cell 0;have c1:=HB2.out.cell 1;have cl:=HB2.out.lt
 simp only [List.getElem?_cons_zero,List.getElem?_cons_succ] at c0 c1
 go_wp2_with fail
 have set:=((Keeps.refl (·=b0) w2).setCell (p:=⟨b0,0,none⟩) (.inl rfl) (.int .i64 0)).setCell (p:=⟨b0,1,none⟩) (.inl rfl) (.int .i64 0)
 have ka:=(Kz ((w2.setCell ⟨b0,0,none⟩ (.int .i64 0)).setCell ⟨b0,1,none⟩ (.int .i64 0))).alloc (.cells #[.pointer (some ⟨h.p,0,none⟩)] 38)
 have hbN:=((HB2.out.setSame 0 (.int .i64 0)).setSame 1 (.int .i64 0)).alloc (.cells #[.pointer (some ⟨h.p,0,none⟩)] 38)
 have x0':=hbN.cell 0;have x1':=hbN.cell 1
 simp only [List.set_cons_zero,List.set_cons_succ,List.getElem?_cons_zero,List.getElem?_cons_succ] at x0' x1'
 refine bodyPost_ret (v:=.tuple #[.pointer (some ⟨w2.heap.size,0,none⟩), .agg #[.int .i64 0, .int .i64 0]]) (by simp [results,Try.results11,go_sem,x0',x1']) rfl ?_
 refine ⟨⟨w2.heap.size,h⟩,rfl,⟨Blk.newAt _ (by simp) rfl,(HA2.out.keep set (fun b hb e=>by have:=HO.out b hb;omega)).keep ka (fun _ _ h=>h)⟩,?_,fun k hk=>?_⟩
 ·refine (HK2.out.then set (fun k hk=>.inr ?_)).trans ka
  rw [hk];exact HSB.out
 ·rcases hk with rfl | hk
  ·exact HK2.out.size
  ·have:=HO.out k hk;have:=HSB.out;have:=HB0.out;omega
theorem HNew_no (n o:Int) (w:World) (h:Ar.fits n o=false) :
  Calls Try.prog 11 #[.int .i64 n, .int .i64 o] w fun e w'=>e=.returned (.tuple #[.pointer none, .agg #[.int .i64 1, .int .i64 (-1)]])∧Keeps (fun _=>False) w w':=by
 go_enter Try.func11,Try.ntmps11
 go_wp2_with fail
 refine (WNew_no n o _ h).mono ?_
 rintro e w1 ⟨rfl,hk⟩
 have ka0:=(Kz w).alloc (.cells #[.int .i64 0, .int .i64 0] 31)
 have hb1:Blk w1 w.heap.size [.int .i64 0, .int .i64 0] 31:=hk.blk (Blk.newAt _ rfl rfl) (fun h=>h)
 have HK:=Hz (ka0.trans hk);have HB:=Hz hb1
 clear hk hb1 ka0
 generalize hb0:w.heap.size=b0 at HB ⊢
 have HSB:=Hz (Nat.le_of_eq hb0)
 clear hb0
 go_upto_region 2 with (fail)
 have kb:=(Kz w1).alloc (.cells #[.int .i64 1, .int .i64 (-1)] 31)
 have hn:=Blk.new w1 [.int .i64 1, .int .i64 (-1)] 31
 have d0:(w1.alloc (.cells #[.int .i64 1, .int .i64 (-1)] 31)).cell? ⟨w1.heap.size,0,none⟩=some (.int .i64 1):=hn.cell 0
 have d1:(w1.alloc (.cells #[.int .i64 1, .int .i64 (-1)] 31)).cell? ⟨w1.heap.size,1,none⟩=some (.int .i64 (-1)):=hn.cell 1
 have dl:w1.heap.size<(w1.alloc (.cells #[.int .i64 1, .int .i64 (-1)] 31)).heap.size:=by simp
 have HK2:=Hz (HK.out.trans kb);have HB2:=Hz (kb.blk HB.out (fun h=>h))
 clear kb HK HB hn
 generalize w1.alloc (.cells #[.int .i64 1, .int .i64 (-1)] 31)=w2 at *
 have f0:=HB2.out.free 0;have f1:=HB2.out.free 1;have c0:=HB2.out.cell 0;have c1:=HB2.out.cell 1;have cl:=HB2.out.lt
 simp only [List.getElem?_cons_zero,List.getElem?_cons_succ] at c0 c1
 go_wp2_with fail
 refine wp_region_ro (.free 1 (.pure 0 (.run 2 (.swi [] (.fin))))) [2] (fun w'=>w'.cell? ⟨w1.heap.size,0,none⟩=some (.int .i64 1)∧w'.cell? ⟨w1.heap.size,1,none⟩=some (.int .i64 (-1))) (by kernel_rfl) (by kernel_rfl) ⟨d0,d1⟩ ?_
 iterate 2 first | (refine wpRO_free rfl rfl _ (fun w'=>by go_simp;exact Gives.mk _ _) (fun K hK=>?_);go_simp;refine hK _ ?_;clear hK K) | (refine wpRO_skipF rfl rfl (fun K hK=>?_);go_simp;refine hK _ ?_;clear hK K) | (refine wpRO_pure rfl rfl _ (fun w' hG=>by obtain ⟨d0,d1⟩:=hG;exact gives_agg2 rfl (by decide +kernel) rfl (by assumption) (by assumption)) (fun K hK=>?_);go_simp;refine hK _ ?_;clear hK K) | (refine wpRO_pure rfl rfl _ (fun w' hG=>by obtain ⟨d0,d1⟩:=hG;go_simp;exact Gives.mk _ _) (fun K hK=>?_);go_simp;refine hK _ ?_;clear hK K) | (refine wpRO_skip rfl rfl (fun K hK=>?_);go_simp;refine hK _ ?_;clear hK K)
 refine wpRO_chg rfl rfl rfl (fun K hK=>?_);unfold gRun;go_simp
 refine hK _ _ ?_
 clear hK K
 refine wpRO_swi (fun _=>True) trivial (wpRO_fin ?_)
 go_wp2_with fail
 have hbN:=(HB2.out.setSame 0 (.int .i64 1)).setSame 1 (.int .i64 (-1))
 have x0':=hbN.cell 0;have x1':=hbN.cell 1
 simp only [List.set_cons_zero,List.set_cons_succ,List.getElem?_cons_zero,List.getElem?_cons_succ] at x0' x1'
 refine bodyPost_ret (v:=.tuple #[.pointer none, .agg #[.int .i64 1, .int .i64 (-1)]]) (by simp [results,Try.results11,go_sem,c0,c1,x0',x1']) rfl ⟨rfl,?_⟩
 exact (HK2.out.drew.setCell (p:=⟨b0,0,none⟩) (.inr HSB.out) _).setCell (p:=⟨b0,1,none⟩) (.inr HSB.out) _
end
end
section
open Go.RowKit
theorem storesA_snoc (A:Ar):∀ (l:List Int) (p x:Int),storesA A p (l ++ [x])=(storesA A p l).store (p+l.length) x
 | [],p,x=>by simp [storesA]
 | y :: l,p,x=>by
  show storesA (A.store p y) (p+1) (l ++ [x])=(storesA (A.store p y) (p+1) l).store _ x
  rw [storesA_snoc _ l (p+1) x,List.length_cons]
  congr 1
  push_cast
  omega
def HeapIn (w:World) (h:HH) (w':World) (O:Wo):Prop:=HeapAt w' h O∧Keeps h.Own w w'
theorem HeapIn.to {w w':World} {h:HH} {O:Wo} (t:HeapIn w h w' O):HeapTo w h w' O:=⟨h,t.1,rfl,t.2,fun k hk=>.inl hk⟩
theorem natsRd {w:World} {ao:Option Addr} {l:List Nat} (h:Rd w ao (l.map fun (k:Nat)=>Value.int .i64 (k:Int))) (i:Nat) (hi:i<l.length) :
  ∃ g o,ao=some ⟨g,o,none⟩∧g<w.heap.size∧w.cell? ⟨g,o+i,none⟩=some (.int .i64 ((l.getD i 0:Nat):Int)):=by
 obtain ⟨g,o,rfl,hg,hc⟩:=h (by intro e;simp at e;subst e;simp at hi)
 refine ⟨g,o,rfl,hg,?_⟩
 rw [hc i (by simpa using hi)]
 simp [List.getD,hi]
section
variable {w w':World} {h:HH} {O O':Wo}
theorem HPut_c (r:Nat) (x c:Int) (B:HeapAt w h O) (hr:r<12) (hx:R64 x) :
  Calls Try.prog 24 #[.pointer (some ⟨h.p,0,none⟩), .int .i64 r, .int .i64 x, .int .i64 c] w fun e w'=>e=.returned (.int .i64 (O.putC r (x,c)).1)∧HeapIn w h w' (O.putC r (x,c)).2:=by
 have HB:=Hz B
 obtain ⟨b0,bl⟩:=B.pc
 obtain ⟨g,o,cap,hro,hown,q0,q3,ql,gl,fz,rc⟩:=B.roots
 have hf:=fz (o+r)
 have hc:=rc r hr
 have hri:(r:Int)<12:=by omega
 have hin:=B.rootW (x:=x) hro hr hx
 have HIN:=Hz hin
 clear hro hown fz rc hin B
 by_cases h0:c=0
 ·subst h0
  have HE:=Hz (show O.putC r (x,0)=(0,O.setRt r x) from rfl)
  go_enter Try.func24,Try.ntmps24
  go_wp2_with fail
  go_ret
  rw [HE.out]
  exact ⟨rfl,HIN.out⟩
 ·have hd:(c == 0)=false:=by simpa using h0
  have HE:=Hz (show O.putC r (x,c)=(c,O) by unfold Wo.putC;rw [if_neg h0])
  clear h0
  go_enter Try.func24,Try.ntmps24
  go_wp2_with fail
  go_ret
  rw [HE.out]
  exact ⟨rfl,HB.out,Keeps.refl _ _⟩
def HRoomRet (w:World) (h:HH) (O:Wo) (n:Int) (e:Ending) (w':World):Prop:=e=.returned (.int .i64 (O.room n).1)∧HeapTo w h w' (O.room n).2
theorem HRoom_yes (n:Int) (B:HeapAt w h O) (hn:n≤(O.ar.nur:Int)-O.ar.yng) :
  Calls Try.prog 42 #[.pointer (some ⟨h.p,0,none⟩), .int .i64 n] w (HRoomRet w h O n):=by
 have HB:=Hz B
 have HE:=Hz (show O.room n=(0,O) by unfold Wo.room;rw [if_pos hn])
 have o1:=B.H.ok.ha.h1
 have hn2:n≤((O.ar.nur-O.ar.yng:Nat):Int):=by omega
 obtain ⟨b0,bl⟩:=B.pc
 have q0:=B.H.ptrs.1;have ql:=B.H.hp.lt
 clear B hn o1
 go_enter Try.func42,Try.ntmps42
 go_wp2_with fail
 refine (Free_c _ HB.out.H.ha).mono ?_
 rintro e w1 ⟨rfl,hk⟩
 have B1:=Hz (HB.out.same hk);have K1:=Hz hk
 clear hk b0 bl q0 ql
 obtain ⟨b0,bl⟩:=B1.out.pc
 have q0:=B1.out.H.ptrs.1;have ql:=B1.out.H.hp.lt
 generalize ((O.ar.nur-O.ar.yng:Nat):Int)=fr at *
 generalize ((O.ar.ws.length-O.ar.grn:Nat):Int)=fo at *
 go_wp2_with fail
 refine (Used_c _ B1.out.H.ha).mono ?_
 rintro e w2 ⟨rfl,hk⟩
 have K2:=Hz (K1.out.trans hk)
 clear hk b0 bl q0 ql
 go_wp2_with fail
 go_ret
 unfold HRoomRet
 rw [HE.out]
 exact ⟨rfl,HeapTo.same HB.out K2.out⟩
theorem HMake_c (r:Nat) (kd:Int) (l:List Nat) (ao:Option Addr) (cap:Nat) (B:HeapAt w h O) (hr:r<12) (hl:∀ k ∈ l,k<12) (hf:fitsW kd l.length=true)
  (hrd:Rd w ao (l.map fun (k:Nat)=>Value.int .i64 (k:Int))) (ha:∀ a,ao=some a→a.block<w.heap.size→¬ h.Own a.block)
  (hroom:Calls Try.prog 42 #[.pointer (some ⟨h.p,0,none⟩), .int .i64 (1+(l.length:Int))] w (HRoomRet w h O (1+l.length)))
  (hfree:(O.room (1+l.length)).1=0→(1+(l.length:Int))≤((O.room (1+l.length)).2.ar.nur:Int)-(O.room (1+l.length)).2.ar.yng) :
  Calls Try.prog 26 #[.pointer (some ⟨h.p,0,none⟩), .int .i64 r, .int .i64 kd, .slice ao l.length cap] w fun e w'=>e=.returned (.int .i64 (O.newT r kd (l.map fun (k:Nat)=>(k:Int))).1)∧HeapTo w h w' (O.newT r kd (l.map fun (k:Nat)=>(k:Int))).2:=by
 have HB:=Hz B;have HL:=Hz hl;have HF:=Hz hf;have HRD:=Hz hrd;have HA:=Hz ha;have HR:=Hz hroom
 have hl12:=(fitsW_spec hf).2.2.2
 have HNO:=Hz (show (O.room (1+(l.length:Int))).1≠0→O.newT r kd (l.map fun (k:Nat)=>(k:Int))=O.room (1+(l.length:Int)) from fun h0=>by
  unfold Wo.newT;rw [List.length_map,if_neg h0])
 have HYES:=Hz (show (O.room (1+(l.length:Int))).1=0→O.newT r kd (l.map fun (k:Nat)=>(k:Int))=(0,(O.room (1+(l.length:Int))).2.lay r kd (l.map fun (k:Nat)=>(k:Int))) from fun h0=>by
  unfold Wo.newT;rw [List.length_map,if_pos h0])
 obtain ⟨⟨c,P⟩,hP⟩:∃ t,O.room (1+(l.length:Int))=t:=⟨_,rfl⟩
 unfold HRoomRet at HR
 rw [hP] at HR HNO HYES hfree
 dsimp only at HR HNO HYES hfree
 have hw1:IntKind.i64.wrap (1+(l.length:Int))=1+l.length:=IntWalk.i64_in _ (by omega)
 clear B hl hf hrd ha hroom hP
 go_enter Try.func26,Try.ntmps26
 go_wp2_with fail
 refine HR.out.mono ?_
 rintro e w1 ⟨rfl,ht⟩
 by_cases h0:c=0
 ·subst h0
  have HE:=Hz (HYES.out rfl)
  obtain ⟨h1,B1',ep,k1,o1⟩:=ht
  have RD1:=Hz (HRD.out.keep k1 (fun a e hb=>HA.out a e hb))
  have HA1:=Hz (show ∀ a,ao=some a→a.block<w.heap.size→¬ h1.Own a.block from fun a e hb hn=>by
   rcases o1 _ hn with h2 | h2
   ·exact HA.out a e hb h2
   ·omega)
  have RDL:=Hz (show ∀ a,ao=some a→l≠[]→a.block<w.heap.size from fun a e hne=>by
   obtain ⟨g,o,e2,hg,_⟩:=HRD.out (by simpa using hne)
   rw [e] at e2;cases e2;exact hg)
  have B1:=Hz B1';have EP:=Hz ep;have K1:=Hz k1;have O1:=Hz o1
  have hfr:=hfree rfl
  have hfit:fitsW kd (l.length:Int)=true∧1+(l.length:Int)≤(P.ar.nur:Int)-P.ar.yng:=⟨HF.out,hfr⟩
  have HMK:=Hz (Ar.make_yes hfit)
  have hmk1:(P.ar.make kd l.length).1=(P.ar.yng:Int):=by rw [HMK.out]
  have HNU:=Hz (show (P.ar.make kd l.length).2.nur=P.ar.nur by rw [HMK.out])
  have q1:=B1'.H.ok.ha.h1;have q2:=B1'.H.ok.ha.h2;have q3:=B1'.H.ok.ha.h3;have q4:=B1'.H.ok.ha.h4
  have yl:(P.ar.yng:Int)≤1280:=by omega
  rw [←ep]
  obtain ⟨b0,bl⟩:=B1'.pc
  have p0:=B1'.H.ptrs.1;have pl:=B1'.H.hp.lt
  clear B1' k1 o1 hfree HNO HYES hfr hfit q1 q2 q3 q4 ep hw1
  go_wp2_with fail
  have hmc:=Make_c kd l.length w1 B1.out.H.ha (by unfold R64;omega)
  rw [hmk1] at hmc
  refine hmc.mono ?_
  rintro e w2 ⟨rfl,ht2⟩
  have hin:=B1.out.inW (WoodIn.arena B1.out.H ht2 HNU.out)
  have B2:=Hz hin.1;have K2:=Hz hin.2
  clear ht2 hin b0 bl p0 pl hmc hmk1
  generalize hA2:(P.ar.make kd l.length).2=A2 at *
  have HA2:=Hz hA2
  clear hA2
  go_wp2_with fail
  go_loopw [34] (fun u wr=>∃ k:Nat,k≤l.length∧u=.int .i64 k∧HeapAt wr h1 { P with ar:=storesA A2 ((P.ar.yng:Int)+1) ((l.take k).map fun (j:Nat)=>P.rtA j) }∧Keeps h1.Own w2 wr) (fun u _=>l.length-(intOf u).toNat)
  case atStart=>exact ⟨0,Nat.zero_le _,rfl,B2.out,Keeps.refl _ _⟩
  case round=>
   obtain ⟨k,hk,rfl,hB,hK⟩:=hrel
   have BR:=Hz hB;have KR:=Hz hK
   clear hB hK
   by_cases hlt:k<l.length
   ·have RDR:=(RD1.out.keep K2.out (fun a e hb hn=>by
     by_cases hne:l=[]
     ·subst hne;simp at hlt
     ·exact HA1.out a e (RDL.out a e hne) hn)).keep KR.out (fun a e hb hn=>by
     by_cases hne:l=[]
     ·subst hne;simp at hlt
     ·exact HA1.out a e (RDL.out a e hne) hn)
    obtain ⟨gl,ol,rfl,hgl,l0⟩:=natsRd RDR k hlt
    have hm:=HL.out (l.getD k 0) (by rw [List.getD_eq_getElem?_getD,List.getElem?_eq_getElem hlt];exact List.getElem_mem _)
    have htk:((l.take (k+1)).map fun (j:Nat)=>P.rtA (j:Int))=((l.take k).map fun (j:Nat)=>P.rtA (j:Int)) ++ [P.rtA ((l.getD k 0:Nat):Int)]:=by
     rw [List.take_add_one,List.getElem?_eq_getElem hlt,List.map_append,List.getD_eq_getElem?_getD,List.getElem?_eq_getElem hlt];rfl
    have HST:=Hz (show storesA A2 ((P.ar.yng:Int)+1) ((l.take (k+1)).map fun (j:Nat)=>P.rtA j)=(storesA A2 ((P.ar.yng:Int)+1) ((l.take k).map fun (j:Nat)=>P.rtA j)).store ((P.ar.yng:Int)+1+k) (P.rtA ((l.getD k 0:Nat):Int)) by
     rw [htk,storesA_snoc,List.length_map,List.length_take,Nat.min_eq_left hk])
    have HXR:=Hz (rtA_R64 B1.out.H.ok ((l.getD k 0:Nat):Int))
    generalize l.getD k 0=m at *
    obtain ⟨g,o,cap2,hro,hown,p0,p3,pl,gl2,fz,rc⟩:=BR.out.roots
    have r0:=rc m hm
    have r0:wr.cell? ⟨g,o+m,none⟩=some (.int .i64 (P.rtA (m:Int))):=r0
    generalize P.rtA (m:Int)=x at *
    obtain ⟨b0,bl⟩:=BR.out.pc
    have hmi:(m:Int)<12:=by omega
    have hw1:IntKind.i64.wrap ((P.ar.yng:Int)+1)=P.ar.yng+1:=IntWalk.i64_in _ (by omega)
    have hw2:IntKind.i64.wrap ((P.ar.yng:Int)+1+(k:Int))=P.ar.yng+1+k:=IntWalk.i64_in _ (by omega)
    clear hro hown fz rc htk RDR
    go_wp2_with fail
    refine wp_region_ro (.free 0 (.free 1 (.free 2 (.free 7 (.free 8 (.free 9 (.free 10 (.free 11 (.free 12 (.free 13 (.free 18 (.pure 3 (.free 4 (.free 5 (.pure 6 (.pure 14 (.free 15 (.free 16 (.pure 17 (.free 19 (.pure 20 (.run 21 (.swi [] (.fin)))))))))))))))))))))))) [21] (fun w'=>w'.cell? ⟨h1.p,0,none⟩=some (.pointer (some ⟨h1.a.p,0,none⟩))∧w'.cell? ⟨h1.a.p,0,none⟩=some (.pointer (some ⟨h1.a.pa,0,none⟩))∧w'.cell? ⟨h1.a.p,3,none⟩=some (.slice (some ⟨g,o,none⟩) 12 cap2)∧w'.cell? ⟨g,o+m,none⟩=some (.int .i64 x)) (by kernel_rfl) (by kernel_rfl) ⟨b0,p0,p3,r0⟩ ?_
    iterate 21 first | (refine wpRO_free rfl rfl _ (fun w'=>by go_simp;exact Gives.mk _ _) (fun K hK=>?_);go_simp;refine hK _ ?_;clear hK K) | (refine wpRO_skipF rfl rfl (fun K hK=>?_);go_simp;refine hK _ ?_;clear hK K) | (refine wpRO_pure rfl rfl _ (fun w' hG=>by obtain ⟨b0,p0,p3,r0⟩:=hG;exact gives_agg2 rfl (by decide +kernel) rfl (by assumption) (by assumption)) (fun K hK=>?_);go_simp;refine hK _ ?_;clear hK K) | (refine wpRO_pure rfl rfl _ (fun w' hG=>by obtain ⟨b0,p0,p3,r0⟩:=hG;go_simp;exact Gives.mk _ _) (fun K hK=>?_);go_simp;refine hK _ ?_;clear hK K) | (refine wpRO_skip rfl rfl (fun K hK=>?_);go_simp;refine hK _ ?_;clear hK K)
    refine wpRO_chg rfl rfl rfl (fun K hK=>?_);unfold gRun;go_simp
    refine (Store_c _ x _ (BR.out.same ((Kz wr).drew)).H.ha HXR.out).mono ?_
    rintro e w3 ⟨rfl,ht3⟩
    refine hK _ _ ?_
    clear hK K
    refine wpRO_swi (fun _=>True) trivial (wpRO_fin ?_)
    have hin:=(BR.out.same ((Kz wr).drew)).inW (WoodIn.arena (BR.out.same ((Kz wr).drew)).H ht3 (Ar.store_nur _ _ _))
    have BN:=Hz hin.1
    have KN:=Hz ((KR.out.drew).trans hin.2)
    clear ht3 hin b0 bl p0 p3 pl gl2 r0 l0 hgl hw1 hw2
    go_wp2_with fail
    go_roundw
    case rel=>exact ⟨k+1,hlt,by go_num,by rw [HST.out];exact BN.out,KN.out⟩
    case measure=>simp [intOf];omega
   ·obtain rfl:k=l.length:=by omega
    rw [List.take_length] at BR
    obtain ⟨g,o,cap2,hro,hown,p0,p3,pl,gl2,fz,rc⟩:=BR.out.roots
    obtain ⟨b0,bl⟩:=BR.out.pc
    have hf:=fz (o+r);have hc:=rc r hr
    have hri:(r:Int)<12:=by omega
    have HRO:=Hz hro
    clear hro hown fz rc
    go_wp2_with fail
    refine wp_region_ro (.free 0 (.free 1 (.free 2 (.free 7 (.free 8 (.pure 3 (.free 4 (.free 5 (.pure 6 (.run 9 (.free 10 (.run 11 (.swi [] (.fin)))))))))))))) [11] (fun w'=>w'.cell? ⟨h1.p,0,none⟩=some (.pointer (some ⟨h1.a.p,0,none⟩))∧w'.cell? ⟨h1.a.p,3,none⟩=some (.slice (some ⟨g,o,none⟩) 12 cap2)) (by kernel_rfl) (by kernel_rfl) ⟨b0,p3⟩ ?_
    iterate 9 first | (refine wpRO_free rfl rfl _ (fun w'=>by go_simp;exact Gives.mk _ _) (fun K hK=>?_);go_simp;refine hK _ ?_;clear hK K) | (refine wpRO_skipF rfl rfl (fun K hK=>?_);go_simp;refine hK _ ?_;clear hK K) | (refine wpRO_pure rfl rfl _ (fun w' hG=>by obtain ⟨b0,p3⟩:=hG;exact gives_agg2 rfl (by decide +kernel) rfl (by assumption) (by assumption)) (fun K hK=>?_);go_simp;refine hK _ ?_;clear hK K) | (refine wpRO_pure rfl rfl _ (fun w' hG=>by obtain ⟨b0,p3⟩:=hG;go_simp;exact Gives.mk _ _) (fun K hK=>?_);go_simp;refine hK _ ?_;clear hK K) | (refine wpRO_skip rfl rfl (fun K hK=>?_);go_simp;refine hK _ ?_;clear hK K)
    refine wpRO_run rfl rfl (fun K hK=>?_);unfold gRun;go_simp
    refine (Ref_c (P.ar.yng:Int) _ (by omega) (by omega)).mono ?_
    rintro e w5 ⟨rfl,rfl⟩
    refine hK _ _ (fun hg=>hg) ?_
    clear hK K
    iterate 1 first | (refine wpRO_free rfl rfl _ (fun w'=>by go_simp;exact Gives.mk _ _) (fun K hK=>?_);go_simp;refine hK _ ?_;clear hK K) | (refine wpRO_skipF rfl rfl (fun K hK=>?_);go_simp;refine hK _ ?_;clear hK K)
    refine wpRO_chg rfl rfl rfl (fun K hK=>?_);unfold gRun;go_simp
    refine hK _ _ ?_
    clear hK K
    refine wpRO_swi (fun _=>True) trivial (wpRO_fin ?_)
    have hin:=BR.out.rootW (k:=r) (x:=4*(P.ar.yng:Int)+1) HRO.out hr (by unfold R64;omega)
    have hlay:P.lay r kd (l.map fun (k:Nat)=>(k:Int))=Wo.setRt { P with ar:=storesA A2 ((P.ar.yng:Int)+1) (l.map fun (j:Nat)=>P.rtA j) } r (4*(P.ar.yng:Int)+1):=by
     have h1:(P.ar.make kd l.length).1=(P.ar.yng:Int):=by rw [HMK.out]
     unfold Wo.lay Wo.setRt
     rw [List.length_map,HA2.out,h1,refW_in (by omega) (by omega),List.map_map]
     rfl
    have TO:=Hz (show HeapTo w h (wr.setCell ⟨g,o+r,none⟩ (.int .i64 (4*(P.ar.yng:Int)+1))).drew (P.lay r kd (l.map fun (k:Nat)=>(k:Int))) by
     rw [hlay]
     exact ⟨h1,hin.1.same ((Kz _).drew),EP.out,K1.out.then (((K2.out.trans KR.out).trans hin.2).drew) O1.out,O1.out⟩)
    clear hin b0 bl p0 p3 pl gl2 hf hc hlay
    go_wp2_with fail
    go_ret
    refine ⟨by rw [HE.out];rfl,?_⟩
    rw [HE.out]
    exact TO.out
 ·have HE:=Hz (HNO.out h0)
  have hd:(c != 0)=true:=by simpa using h0
  have TO:=Hz ht
  clear h0 ht
  go_wp2_with fail
  go_ret
  exact ⟨by rw [HE.out];rfl,by rw [HE.out];exact TO.out⟩
end
end
section
open Go.RowKit
def HDoRet (w:World) (h:HH) (O:Wo) (x:St) (e:Ending) (w':World):Prop:=e=.returned (.int .i64 (O.do x).1)∧HeapTo w h w' (O.do x).2
section
variable {w w':World} {h:HH} {O O':Wo}
theorem h_get_R64 {A:Ar} (h:A.ok) (x i:Int):R64 (A.get x i).1:=by
 unfold Ar.get
 split
 ·unfold R64;decide
 ·split
  ·unfold R64;decide
  ·exact h.load _
theorem h_encW (n:Int) (h:-big≤n∧n<big):encW 1 n=(4*n,0):=by unfold encW;rw [if_neg (by decide),if_neg (by decide),if_pos rfl,if_pos h]
theorem HDoInt_c (xr xa xb xi xn:Int) (B:HeapAt w h O) :
  Calls Try.prog 15 #[.pointer (some ⟨h.p,0,none⟩), .agg #[.int .i64 1, .int .i64 xr, .int .i64 xa, .int .i64 xb, .int .i64 xi, .int .i64 xn]] w (HDoRet w h O ⟨1,xr,xa,xb,xi,xn⟩):=by
 unfold HDoRet
 have HB0:=Hz B
 have hb1:Blk (w.alloc (.cells #[.int .i64 1, .int .i64 xr, .int .i64 xa, .int .i64 xb, .int .i64 xi, .int .i64 xn] 23)) w.heap.size [.int .i64 1, .int .i64 xr, .int .i64 xa, .int .i64 xb, .int .i64 xi, .int .i64 xn] 23:=Blk.newAt _ rfl rfl
 have ka:=(Kz w).alloc (.cells #[.int .i64 1, .int .i64 xr, .int .i64 xa, .int .i64 xb, .int .i64 xi, .int .i64 xn] 23)
 have s0:=hb1.cell 0;have s1:=hb1.cell 1;have s2:=hb1.cell 2;have s3:=hb1.cell 3;have s4:=hb1.cell 4;have s5:=hb1.cell 5;have sl:=hb1.lt
 simp only [List.getElem?_cons_zero,List.getElem?_cons_succ] at s0 s1 s2 s3 s4 s5
 have HSF:=Hz (fun w=>Check_c ⟨1,xr,xa,xb,xi,xn⟩ w)
 obtain ⟨c,hc⟩:∃ c,checkM ⟨1,xr,xa,xb,xi,xn⟩=c:=⟨_,rfl⟩
 rw [hc] at HSF
 have HC:=Hz hc
 have HB:=Hz hb1;have KA:=Hz ka
 clear hb1 hc ka B
 go_enter Try.func15,Try.ntmps15
 go_wp2_with (refine wpList_agg rfl 23 (.tmp 3) rfl [.int .i64 1, .int .i64 xr, .int .i64 xa, .int .i64 xb, .int .i64 xi, .int .i64 xn] (by kernel_rfl) w.heap.size 0 rfl (rangeAt_cons s0 (rangeAt_cons s1 (rangeAt_cons s2 (rangeAt_cons s3 (rangeAt_cons s4 (rangeAt_cons s5 rangeAt_nil)))))) ?_)
 refine (HSF.out _).mono ?_
 rintro e w1 ⟨rfl,hk⟩
 have HB1:=Hz ((HB0.out.same KA.out).same hk)
 have K1:=Hz (KA.out.trans hk)
 have SB1:=Hz (hk.blk HB.out (fun h=>h))
 have SFR:=Hz (show ¬ h.Own w.heap.size from fun e=>by have:=HB0.out.own_lt e;omega)
 clear hk s0 s1 s2 s3 s4 s5 sl HSF KA HB
 generalize w.heap.size=sb at *
 have s0:=SB1.out.cell 0;have s1:=SB1.out.cell 1;have s2:=SB1.out.cell 2;have s3:=SB1.out.cell 3;have s4:=SB1.out.cell 4;have s5:=SB1.out.cell 5;have sl:=SB1.out.lt
 simp only [List.getElem?_cons_zero,List.getElem?_cons_succ] at s0 s1 s2 s3 s4 s5
 by_cases h0:¬ c=0
 ·have HE:=Hz (show O.do ⟨1,xr,xa,xb,xi,xn⟩=(c,O) by unfold Wo.do;rw [HC.out,if_neg h0])
  have hd:(c != 0)=true:=by simpa using h0
  clear h0
  go_wp2_with fail
  go_ret
  exact ⟨by rw [HE.out];rfl,by rw [HE.out];exact HeapTo.same HB0.out K1.out⟩
 have h0:c=0:=Classical.not_not.1 h0
 subst h0
 have hr:0≤xr∧xr<12:=(rootOk_iff _).1 ((checkM_use HC.out).2.1 (show usesM 1%2=1 by decide))
 obtain ⟨r,rfl⟩:∃ r:Nat,xr=r:=⟨xr.toNat,by omega⟩
 have hr12:r<12:=by omega
 clear hr
 have hn:-big≤xn∧xn<big:=(checkM_use HC.out).2.2.2.2.1 rfl
 have HE:=Hz (show O.do ⟨1,r,xa,xb,xi,xn⟩=O.putC r (4*xn,0) by unfold Wo.do;rw [if_pos HC.out];rfl)
 have HEN:=Hz (h_encW xn hn)
 have hx:R64 (4*xn):=by unfold R64;have:=hn.1;have:=hn.2;unfold big at *;omega
 have hn64:R64 xn:=by unfold R64;have:=hn.1;have:=hn.2;unfold big at *;omega
 have HX:=Hz hx;have HN64:=Hz hn64
 clear hn hx hn64
 go_wp2_with fail
 refine (Encode_c 1 xn _ HN64.out.1 HN64.out.2).mono ?_
 rintro e w2 ⟨rfl,hk⟩
 rw [HEN.out]
 have HB2:=Hz (HB1.out.same hk);have K2:=Hz (K1.out.trans hk);have SB2:=Hz (hk.blk SB1.out (fun h=>h))
 clear hk s0 s1 s2 s3 s4 s5 sl HB1 K1 SB1
 have s1:=SB2.out.cell 1;have sl:=SB2.out.lt
 simp only [List.getElem?_cons_zero,List.getElem?_cons_succ] at s1
 go_wp2_with fail
 refine (HPut_c r (4*xn) 0 HB2.out hr12 HX.out).mono ?_
 rintro e w3 ⟨rfl,ht⟩
 have TO:=Hz (HeapTo.from_same K2.out ht.to)
 clear ht s1 sl
 go_wp2_with fail
 go_ret
 exact ⟨by rw [HE.out];rfl,by rw [HE.out];exact TO.out⟩
theorem HDoGet_c (xr xa xb xi xn:Int) (B:HeapAt w h O) :
  Calls Try.prog 15 #[.pointer (some ⟨h.p,0,none⟩), .agg #[.int .i64 11, .int .i64 xr, .int .i64 xa, .int .i64 xb, .int .i64 xi, .int .i64 xn]] w (HDoRet w h O ⟨11,xr,xa,xb,xi,xn⟩):=by
 unfold HDoRet
 have HB0:=Hz B
 have hb1:Blk (w.alloc (.cells #[.int .i64 11, .int .i64 xr, .int .i64 xa, .int .i64 xb, .int .i64 xi, .int .i64 xn] 23)) w.heap.size [.int .i64 11, .int .i64 xr, .int .i64 xa, .int .i64 xb, .int .i64 xi, .int .i64 xn] 23:=Blk.newAt _ rfl rfl
 have ka:=(Kz w).alloc (.cells #[.int .i64 11, .int .i64 xr, .int .i64 xa, .int .i64 xb, .int .i64 xi, .int .i64 xn] 23)
 have s0:=hb1.cell 0;have s1:=hb1.cell 1;have s2:=hb1.cell 2;have s3:=hb1.cell 3;have s4:=hb1.cell 4;have s5:=hb1.cell 5;have sl:=hb1.lt
 simp only [List.getElem?_cons_zero,List.getElem?_cons_succ] at s0 s1 s2 s3 s4 s5
 have HSF:=Hz (fun w=>Check_c ⟨11,xr,xa,xb,xi,xn⟩ w)
 obtain ⟨c,hc⟩:∃ c,checkM ⟨11,xr,xa,xb,xi,xn⟩=c:=⟨_,rfl⟩
 rw [hc] at HSF
 have HC:=Hz hc
 have HB:=Hz hb1;have KA:=Hz ka
 clear hb1 hc ka B
 go_enter Try.func15,Try.ntmps15
 go_wp2_with (refine wpList_agg rfl 23 (.tmp 3) rfl [.int .i64 11, .int .i64 xr, .int .i64 xa, .int .i64 xb, .int .i64 xi, .int .i64 xn] (by kernel_rfl) w.heap.size 0 rfl (rangeAt_cons s0 (rangeAt_cons s1 (rangeAt_cons s2 (rangeAt_cons s3 (rangeAt_cons s4 (rangeAt_cons s5 rangeAt_nil)))))) ?_)
 refine (HSF.out _).mono ?_
 rintro e w1 ⟨rfl,hk⟩
 have HB1:=Hz ((HB0.out.same KA.out).same hk)
 have K1:=Hz (KA.out.trans hk)
 have SB1:=Hz (hk.blk HB.out (fun h=>h))
 have SFR:=Hz (show ¬ h.Own w.heap.size from fun e=>by have:=HB0.out.own_lt e;omega)
 clear hk s0 s1 s2 s3 s4 s5 sl HSF KA HB
 generalize w.heap.size=sb at *
 have s0:=SB1.out.cell 0;have s1:=SB1.out.cell 1;have s2:=SB1.out.cell 2;have s3:=SB1.out.cell 3;have s4:=SB1.out.cell 4;have s5:=SB1.out.cell 5;have sl:=SB1.out.lt
 simp only [List.getElem?_cons_zero,List.getElem?_cons_succ] at s0 s1 s2 s3 s4 s5
 by_cases h0:¬ c=0
 ·have HE:=Hz (show O.do ⟨11,xr,xa,xb,xi,xn⟩=(c,O) by unfold Wo.do;rw [HC.out,if_neg h0])
  have hd:(c != 0)=true:=by simpa using h0
  clear h0
  go_wp2_with fail
  go_ret
  exact ⟨by rw [HE.out];rfl,by rw [HE.out];exact HeapTo.same HB0.out K1.out⟩
 have h0:c=0:=Classical.not_not.1 h0
 subst h0
 have hr:0≤xr∧xr<12:=(rootOk_iff _).1 ((checkM_use HC.out).2.1 (show usesM 11%2=1 by decide))
 obtain ⟨r,rfl⟩:∃ r:Nat,xr=r:=⟨xr.toNat,by omega⟩
 have hr12:r<12:=by omega
 clear hr
 have ha:0≤xa∧xa<12:=(rootOk_iff _).1 ((checkM_use HC.out).2.2.1 (show usesM 11/2%2=1 by decide))
 obtain ⟨a,rfl⟩:∃ a:Nat,xa=a:=⟨xa.toNat,by omega⟩
 have ha12:a<12:=by omega
 clear ha
 have HE:=Hz (show O.do ⟨11,r,a,xb,xi,xn⟩=O.putC r (O.ar.get (O.rtA a) xi) by unfold Wo.do;rw [if_pos HC.out];rfl)
 obtain ⟨b0,bl⟩:=HB1.out.pc
 obtain ⟨g,o,cap,hro,hown,q0,q3,ql,gl,fz,rc⟩:=HB1.out.roots
 have ra:=rc a ha12
 have ha12i:(a:Int)<12:=by omega
 clear hro hown fz rc
 have hget:=Get_c (O.rtA a) xi (HB1.out.same ((Kz w1).drew)).H
 have HYR:=Hz (h_get_R64 HB1.out.H.ok.ha (O.rtA a) xi)
 generalize O.rtA (a:Int)=va at *
 obtain ⟨⟨y,e⟩,hS⟩:∃ t,O.ar.get va xi=t:=⟨_,rfl⟩
 rw [hS] at hget HE HYR
 have HGET:=Hz hget
 clear hS hget
 go_wp2_with fail
 refine wp_region_ro (.free 0 (.free 1 (.free 2 (.free 4 (.free 5 (.free 6 (.free 11 (.free 15 (.pure 3 (.pure 7 (.free 8 (.free 9 (.pure 10 (.pure 12 (.free 13 (.pure 14 (.pure 16 (.run 17 (.swi [] (.free 18 (.free 19 (.free 20 (.free 21 (.free 22 (.fin))))))))))))))))))))))))) [17,18,19,20,21,22] (fun w'=>w'.cell? ⟨h.p,0,none⟩=some (.pointer (some ⟨h.a.p,0,none⟩))∧w'.cell? ⟨h.a.p,3,none⟩=some (.slice (some ⟨g,o,none⟩) 12 cap)∧w'.cell? ⟨g,o+a,none⟩=some (.int .i64 va)∧w'.cell? ⟨sb,2,none⟩=some (.int .i64 a)∧w'.cell? ⟨sb,4,none⟩=some (.int .i64 xi)) (by kernel_rfl) (by kernel_rfl) ⟨b0,q3,ra,s2,s4⟩ ?_
 iterate 17 first | (refine wpRO_free rfl rfl _ (fun w'=>by go_simp;exact Gives.mk _ _) (fun K hK=>?_);go_simp;refine hK _ ?_;clear hK K) | (refine wpRO_skipF rfl rfl (fun K hK=>?_);go_simp;refine hK _ ?_;clear hK K) | (refine wpRO_pure rfl rfl _ (fun w' hG=>by obtain ⟨b0,q3,ra,s2,s4⟩:=hG;exact gives_agg2 rfl (by decide +kernel) rfl (by assumption) (by assumption)) (fun K hK=>?_);go_simp;refine hK _ ?_;clear hK K) | (refine wpRO_pure rfl rfl _ (fun w' hG=>by obtain ⟨b0,q3,ra,s2,s4⟩:=hG;go_simp;exact Gives.mk _ _) (fun K hK=>?_);go_simp;refine hK _ ?_;clear hK K) | (refine wpRO_skip rfl rfl (fun K hK=>?_);go_simp;refine hK _ ?_;clear hK K)
 refine wpRO_chg rfl rfl rfl (fun K hK=>?_);unfold gRun;go_simp
 refine HGET.out.mono ?_
 rintro e3 w3 ⟨rfl,rfl⟩
 refine hK _ _ ?_
 clear hK K
 refine wpRO_swi (fun _=>True) trivial ?_
 iterate 5 first | (refine wpRO_free rfl rfl _ (fun w'=>by go_simp;exact Gives.mk _ _) (fun K hK=>?_);go_simp;refine hK _ ?_;clear hK K) | (refine wpRO_skipF rfl rfl (fun K hK=>?_);go_simp;refine hK _ ?_;clear hK K)
 refine wpRO_fin ?_
 have kd:=(Kz w1).drew
 have HB2:=Hz (HB1.out.same kd);have K2:=Hz (K1.out.trans kd);have SB2:=Hz (kd.blk SB1.out (fun h=>h))
 clear kd s0 s1 s2 s3 s4 s5 sl HB1 K1 SB1 b0 bl q0 q3 ql gl ra HGET
 have s1:=SB2.out.cell 1;have sl:=SB2.out.lt
 simp only [List.getElem?_cons_zero,List.getElem?_cons_succ] at s1
 go_wp2_with fail
 refine (HPut_c r y e HB2.out hr12 HYR.out).mono ?_
 rintro e' w3 ⟨rfl,ht⟩
 have TO:=Hz (HeapTo.from_same K2.out ht.to)
 clear ht s1 sl
 go_wp2_with fail
 go_ret
 exact ⟨by rw [HE.out];rfl,by rw [HE.out];exact TO.out⟩
def RoomOk (h:HH) (O:Wo) (n:Int):Prop:=(∀ w',HeapAt w' h O→Calls Try.prog 42 #[.pointer (some ⟨h.p,0,none⟩), .int .i64 n] w' (HRoomRet w' h O n))∧((O.room n).1=0→n≤((O.room n).2.ar.nur:Int)-(O.room n).2.ar.yng)
theorem RoomOk.yes {n:Int} (hn:n≤(O.ar.nur:Int)-O.ar.yng):RoomOk h O n:=⟨fun w' B=>HRoom_yes n B hn,fun _=>by unfold Wo.room;rw [if_pos hn];exact hn⟩
theorem HDoPair_c (xr xa xb xi xn:Int) (B:HeapAt w h O) (hroom:RoomOk h O 3) :
  Calls Try.prog 15 #[.pointer (some ⟨h.p,0,none⟩), .agg #[.int .i64 4, .int .i64 xr, .int .i64 xa, .int .i64 xb, .int .i64 xi, .int .i64 xn]] w (HDoRet w h O ⟨4,xr,xa,xb,xi,xn⟩):=by
 unfold HDoRet
 have HRM:=Hz hroom
 clear hroom
 have HB0:=Hz B
 have hb1:Blk (w.alloc (.cells #[.int .i64 4, .int .i64 xr, .int .i64 xa, .int .i64 xb, .int .i64 xi, .int .i64 xn] 23)) w.heap.size [.int .i64 4, .int .i64 xr, .int .i64 xa, .int .i64 xb, .int .i64 xi, .int .i64 xn] 23:=Blk.newAt _ rfl rfl
 have ka:=(Kz w).alloc (.cells #[.int .i64 4, .int .i64 xr, .int .i64 xa, .int .i64 xb, .int .i64 xi, .int .i64 xn] 23)
 have s0:=hb1.cell 0;have s1:=hb1.cell 1;have s2:=hb1.cell 2;have s3:=hb1.cell 3;have s4:=hb1.cell 4;have s5:=hb1.cell 5;have sl:=hb1.lt
 simp only [List.getElem?_cons_zero,List.getElem?_cons_succ] at s0 s1 s2 s3 s4 s5
 have HSF:=Hz (fun w=>Check_c ⟨4,xr,xa,xb,xi,xn⟩ w)
 obtain ⟨c,hc⟩:∃ c,checkM ⟨4,xr,xa,xb,xi,xn⟩=c:=⟨_,rfl⟩
 rw [hc] at HSF
 have HC:=Hz hc
 have HB:=Hz hb1;have KA:=Hz ka
 clear hb1 hc ka B
 go_enter Try.func15,Try.ntmps15
 go_wp2_with (refine wpList_agg rfl 23 (.tmp 3) rfl [.int .i64 4, .int .i64 xr, .int .i64 xa, .int .i64 xb, .int .i64 xi, .int .i64 xn] (by kernel_rfl) w.heap.size 0 rfl (rangeAt_cons s0 (rangeAt_cons s1 (rangeAt_cons s2 (rangeAt_cons s3 (rangeAt_cons s4 (rangeAt_cons s5 rangeAt_nil)))))) ?_)
 refine (HSF.out _).mono ?_
 rintro e w1 ⟨rfl,hk⟩
 have HB1:=Hz ((HB0.out.same KA.out).same hk)
 have K1:=Hz (KA.out.trans hk)
 have SB1:=Hz (hk.blk HB.out (fun h=>h))
 have SFR:=Hz (show ¬ h.Own w.heap.size from fun e=>by have:=HB0.out.own_lt e;omega)
 clear hk s0 s1 s2 s3 s4 s5 sl HSF KA HB
 generalize w.heap.size=sb at *
 have s0:=SB1.out.cell 0;have s1:=SB1.out.cell 1;have s2:=SB1.out.cell 2;have s3:=SB1.out.cell 3;have s4:=SB1.out.cell 4;have s5:=SB1.out.cell 5;have sl:=SB1.out.lt
 simp only [List.getElem?_cons_zero,List.getElem?_cons_succ] at s0 s1 s2 s3 s4 s5
 by_cases h0:¬ c=0
 ·have HE:=Hz (show O.do ⟨4,xr,xa,xb,xi,xn⟩=(c,O) by unfold Wo.do;rw [HC.out,if_neg h0])
  have hd:(c != 0)=true:=by simpa using h0
  clear h0
  go_wp2_with fail
  go_ret
  exact ⟨by rw [HE.out];rfl,by rw [HE.out];exact HeapTo.same HB0.out K1.out⟩
 have h0:c=0:=Classical.not_not.1 h0
 subst h0
 have hr:0≤xr∧xr<12:=(rootOk_iff _).1 ((checkM_use HC.out).2.1 (show usesM 4%2=1 by decide))
 obtain ⟨r,rfl⟩:∃ r:Nat,xr=r:=⟨xr.toNat,by omega⟩
 have hr12:r<12:=by omega
 clear hr
 have ha:0≤xa∧xa<12:=(rootOk_iff _).1 ((checkM_use HC.out).2.2.1 (show usesM 4/2%2=1 by decide))
 obtain ⟨a,rfl⟩:∃ a:Nat,xa=a:=⟨xa.toNat,by omega⟩
 have ha12:a<12:=by omega
 clear ha
 have hb:0≤xb∧xb<12:=(rootOk_iff _).1 ((checkM_use HC.out).2.2.2.1 (show usesM 4/4%2=1 by decide))
 obtain ⟨b,rfl⟩:∃ b:Nat,xb=b:=⟨xb.toNat,by omega⟩
 have hb12:b<12:=by omega
 clear hb
 have HE:=Hz (show O.do ⟨4,r,a,b,xi,xn⟩=O.newT r 1 ([a,b].map fun (k:Nat)=>(k:Int)) by unfold Wo.do;rw [if_pos HC.out];rfl)
 have ka:=(Kz w1).alloc (.cells #[.int .i64 a, .int .i64 b] 3)
 have hbl:Blk (w1.alloc (.cells #[.int .i64 a, .int .i64 b] 3)) w1.heap.size [.int .i64 a, .int .i64 b] 3:=Blk.newAt _ rfl rfl
 have hmk:=HMake_c r 1 [a,b] (some ⟨w1.heap.size,0,none⟩) 2 (HB1.out.same ka) hr12 (by intro k hk;simp at hk;omega) (show fitsW 1 2=true by decide) (Rd.blk hbl 0 _ rfl) (fun ad e hb hn=>by cases e;have:=HB1.out.own_lt hn;simp at this) (HRM.out.1 _ (HB1.out.same ka)) HRM.out.2
 have HMK:=Hz hmk
 have HKA:=Hz ka
 clear ka hbl hmk
 go_wp2_with fail
 refine HMK.out.mono ?_
 rintro e w3 ⟨rfl,ht⟩
 have TO:=Hz (HeapTo.from_same (K1.out.trans HKA.out) ht)
 clear ht s0 s1 s2 s3 s4 s5 sl
 go_wp2_with fail
 go_ret
 exact ⟨by rw [HE.out];rfl,by rw [HE.out];exact TO.out⟩
end
end
section
open Go.ChangeShapes Go.WideShapes Go.ChangeAt Go.RowKit Go.Joins
section
variable {H:Type} {enc:TypeId × Value→H} {w:World} {base:Nat} {spare:Nat→Bool} {held:Bool}
theorem arg_vals {P:Program} {r:Reach} {b0:Nat} {t:TypeId} {fs:Array Field} {v:Value} {d:DataW H} {p:List MemPlace} (hs:P.underlying t=some (.struct fs)) (hfl:Flat enc P w base spare held t)
  (hv:Value.okWide P w r b0 t v) (h:DataW.Trod enc P w base spare held t v d p) :
  ∃ l:List Int,v=.agg (l.map (Value.int .i64)).toArray∧l.length=P.cellsOf t∧∀ x ∈ l,R64 x:=by
 obtain ⟨cs,rfl,hsz⟩:=okWide_struct hs hv
 obtain ⟨fuel,hf⟩:=h
 obtain ⟨h1,h2⟩:=hfl fuel _ _ hf
 obtain ⟨l,hl,hb⟩:=i64_list h2
 refine ⟨l,?_,?_,hb⟩
 ·rw [←hl];simp [Value.cells]
 ·have:=congrArg List.length hl
  rw [h1] at this
  simpa using this.symm
theorem flat_step:Flat enc Try.prog w base spare held 23:=by
 refine flat_struct Try.underlying23 (by kernel_rfl) ?_
 intro i f hf
 match i with
 | 0=>simp at hf;subst hf;exact (flat_int Try.underlying3 (by kernel_rfl))
 | 1=>simp at hf;subst hf;exact (flat_int Try.underlying3 (by kernel_rfl))
 | 2=>simp at hf;subst hf;exact (flat_int Try.underlying3 (by kernel_rfl))
 | 3=>simp at hf;subst hf;exact (flat_int Try.underlying3 (by kernel_rfl))
 | 4=>simp at hf;subst hf;exact (flat_int Try.underlying3 (by kernel_rfl))
 | 5=>simp at hf;subst hf;exact (flat_int Try.underlying2 (by kernel_rfl))
 | i+6=>simp at hf
theorem arg_step {r:Reach} {b0:Nat} {v:Value} {d:DataW H} {p:List MemPlace} (hv:Value.okWide Try.prog w r b0 23 v) (h:DataW.Trod enc Try.prog w base spare held 23 v d p) :
  ∃ x:St,v=.agg #[.int .i64 x.k, .int .i64 x.r, .int .i64 x.a, .int .i64 x.b, .int .i64 x.i, .int .i64 x.n]∧R64 x.n:=by
 obtain ⟨l,e,hl,hb⟩:=arg_vals Try.underlying23 flat_step hv h
 have hc:Try.prog.cellsOf 23=6:=by kernel_rfl
 rw [hc] at hl
 match l,hl with
 | [k,r,a,b,i,n],_=>exact ⟨⟨k,r,a,b,i,n⟩,e,hb n (by simp)⟩
end
end
section
open Go.RowKit
def hB1:Wo:=((Wo.new 16 8).do ⟨1,0,0,0,0,7⟩).2
def hB2:Wo:=(hB1.do ⟨4,1,0,0,0,0⟩).2
def hB3:Wo:=(hB2.do ⟨11,2,1,0,2,0⟩).2
theorem hb1:((Wo.new 16 8).do ⟨1,0,0,0,0,7⟩).1=0:=by decide +kernel
theorem hb2:(hB1.do ⟨4,1,0,0,0,0⟩).1=0:=by decide +kernel
theorem hb3:(hB2.do ⟨11,2,1,0,2,0⟩).1=1:=by decide +kernel
theorem hbr:3≤(hB1.ar.nur:Int)-hB1.ar.yng:=by decide +kernel
theorem hbv:hB3.view.2=[(1,[(1,7),(1,7)])]:=by decide +kernel
theorem hbu:usesM 9=6:=by decide
section
variable {w w':World}
structure HM (w0 w:World) (p:Nat) (h:HH) (O:Wo):Prop where
 B:HeapAt w h O
 e:h.p=p
 K:Keeps (fun _=>False) w0 w
 own:∀ k,h.Own k→w0.heap.size≤k
theorem HM.to {w0:World} {p:Nat} {h:HH} {O O':Wo} (M:HM w0 w p h O) (t:HeapTo w h w' O'):∃ h',HM w0 w' p h' O':=by
 obtain ⟨h',H',e',k',o'⟩:=t
 refine ⟨h',H',e'.trans M.e,M.K.then k' (fun b hb=>.inr (M.own b hb)),fun b hb=>?_⟩
 rcases o' b hb with h1 | h1
 ·exact M.own b h1
 ·have:=M.K.size;omega
theorem HM.same {w0:World} {p:Nat} {h:HH} {O:Wo} (M:HM w0 w p h O) (k:Keeps (fun _=>False) w w'):HM w0 w' p h O:=⟨M.B.same k,M.e,M.K.trans k,M.own⟩
theorem HM.pc {w0:World} {p:Nat} {h:HH} {O:Wo} (M:HM w0 w p h O):w.cell? ⟨p,0,none⟩=some (.pointer (some ⟨h.a.p,0,none⟩))∧p<w.heap.size:=by
 have:=M.B.pc
 rw [M.e] at this
 exact this
theorem heapBegun_c (w:World):Calls Try.prog 6 #[] w fun e w'=>e=.returned (.bool true)∧Keeps (fun _=>False) w w':=by
 have hfit:Ar.fits 16 8=true:=by decide
 go_enter Try.func6,Try.ntmps6
 go_wp2_with fail
 refine (HNew_yes 16 8 w hfit).mono ?_
 rintro e w1 ⟨h,rfl,B1,k1,o1⟩
 have ka:=(Kz w1).alloc (.cells #[.int .i64 0, .int .i64 0] 31)
 have M1:=Hz (show HM w (w1.alloc (.cells #[.int .i64 0, .int .i64 0] 31)) h.p h _ from ⟨B1.same ka,rfl,k1.trans ka,o1⟩)
 have d0:(w1.alloc (.cells #[.int .i64 0, .int .i64 0] 31)).cell? ⟨w1.heap.size,0,none⟩=some (.int .i64 0):=(Blk.new w1 [.int .i64 0, .int .i64 0] 31).cell 0
 have dl:w1.heap.size<(w1.alloc (.cells #[.int .i64 0, .int .i64 0] 31)).heap.size:=by simp
 clear B1 k1 o1 hfit ka
 go_upto_region 2 with (fail)
 generalize w1.alloc (.cells #[.int .i64 0, .int .i64 0] 31)=w2 at *
 generalize w1.heap.size=fb at *
 have c1:=HDoInt_c 0 0 0 0 7 M1.out.B
 rw [M1.out.e] at c1
 unfold HDoRet at c1
 rw [hb1] at c1
 have C1:=Hz c1
 clear c1
 generalize h.p=p at *
 go_wp2_with fail
 refine C1.out.mono ?_
 rintro e w3 ⟨rfl,ht⟩
 obtain ⟨h2,hM2⟩:=M1.out.to ht
 have M2:=Hz (show HM w w3 p h2 hB1 from hM2)
 clear ht hM2 M1 C1 d0 dl
 have c2:=HDoPair_c 1 0 0 0 0 M2.out.B (RoomOk.yes hbr)
 rw [M2.out.e] at c2
 unfold HDoRet at c2
 rw [hb2] at c2
 have C2:=Hz c2
 clear c2
 go_wp2_with fail
 refine C2.out.mono ?_
 rintro e w4 ⟨rfl,ht⟩
 obtain ⟨h3,hM3⟩:=M2.out.to ht
 have M3:=Hz (show HM w w4 p h3 hB2 from hM3)
 clear ht hM3 M2 C2
 have c3:=HDoGet_c 2 1 0 2 0 M3.out.B
 rw [M3.out.e] at c3
 unfold HDoRet at c3
 rw [hb3] at c3
 have C3:=Hz c3
 clear c3
 go_wp2_with fail
 refine C3.out.mono ?_
 rintro e w5 ⟨rfl,ht⟩
 obtain ⟨h4,hM4⟩:=M3.out.to ht
 have M4:=Hz (show HM w w5 p h4 hB3 from hM4)
 clear ht hM4 M3 C3
 obtain ⟨c0,pl⟩:=M4.out.pc
 go_wp2_with fail
 refine (View_c _ M4.out.B.H).mono ?_
 rintro e w6 ⟨v,rfl,⟨ro,rc,no,nc,F,rfl,-,hn,-⟩,hk⟩
 have K6:=Hz (M4.out.K.trans hk)
 rw [hbv] at hn ⊢
 obtain ⟨_,_,e',N⟩:=hn.nth
 cases e'
 obtain ⟨g,o,ao,ac,rfl,gl,x0,x1,rd,-⟩:=N 0 (by decide)
 obtain ⟨g2,o2,rfl,gl2,y0,y1⟩:=rd.val 0 (by decide)
 generalize hB3.view.1.length=vl at *
 simp only [List.getD_cons_zero,Nat.zero_mul,Nat.add_zero] at x0 x1 y0 y1
 have l1:([(1,[(1,7),(1,7)])]:List Nd).length=1:=rfl
 have l2:([(1,7),(1,7)]:List Vl).length=2:=rfl
 rw [l1]
 rw [l2] at x1
 have hfd:∀ w:World,(Instr.field 47 (.agg #[.slice ro vl rc, .slice (some ⟨g,o,none⟩) 1 nc]) 1).run Try.prog w=.ok (.slice (some ⟨g,o,none⟩) 1 nc) w:=fun _=>by kernel_rfl
 have U:=Hz (Uses_c 9 w6)
 clear c0 pl hk M4 hn N rd l1 l2 x0 y0
 go_wp2_with fail
 refine U.out.mono ?_
 rintro e w7 ⟨rfl,rfl⟩
 rw [hbu]
 go_wp2_with fail
 go_ret
 exact ⟨rfl,K6.out⟩
end
end
section
open Go.RowKit
def Apart (F:Nat→Prop) (p:Nat) (rv wv:Value):Prop:=∀ k,¬ (F k∧SideFp p rv wv k)
structure Liv (P:Program) (p:Nat) (τ:Type) where
 J:World→τ→(Nat→Prop)→Prop
 D:τ→Int→Prop
 DK:τ→Int→Prop
 alive:τ→Int→Bool
 keep:τ→List (Int × Int)→Int→τ × List (Int × Int) × Int
 now:τ→Int→Int
 fa:FuncId
 fk:FuncId
 fn:FuncId
 a1:Array Value
 a2:Array Value
 k1:Array Value
 k2:Array Value
 n1:Array Value
 n2:Array Value
 ea:∀ (args:Array Value) (w:World),(callFunc fa args).run P w=.ok (.enter fa args) w
 ek:∀ (args:Array Value) (w:World),(callFunc fk args).run P w=.ok (.enter fk args) w
 en:∀ (args:Array Value) (w:World),(callFunc fn args).run P w=.ok (.enter fn args) w
 J_keep:∀ {w w' t F S},J w t F→Keeps S w w'→(∀ k,F k→¬ S k)→J w' t F
 J_lt:∀ {w t F k},J w t F→F k→k<w.heap.size
 alive_c:∀ (w t F x),J w t F→D t x→Calls P fa (a1.push (.int .i64 x) ++ a2) w fun e w'=>e=.returned (.bool (alive t x))∧Keeps (fun _=>False) w w'
 now_c:∀ (w t F x),J w t F→D t x→Calls P fn (n1.push (.int .i64 x) ++ n2) w fun e w'=>e=.returned (.int .i64 (now t x))∧Keeps (fun _=>False) w w'
 keep_c:∀ (w t F rv wv regs wait x),J w t F→SideAt w p rv wv regs wait→Apart F p rv wv→DK t x→(∀ e ∈ wait,D t e.1∧D t e.2)→wait.length≤1000000 →
  Calls P fk (k1.push (.int .i64 x) ++ k2) w fun e w'=>e=.returned (.int .i64 (keep t wait x).2.2)∧∃ F',J w' (keep t wait x).1 F'∧SideAt w' p rv wv regs (keep t wait x).2.1∧Apart F' p rv wv ∧
   Keeps (fun k=>F k∨SideFp p rv wv k) w w'∧∀ k,F' k→F k∨w.heap.size≤k
 DK_D:∀ {t x},DK t x→D t x
 DK_keep:∀ {t wait x y},DK t x→DK t y→DK (keep t wait x).1 y
 D_keep:∀ {t wait x y},DK t x→D t y→D (keep t wait x).1 y
 D_new:∀ {t wait x},DK t x→D (keep t wait x).1 (keep t wait x).2.2
 D_wait:∀ {t wait x},DK t x→(∀ e ∈ wait,D t e.1∧D t e.2)→∀ e ∈ (keep t wait x).2.1,D (keep t wait x).1 e.1∧D (keep t wait x).1 e.2
 keep_len:∀ {t wait x},(keep t wait x).2.1.length=wait.length
def Liv.val {P:Program} {p:Nat} {τ:Type} (L:Liv P p τ):Value:=
 .agg #[.func (.func L.fa) L.a1 L.a2, .func (.func L.fk) L.k1 L.k2, .func (.func L.fn) L.n1 L.n2]
variable {τ:Type}
theorem entV_app (a b:List (Int × Int)):entV (a ++ b)=entV a ++ entV b:=by simp [entV]
theorem entV_set (pre rest:List (Int × Int)) (v:Int × Int) (x:Int):entV (pre ++ (v.1,x) :: rest)=(entV (pre ++ v :: rest)).set (pre.length*2+1) (.int .i64 x):=by
 rw [entV_app,entV_app,entV_cons,entV_cons,List.set_append_right _ _ (by rw [entV_length];omega),entV_length,show pre.length*2+1-pre.length*2=1 by omega]
 rfl
theorem SideAt.setThing {w:World} {p g o cap n:Nat} {rv:Value} {regs pre rest:List (Int × Int)} {v:Int × Int} (x:Int) (h:SideAt w p rv (.slice (some ⟨g,o,none⟩) n cap) regs (pre ++ v :: rest)) :
  SideAt (w.setCell ⟨g,o+pre.length*2+1,none⟩ (.int .i64 x)) p rv (.slice (some ⟨g,o,none⟩) n cap) regs (pre ++ (v.1,x) :: rest):=by
 have hpg:p≠g:=fun e=>h.pw (by subst e;rfl)
 have hk:=(Keeps.refl (·=g) w).setCell (p:=⟨g,o+pre.length*2+1,none⟩) (.inl rfl) (.int .i64 x)
 refine ⟨h.hp.setOther (a:=⟨g,_,none⟩) hpg _,h.hr.keep hk (by rintro b hb rfl;exact h.ap b ⟨hb,rfl⟩),?_,h.ap⟩
 have hlen:(pre ++ (v.1,x) :: rest).length=(pre ++ v :: rest).length:=by simp
 obtain ⟨g',o',cap',cur,e,hb,h1,h2,h3,h4⟩:=h.hw.laid (by simp;omega)
 cases e
 rw [hlen]
 refine ⟨by rw [entV_length,hlen], .inr ⟨g,o,cap,_,rfl,hb.setSame _ _,h1,h2,by simpa using h3,?_⟩⟩
 rw [entV_set,←h4]
 apply List.ext_getElem?
 intro j
 simp only [List.getElem?_take,List.getElem?_drop,List.getElem?_set,List.length_set,List.length_take,List.length_drop]
 by_cases hj:j<(pre ++ v :: rest).length*2
 ·rw [if_pos hj,if_pos hj]
  by_cases e:pre.length*2+1=j
  ·subst e
   have hl:(pre ++ v :: rest).length=pre.length+1+rest.length:=by simp;omega
   rw [if_pos (by omega),if_pos rfl,if_pos (by omega),if_pos (by omega)]
  ·rw [if_neg (by omega),if_neg e]
 ·rw [if_neg hj]
  by_cases e:pre.length*2+1=j
  ·rw [if_pos e,if_neg (by omega)]
  ·rw [if_neg e,if_neg hj]
def WakeIn {P:Program} {p:Nat} (L:Liv P p τ) (kp:τ→Int→τ × Int) (t:τ) (F:Nat→Prop) (rv wv:Value) (regs wait:List (Int × Int)) (w wr:World) (k:Nat) (woke:Bool):Prop:=
 ∃ tk Fk pre,pre.length=k∧L.J wr tk Fk∧SideAt wr p rv wv regs (pre ++ wait.drop k)∧Apart Fk p rv wv∧Keeps (fun b=>F b∨SideFp p rv wv b) w wr∧(∀ b,Fk b→F b∨w.heap.size≤b) ∧
  (∀ e ∈ pre ++ wait.drop k,L.D tk e.1∧L.D tk e.2) ∧
  wakeM L.alive kp t wait=((wakeM L.alive kp tk (wait.drop k)).1,pre ++ (wakeM L.alive kp tk (wait.drop k)).2.1,woke || (wakeM L.alive kp tk (wait.drop k)).2.2)
def WakeTo {P:Program} {p:Nat} (L:Liv P p τ) (kp:τ→Int→τ × Int) (t:τ) (F:Nat→Prop) (rv wv:Value) (regs wait:List (Int × Int)) (w:World) (e:Ending) (w':World):Prop:=
 e=.returned (.bool (wakeM L.alive kp t wait).2.2)∧∃ F',L.J w' (wakeM L.alive kp t wait).1 F'∧SideAt w' p rv wv regs (wakeM L.alive kp t wait).2.1∧Apart F' p rv wv∧Keeps (fun b=>F b∨SideFp p rv wv b) w w'∧(∀ b,F' b→F b∨w.heap.size≤b) ∧
  (∀ e ∈ (wakeM L.alive kp t wait).2.1,L.D (wakeM L.alive kp t wait).1 e.1∧L.D (wakeM L.alive kp t wait).1 e.2)
theorem WakeIn.skip {P:Program} {p:Nat} {L:Liv P p τ} {kp:τ→Int→τ × Int} {t tk:τ} {F Fk:Nat→Prop} {rv wv:Value} {regs wait pre:List (Int × Int)} {v:Int × Int} {w wr w2:World} {k:Nat} {woke:Bool}
  (hpk:pre.length=k) (hdr:wait.drop k=v :: wait.drop (k+1)) (hJ:L.J wr tk Fk) (hS:SideAt wr p rv wv regs (pre ++ v :: wait.drop (k+1))) (hA:Apart Fk p rv wv) (hK:Keeps (fun b=>F b∨SideFp p rv wv b) w wr) (hF:∀ b,Fk b→F b∨w.heap.size≤b)
  (hD:∀ e ∈ pre ++ v :: wait.drop (k+1),L.D tk e.1∧L.D tk e.2)
  (hM:wakeM L.alive kp t wait=((wakeM L.alive kp tk (v :: wait.drop (k+1))).1,pre ++ (wakeM L.alive kp tk (v :: wait.drop (k+1))).2.1,woke || (wakeM L.alive kp tk (v :: wait.drop (k+1))).2.2))
  (hk2:Keeps (fun _=>False) wr w2) (hc:(L.alive tk v.1 && !L.alive tk v.2)=false):WakeIn L kp t F rv wv regs wait w w2 (k+1) woke:=by
 have e:pre ++ v :: wait.drop (k+1)=(pre ++ [v]) ++ wait.drop (k+1):=by simp
 refine ⟨tk,Fk,pre ++ [v],by simp [hpk],L.J_keep hJ hk2 (fun _ _ h=>h),?_,hA,hK.trans (hk2.mono fun _ _ h=>h.elim),hF,?_,?_⟩
 ·rw [←e];exact hS.keep hk2 (fun _ _ h=>h)
 ·rw [←e];exact hD
 ·rw [hM]
  simp only [wakeM,hc,if_neg (show ¬ (false=true) by decide),List.append_assoc,List.cons_append,List.nil_append]
theorem WakeIn.kept {P:Program} {p:Nat} {L:Liv P p τ} {kp:τ→Int→τ × Int} {t tk:τ} {F Fk F2:Nat→Prop} {rv wv:Value} {regs wait pre:List (Int × Int)} {v:Int × Int} {w wr w2:World} {k:Nat} {woke:Bool}
  (hpk:pre.length=k) (hK:Keeps (fun b=>F b∨SideFp p rv wv b) w wr) (hF:∀ b,Fk b→F b∨w.heap.size≤b)
  (hM:wakeM L.alive kp t wait=((wakeM L.alive kp tk (v :: wait.drop (k+1))).1,pre ++ (wakeM L.alive kp tk (v :: wait.drop (k+1))).2.1,woke || (wakeM L.alive kp tk (v :: wait.drop (k+1))).2.2))
  (hJ:L.J w2 (kp tk v.2).1 F2) (hS:SideAt w2 p rv wv regs (pre ++ (v.1,(kp tk v.2).2) :: wait.drop (k+1))) (hA:Apart F2 p rv wv) (hk2:Keeps (fun b=>Fk b∨SideFp p rv wv b) wr w2) (hF2:∀ b,F2 b→Fk b∨wr.heap.size≤b)
  (hD:∀ e ∈ pre ++ (v.1,(kp tk v.2).2) :: wait.drop (k+1),L.D (kp tk v.2).1 e.1∧L.D (kp tk v.2).1 e.2)
  (hc:(L.alive tk v.1 && !L.alive tk v.2)=true):WakeIn L kp t F rv wv regs wait w w2 (k+1) true:=by
 have e:pre ++ (v.1,(kp tk v.2).2) :: wait.drop (k+1)=(pre ++ [(v.1,(kp tk v.2).2)]) ++ wait.drop (k+1):=by simp
 refine ⟨_,F2,pre ++ [(v.1,(kp tk v.2).2)],by simp [hpk],hJ,?_,hA,hK.then hk2 ?_,?_,?_,?_⟩
 ·rw [←e];exact hS
 ·rintro b (h | h)
  ·rcases hF b h with h | h
   ·exact .inl (.inl h)
   ·exact .inr h
  ·exact .inl (.inr h)
 ·intro b hb
  rcases hF2 b hb with h | h
  ·exact hF b h
  ·exact .inr (Nat.le_trans hK.size h)
 ·rw [←e];exact hD
 ·rw [hM]
  simp only [wakeM,hc,if_true,List.append_assoc,List.cons_append,List.nil_append,Bool.or_true,Bool.true_or]
theorem Wake_c (p:Nat) (L:Liv Try.prog p τ) (kp:τ→Int→τ × Int) (hsame:∀ t l x,L.keep t l x=((kp t x).1,l,(kp t x).2)) (t:τ) (F:Nat→Prop) (rv wv:Value) (regs wait:List (Int × Int)) (w:World)
  (hdk:∀ t x,L.D t x→L.alive t x=false→L.DK t x) (hJ:L.J w t F) (h:SideAt w p rv wv regs wait) (hap:Apart F p rv wv) (hl:wait.length≤1000000) (hD:∀ e ∈ wait,L.D t e.1∧L.D t e.2) :
  Calls Try.prog 96 #[.pointer (some ⟨p,0,none⟩),L.val] w fun e w'=>WakeTo L kp t F rv wv regs wait w e w':=by
 obtain ⟨wo,wc,rfl,hrd,_,_⟩:=h.hw.rd
 have c1:=h.hp.cell 1
 simp only [List.getElem?_cons_zero,List.getElem?_cons_succ] at c1
 have hpl:=h.hp.lt
 have H:=Hz h
 have HSM:=Hz hsame;have HDK:=Hz hdk;have HJ:=Hz hJ;have HA:=Hz hap;have HD:=Hz hD
 clear h hrd hsame hdk hJ hap hD
 have ea:=L.ea;have ek:=L.ek;have en:=L.en
 generalize hbox:w.alloc (.cells #[.func (.func L.fa) L.a1 L.a2, .func (.func L.fk) L.k1 L.k2, .func (.func L.fn) L.n1 L.n2] 116)=wb
 have hkb:Keeps (fun b=>F b∨SideFp p rv (.slice wo wait.length wc) b) w wb:=by rw [←hbox];exact (Keeps.refl _ _).alloc _
 have hbb:Blk wb w.heap.size [.func (.func L.fa) L.a1 L.a2, .func (.func L.fk) L.k1 L.k2, .func (.func L.fn) L.n1 L.n2] 116:=by rw [←hbox];exact Blk.newAt _ rfl rfl
 have hszb:wb.heap.size=w.heap.size+1:=by rw [←hbox];simp
 have hkb0:Keeps (fun _=>False) w wb:=by rw [←hbox];exact (Keeps.refl _ _).alloc _
 have HI:WakeIn L kp t F rv (.slice wo wait.length wc) regs wait wb wb 0 false:=
  ⟨t,F,[],rfl,L.J_keep HJ.out hkb0 (fun _ _ h=>h),H.out.keep hkb0 (fun _ _ h=>h),HA.out,Keeps.refl _ _,fun b hb=>.inl hb,by simpa using HD.out,by simp⟩
 have HKB:=Hz hkb;have HBB:=Hz hbb;have HSZ:=Hz hszb;have HBX:=Hz hbox
 clear hkb hbb hszb hkb0 hbox
 unfold Liv.val
 go_enter Try.func96,Try.ntmps96
 go_wp2_with fail
 rw [HBX.out]
 go_loopw [5,14] (fun v i wr=>∃ (k:Nat) (woke:Bool),k≤wait.length∧i=.int .i64 k∧v=.bool woke∧WakeIn L kp t F rv (.slice wo wait.length wc) regs wait wb wr k woke) (fun _ i _=>wait.length-(intOf i).toNat)
 case atStart=>exact ⟨0,false,Nat.zero_le _,rfl,rfl,HI⟩
 case round=>
  clear HI c1
  obtain ⟨k,woke,hk,rfl,rfl,tk,Fk,pre,hpk,hJ,hS,hA,hK,hFk,hDk,hM⟩:=hrel
  have GJ:=Hz hJ;have GS:=Hz hS;have GA:=Hz hA;have GK:=Hz hK;have GF:=Hz hFk;have GD:=Hz hDk;have GM:=Hz hM;have GP:=Hz hpk
  clear hJ hS hA hK hFk hDk hM hpk
  by_cases hlt:k<wait.length
  ·have hdr:wait.drop k=wait.getD k (0,0) :: wait.drop (k+1):=by
    rw [List.drop_eq_getElem_cons hlt];simp [List.getD,hlt]
   have hm:=GM.out;have hs:=GS.out;have hd:=GD.out
   have HDR:=Hz hdr
   rw [hdr] at hm hs hd
   have hvd:=hd (wait.getD k (0,0)) (by simp)
   have hgt:(pre ++ wait.getD k (0,0) :: wait.drop (k+1)).getD k (0,0)=wait.getD k (0,0):=by
    simp [List.getD,GP.out]
   have hln:(pre ++ wait.getD k (0,0) :: wait.drop (k+1)).length=wait.length:=by simp [GP.out];omega
   generalize wait.getD k (0,0)=v at *
   obtain ⟨g,o,cap,cur,he,hb,_,_,_,_⟩:=hs.hw.laid (by omega)
   rw [hln] at he
   cases he
   obtain ⟨_,_,e',hrd,_,_⟩:=hs.hw.rd
   rw [hln] at e'
   cases e'
   obtain ⟨g',o',e',hgl,d0,d1⟩:=hrd.ent k (by omega)
   cases e'
   rw [hgt] at d0 d1
   have hbw:w.heap.size<wb.heap.size:=by rw [HSZ.out];omega
   have hbn:∀ b,(F b∨SideFp p rv (.slice (some ⟨g,o,none⟩) wait.length wc) b)→¬ b=w.heap.size:=by
    rintro b (h | h) rfl
    ·have:=L.J_lt HJ.out h;omega
    ·have:=H.out.fp_lt h;omega
   have hbx:Blk wr w.heap.size _ _:=GK.out.blk HBB.out (fun h=>hbn _ h rfl)
   have HX:=Hz hbx;have HM:=Hz hm;have HS:=Hz hs;have HD:=Hz hd;have HV:=Hz hvd;have HN:=Hz hbn
   have b0:=hbx.cell 0;have b1:=hbx.cell 1
   have bl:=hbx.lt
   simp only [List.getElem?_cons_zero,List.getElem?_cons_succ] at b0 b1
   clear hm hs hd hvd hbx hbn hb hrd hgt hdr
   have ALL:Hid (∀ w2,Keeps (fun _=>False) wr w2→(L.alive tk v.1 && !L.alive tk v.2)=false→WakeIn L kp t F rv (.slice (some ⟨g,o,none⟩) wait.length wc) regs wait wb w2 (k+1) woke):=fun w2 h1 h2=>WakeIn.skip GP.out HDR.out GJ.out HS.out GA.out GK.out GF.out HD.out HM.out h1 h2
   go_wp2_with fail
   have hk0:=(Kz wr).alloc (.cells #[Value.int IntKind.i64 v.fst,Value.int IntKind.i64 v.snd] 100)
   refine (L.alive_c _ tk Fk v.1 (L.J_keep GJ.out hk0 (fun _ _ h=>h)) HV.out.1).mono ?_
   rintro e w1 ⟨rfl,hk1⟩
   have HK1:=Hz (hk0.trans hk1)
   have HE1:=Hz (hk1.blk (Blk.newAt (w:=wr) _ rfl rfl) (fun h=>h))
   have x0:=(HK1.out.blk HX.out (fun h=>h)).cell 0
   have xl:=(HK1.out.blk HX.out (fun h=>h)).lt
   have e1:=HE1.out.cell 1
   have el:=HE1.out.lt
   simp only [List.getElem?_cons_zero,List.getElem?_cons_succ] at x0 e1
   clear hk0 hk1
   cases ha:L.alive tk v.1
   ·go_wp2_with fail
    go_roundw
    case rel=>exact ⟨k+1,woke,by omega,by go_num,rfl,ALL.out _ HK1.out (by rw [ha];rfl)⟩
    case measure=>simp [intOf];omega
   ·go_wp2_with fail
    refine (L.alive_c _ tk Fk v.2 (L.J_keep GJ.out HK1.out (fun _ _ h=>h)) HV.out.2).mono ?_
    rintro e w2 ⟨rfl,hk2⟩
    have HK2:=Hz (HK1.out.trans hk2)
    have HE2:=Hz (hk2.blk HE1.out (fun h=>h))
    clear x0 xl e1 el
    have x0:=(HK2.out.blk HX.out (fun h=>h)).cell 1
    have xl:=(HK2.out.blk HX.out (fun h=>h)).lt
    have e1:=HE2.out.cell 1
    have el:=HE2.out.lt
    simp only [List.getElem?_cons_zero,List.getElem?_cons_succ] at x0 e1
    clear hk2
    cases hb:L.alive tk v.2
    ·go_wp2_with fail
     refine (L.keep_c _ tk Fk rv _ regs _ v.2 (L.J_keep GJ.out HK2.out (fun _ _ h=>h)) (HS.out.keep HK2.out (fun _ _ h=>h)) GA.out (HDK.out _ _ HV.out.2 hb) HD.out (by omega)).mono ?_
     rintro e w3 ⟨rfl,F3,hJ3,hS3,hA3,hk3,hF3⟩
     have hdk:∀ e ∈ pre ++ v :: wait.drop (k+1),L.D (kp tk v.2).1 e.1∧L.D (kp tk v.2).1 e.2:=by
      intro e he
      have:=HD.out e he
      have a1:=L.D_keep (wait:=pre ++ v :: wait.drop (k+1)) (HDK.out _ _ HV.out.2 hb) this.1
      have a2:=L.D_keep (wait:=pre ++ v :: wait.drop (k+1)) (HDK.out _ _ HV.out.2 hb) this.2
      rw [HSM.out] at a1 a2
      exact ⟨a1,a2⟩
     have hdn:=L.D_new (wait:=pre ++ v :: wait.drop (k+1)) (HDK.out _ _ HV.out.2 hb)
     have e3:(L.keep tk (pre ++ v :: wait.drop (k+1)) v.2).2.2=(kp tk v.2).2:=by rw [HSM.out]
     rw [e3]
     rw [HSM.out] at hJ3 hS3 hdn
     replace hJ3:L.J w3 (kp tk v.2).1 F3:=hJ3
     replace hS3:SideAt w3 p rv (.slice (some ⟨g,o,none⟩) wait.length wc) regs (pre ++ v :: wait.drop (k+1)):=hS3
     replace hdn:L.D (kp tk v.2).1 (kp tk v.2).2:=hdn
     clear e3
     have hpg:p≠g:=fun e=>hS3.pw (by subst e;rfl)
     obtain ⟨g3,o3,cap3,cur3,he3,hb3,_,_,_,_⟩:=hS3.hw.laid (by omega)
     rw [hln] at he3
     cases he3
     have HS3:=Hz (hS3.setThing (kp tk v.2).2)
     have hk3':Keeps (fun b=>Fk b∨SideFp p rv (.slice (some ⟨g,o,none⟩) wait.length wc) b) wr w3:=(HK2.out.mono fun _ _ h=>h.elim).trans hk3
     have HF3:Hid (∀ b,F3 b→Fk b∨wr.heap.size≤b):=fun b hb=>by
      rcases hF3 b hb with h | h
      ·exact .inl h
      ·exact .inr (Nat.le_trans HK2.out.size h)
     have hng:¬ F3 g:=fun h=>hA3 g ⟨h, .inr (.inr rfl)⟩
     have HJ3:=Hz (L.J_keep hJ3 ((Keeps.refl (·=g) w3).setCell (p:=⟨g,o+pre.length*2+1,none⟩) (.inl rfl) (.int .i64 (kp tk v.2).2)) (by rintro b hb rfl;exact hng hb))
     have HK3:=Hz (hk3'.setCell (p:=⟨g,o+pre.length*2+1,none⟩) (.inl (.inr (.inr (.inr rfl)))) (.int .i64 (kp tk v.2).2))
     have HA3:=Hz hA3
     have p1:=hS3.hp.cell 1
     have fz:=hb3.free (o+k*2+1)
     obtain ⟨_,_,e3,hrd3,_,_⟩:=hS3.hw.rd
     rw [hln] at e3
     cases e3
     obtain ⟨g3,o3,e3,_,q0,q1⟩:=hrd3.ent k (by omega)
     cases e3
     have gl:=hb3.lt
     have pl:=hS3.hp.lt
     simp only [List.getElem?_cons_zero,List.getElem?_cons_succ] at p1
     rw [GP.out] at HJ3 HK3 HS3
     have HDN:Hid (∀ e ∈ pre ++ (v.1,(kp tk v.2).2) :: wait.drop (k+1),L.D (kp tk v.2).1 e.1∧L.D (kp tk v.2).1 e.2):=by
      intro e he
      simp only [List.mem_append,List.mem_cons] at he
      rcases he with he | rfl | he
      ·exact hdk e (by simp [he])
      ·exact ⟨(hdk v (by simp)).1,hdn⟩
      ·exact hdk e (by simp [he])
     have HX3:Hid (w.heap.size<w3.heap.size):=Nat.lt_of_lt_of_le xl hk3.size
     have hx3:=HX3.out
     clear hrd3 hJ3 hS3 hA3 hk3 hF3 hdk hdn hk3' hng hb3 x0 xl e1 el
     clear HX3
     go_wp2_with fail
     go_roundw
     case rel=>exact ⟨k+1,true,by omega,by go_num,rfl,WakeIn.kept GP.out GK.out GF.out HM.out HJ3.out HS3.out HA3.out HK3.out HF3.out HDN.out (by rw [ha,hb];rfl)⟩
     case measure=>simp [intOf];omega
    ·go_wp2_with fail
     go_roundw
     case rel=>exact ⟨k+1,woke,by omega,by go_num,rfl,ALL.out _ HK2.out (by rw [ha,hb];rfl)⟩
     case measure=>simp [intOf];omega
  ·obtain rfl:k=wait.length:=by omega
   go_wp2_with fail
   go_ret
   have hm:=GM.out
   have hs:=GS.out
   have hd:=GD.out
   rw [List.drop_length] at hm hs hd
   simp only [wakeM,List.append_nil,Bool.or_false] at hm hs hd
   refine ⟨by rw [hm];rfl,Fk,by rw [hm];exact GJ.out,by rw [hm];exact hs,GA.out,HKB.out.trans GK.out,fun b hb=>?_,by rw [hm];exact hd⟩
   rcases GF.out b hb with h | h
   ·exact .inl h
   ·exact .inr (by rw [HSZ.out] at h;omega)
end
section
open Go.RowKit
variable {τ:Type}
def cntF (w:World) (b:Nat):Nat:=match w.heap[b]? with
 | some (.cells c _ _)=>(c.toList.filter fun v=>match v with | .bool false=>true | _=>false).length
 | _=>0
theorem cntF_blk {w:World} {b:Nat} {l:List It} {T:TypeId} (h:Blk w b (l.map fun i=>.bool i.2.2) T):cntF w b=unN l:=by
 unfold Blk at h
 unfold cntF unN
 rw [h]
 simp only [List.filter_map,List.length_map]
 congr 2
 funext i
 simp only [Function.comp]
 cases i.2.2 <;> rfl
def Liv.cells {P:Program} {p:Nat} (L:Liv P p τ):List Value:=[.func (.func L.fa) L.a1 L.a2, .func (.func L.fk) L.k1 L.k2, .func (.func L.fn) L.n1 L.n2]
structure Mid {P:Program} {p:Nat} (L:Liv P p τ) (w:World) (F:Nat→Prop) (rv wv:Value) (b0 b1 b2:Nat) (items:List It) (q:List (Int × Int)) (t':τ) (F':Nat→Prop) (wv':Value) (wr:World):Prop where
 hJ:L.J wr t' F'
 hS:SideAt wr p rv wv' (items.map (·.1)) q
 hA:Apart F' p rv wv'
 hK:Keeps (fun b=>F b∨SideFp p rv wv b) w wr
 hF:∀ b,F' b→F b∨w.heap.size≤b
 hO:∀ b,ownB wv' b→ownB wv b∨w.heap.size≤b
 h0:Blk wr b0 L.cells 116
 h1:Blk wr b1 (items.map fun i=>.bool i.2.1) 4
 h2:Blk wr b2 (items.map fun i=>.bool i.2.2) 4
 n0:¬ F' b0
 n1:¬ F' b1
 n2:¬ F' b2
 g0:w.heap.size≤b0
 g1:w.heap.size≤b1
 g2:w.heap.size≤b2
 b12:b1≠b2
 hq:∀ e ∈ q,L.D t' e.1∧L.D t' e.2
 hr:∀ i ∈ items,L.D t' i.1.1∧L.DK t' i.1.2
theorem SideAt.nfp {w:World} {p b:Nat} {rv wv:Value} {regs wait:List (Int × Int)} {c:List Value} {T:TypeId} (h:SideAt w p rv wv regs wait) (hb:Blk w b c T) (h1:T≠53) (h2:T≠100):¬ SideFp p rv wv b:=by
 rintro (rfl | h' | h')
 ·exact hb.ne h.hp h1 rfl
 ·obtain ⟨_,cur,hc⟩:=h.hr.own h'
  exact hb.ne hc h2 rfl
 ·obtain ⟨_,cur,hc⟩:=h.hw.own h'
  exact hb.ne hc h2 rfl
section
variable {P:Program} {p:Nat} {L:Liv P p τ} {w:World} {F:Nat→Prop} {rv wv:Value} {b0 b1 b2:Nat} {items:List It} {q:List (Int × Int)} {t':τ} {F':Nat→Prop} {wv':Value} {wr:World}
theorem Mid.keep {w2:World} (h:Mid L w F rv wv b0 b1 b2 items q t' F' wv' wr) (k:Keeps (fun _=>False) wr w2):Mid L w F rv wv b0 b1 b2 items q t' F' wv' w2:=
 ⟨L.J_keep h.hJ k (fun _ _ h=>h),h.hS.keep k (fun _ _ h=>h),h.hA,h.hK.trans (k.mono fun _ _ h=>h.elim),h.hF,h.hO,k.blk h.h0 (fun h=>h),k.blk h.h1 (fun h=>h),k.blk h.h2 (fun h=>h),h.n0,h.n1,h.n2,h.g0,h.g1,h.g2,h.b12,h.hq,h.hr⟩
theorem Mid.move {i:It} {a b:List It} (h:Mid L w F rv wv b0 b1 b2 (a ++ i :: b) q t' F' wv' wr):Mid L w F rv wv b0 b1 b2 (a ++ (i.1,i.2.1,true) :: b) q t' F' wv' (wr.setCell ⟨b2,a.length,none⟩ (.bool true)):=by
 have k:=(Keeps.refl (·=b2) wr).setCell (p:=⟨b2,a.length,none⟩) (.inl rfl) (.bool true)
 have hn:¬ SideFp p rv wv' b2:=h.hS.nfp h.h2 (by decide) (by decide)
 refine ⟨L.J_keep h.hJ k (by rintro b hb rfl;exact h.n2 hb),?_,h.hA,h.hK.setCell (p:=⟨b2,a.length,none⟩) (.inr h.g2) _,h.hF,h.hO,k.blk h.h0 (fun e=>?_),?_,?_,h.n0,h.n1,h.n2,h.g0,h.g1,h.g2,h.b12,h.hq,?_⟩
 ·have:=h.hS.keep k (by rintro b hb rfl;exact hn hb)
  simpa using this
 ·subst e;exact h.h0.ne h.h2 (by decide) rfl
 ·have:=k.blk h.h1 h.b12
  simpa using this
 ·have:=h.h2.setSame a.length (.bool true)
  simpa using this
 ·intro j hj
  simp only [List.mem_append,List.mem_cons] at hj
  rcases hj with hj | rfl | hj
  ·exact h.hr j (by simp [hj])
  ·exact h.hr i (by simp)
  ·exact h.hr j (by simp [hj])
theorem Mid.kept {x:Int} {w2:World} {F2:Nat→Prop} (h:Mid L w F rv wv b0 b1 b2 items q t' F' wv' wr) (hx:L.DK t' x)
  (hJ:L.J w2 (L.keep t' q x).1 F2) (hS:SideAt w2 p rv wv' (items.map (·.1)) (L.keep t' q x).2.1) (hA:Apart F2 p rv wv') (hk:Keeps (fun k=>F' k∨SideFp p rv wv' k) wr w2) (hF2:∀ k,F2 k→F' k∨wr.heap.size≤k) :
  Mid L w F rv wv b0 b1 b2 items (L.keep t' q x).2.1 (L.keep t' q x).1 F2 wv' w2:=by
 have out:∀ {b:Nat} {c:List Value} {T:TypeId},Blk wr b c T→¬ F' b→T≠53→T≠100→Blk w2 b c T∧¬ F2 b:=fun {b c T} hb hn h1 h2=>
  ⟨hk.blk hb (by rintro (h3 | h3);exact hn h3;exact h.hS.nfp hb h1 h2 h3),fun h3=>by
   rcases hF2 _ h3 with h4 | h4
   ·exact hn h4
   ·have:=hb.lt;omega⟩
 refine ⟨hJ,hS,hA,h.hK.then hk ?_,?_,h.hO,(out h.h0 h.n0 (by decide) (by decide)).1,(out h.h1 h.n1 (by decide) (by decide)).1,(out h.h2 h.n2 (by decide) (by decide)).1,
  (out h.h0 h.n0 (by decide) (by decide)).2,(out h.h1 h.n1 (by decide) (by decide)).2,(out h.h2 h.n2 (by decide) (by decide)).2,h.g0,h.g1,h.g2,h.b12,L.D_wait hx h.hq,fun i hi=>⟨L.D_keep hx (h.hr i hi).1,L.DK_keep hx (h.hr i hi).2⟩⟩
 ·rintro b (hb | hb | hb | hb)
  ·rcases h.hF b hb with h1 | h1
   ·exact .inl (.inl h1)
   ·exact .inr h1
  ·exact .inl (.inr (.inl hb))
  ·exact .inl (.inr (.inr (.inl hb)))
  ·rcases h.hO b hb with h1 | h1
   ·exact .inl (.inr (.inr (.inr h1)))
   ·exact .inr h1
 ·intro b hb
  rcases hF2 b hb with h1 | h1
  ·exact h.hF b h1
  ·exact .inr (Nat.le_trans h.hK.size h1)
theorem Mid.app {e:Int × Int} {w2:World} {v2:Value} (h:Mid L w F rv wv b0 b1 b2 items q t' F' wv' wr) (he:L.D t' e.1∧L.D t' e.2)
  (hs:Sl w2 100 2 v2 (q ++ [e]).length (entV (q ++ [e]))) (hk:Keeps (ownB wv') wr w2) (ho:∀ k,ownB v2 k→ownB wv' k∨wr.heap.size≤k) :
  Mid L w F rv wv b0 b1 b2 items (q ++ [e]) t' F' v2 (w2.setCell ⟨p,1,none⟩ v2):=by
 have hkp:=(Keeps.refl (·=p) w2).setCell (p:=⟨p,1,none⟩) (.inl rfl) v2
 have hpw:=h.hS.pw
 have hp2:=hk.blk h.hS.hp hpw
 have hFp:¬ F' p:=fun hb=>h.hA p ⟨hb, .inl rfl⟩
 have out:∀ {b:Nat} {c:List Value} {T:TypeId},Blk wr b c T→T≠53→T≠100→Blk (w2.setCell ⟨p,1,none⟩ v2) b c T:=fun {b c T} hb h1 h2=>by
  have hn:=h.hS.nfp hb h1 h2
  exact hkp.blk (hk.blk hb (fun h3=>hn (.inr (.inr h3)))) (fun h3=>hn (.inl h3))
 have hv2p:¬ ownB v2 p:=fun hb=>by
  obtain ⟨_,cur,hc⟩:=hs.own hb
  exact hp2.ne hc (by decide) rfl
 refine ⟨L.J_keep (L.J_keep h.hJ hk (fun b hb h1=>h.hA b ⟨hb, .inr (.inr h1)⟩)) hkp (by rintro b hb rfl;exact hFp hb),⟨by simpa using hp2.setSame 1 v2,?_,?_,?_⟩,?_,?_,h.hF,?_,out h.h0 (by decide) (by decide),out h.h1 (by decide) (by decide),out h.h2 (by decide) (by decide),
  h.n0,h.n1,h.n2,h.g0,h.g1,h.g2,h.b12,?_,h.hr⟩
 ·exact (h.hS.hr.keep hk (fun b hb h1=>h.hS.ap b ⟨hb,h1⟩)).keep hkp (by rintro b hb rfl;exact h.hS.pr hb)
 ·exact hs.keep hkp (by rintro b hb rfl;exact hv2p hb)
 ·rintro b ⟨h1,h2⟩
  rcases ho b h2 with h3 | h3
  ·exact h.hS.ap b ⟨h1,h3⟩
  ·have:=(h.hS.hr.own h1).1;omega
 ·rintro b ⟨h1,h2 | h2 | h2⟩
  ·exact h.hA b ⟨h1, .inl h2⟩
  ·exact h.hA b ⟨h1, .inr (.inl h2)⟩
  ·rcases ho b h2 with h3 | h3
   ·exact h.hA b ⟨h1, .inr (.inr h3)⟩
   ·have:=L.J_lt h.hJ h1;omega
 ·refine (h.hK.then hk (fun b hb=>?_)).setCell (p:=⟨p,1,none⟩) (.inl (.inr (.inl rfl))) _
  rcases h.hO b hb with h1 | h1
  ·exact .inl (.inr (.inr (.inr h1)))
  ·exact .inr h1
 ·intro b hb
  rcases ho b hb with h1 | h1
  ·exact h.hO b h1
  ·exact .inr (Nat.le_trans h.hK.size h1)
 ·intro e' he'
  simp only [List.mem_append,List.mem_singleton] at he'
  rcases he' with he' | rfl
  ·exact h.hq _ he'
  ·exact he
end
def ScanIn {P:Program} {p:Nat} (L:Liv P p τ) (w:World) (F:Nat→Prop) (rv wv:Value) (b0 b1 b2:Nat) (t1:τ) (q1:List (Int × Int)) (items:List It) (N:Nat) (wr:World) (k:Nat) (more:Bool):Prop:=
 ∃ t' q' F' wv' done,done.length=k∧Mid L w F rv wv b0 b1 b2 (done ++ items.drop k) q' t' F' wv' wr∧q'.length+unN (done ++ items.drop k)≤N ∧
  scanM L.alive L.keep t1 q1 items=((scanM L.alive L.keep t' q' (items.drop k)).1,(scanM L.alive L.keep t' q' (items.drop k)).2.1,done ++ (scanM L.alive L.keep t' q' (items.drop k)).2.2.1,more || (scanM L.alive L.keep t' q' (items.drop k)).2.2.2)
theorem ScanIn.skip {P:Program} {p:Nat} {L:Liv P p τ} {w:World} {F:Nat→Prop} {rv wv:Value} {b0 b1 b2:Nat} {t1:τ} {q1:List (Int × Int)} {items:List It} {N:Nat} {wr w2:World} {k:Nat} {more:Bool}
  {t':τ} {q':List (Int × Int)} {F':Nat→Prop} {wv':Value} {done:List It} {i:It} (hd:done.length=k) (hdr:items.drop k=i :: items.drop (k+1)) (hm:Mid L w F rv wv b0 b1 b2 (done ++ i :: items.drop (k+1)) q' t' F' wv' wr) (hN:q'.length+unN (done ++ i :: items.drop (k+1))≤N)
  (he:scanM L.alive L.keep t1 q1 items=((scanM L.alive L.keep t' q' (i :: items.drop (k+1))).1,(scanM L.alive L.keep t' q' (i :: items.drop (k+1))).2.1,done ++ (scanM L.alive L.keep t' q' (i :: items.drop (k+1))).2.2.1,more || (scanM L.alive L.keep t' q' (i :: items.drop (k+1))).2.2.2))
  (hk2:Keeps (fun _=>False) wr w2) (hc:((i.2.1 && !i.2.2) && L.alive t' i.1.1)=false):ScanIn L w F rv wv b0 b1 b2 t1 q1 items N w2 (k+1) more:=by
 have e:done ++ i :: items.drop (k+1)=(done ++ [i]) ++ items.drop (k+1):=by simp
 refine ⟨t',q',F',wv',done ++ [i],by simp [hd],?_,?_,?_⟩
 ·rw [←e];exact hm.keep hk2
 ·rw [←e];exact hN
 ·rw [he]
  simp only [scanM,hc,if_neg (show ¬ (false=true) by decide),List.append_assoc,List.cons_append,List.nil_append]
theorem ScanIn.took {P:Program} {p:Nat} {L:Liv P p τ} {w:World} {F:Nat→Prop} {rv wv:Value} {b0 b1 b2:Nat} {t1:τ} {q1:List (Int × Int)} {items:List It} {N:Nat} {w2:World} {k:Nat} {more:Bool}
  {t':τ} {q':List (Int × Int)} {F2:Nat→Prop} {v2:Value} {done:List It} {i:It} (hd:done.length=k) (hN:q'.length+unN (done ++ i :: items.drop (k+1))≤N)
  (he:scanM L.alive L.keep t1 q1 items=((scanM L.alive L.keep t' q' (i :: items.drop (k+1))).1,(scanM L.alive L.keep t' q' (i :: items.drop (k+1))).2.1,done ++ (scanM L.alive L.keep t' q' (i :: items.drop (k+1))).2.2.1,more || (scanM L.alive L.keep t' q' (i :: items.drop (k+1))).2.2.2))
  (hm:Mid L w F rv wv b0 b1 b2 (done ++ (i.1,i.2.1,true) :: items.drop (k+1)) ((L.keep t' q' i.1.2).2.1 ++ [(i.1.1,(L.keep t' q' i.1.2).2.2)]) (L.keep t' q' i.1.2).1 F2 v2 w2)
  (hc:((i.2.1 && !i.2.2) && L.alive t' i.1.1)=true):ScanIn L w F rv wv b0 b1 b2 t1 q1 items N w2 (k+1) true:=by
 have e:done ++ (i.1,i.2.1,true) :: items.drop (k+1)=(done ++ [(i.1,i.2.1,true)]) ++ items.drop (k+1):=by simp
 refine ⟨(L.keep t' q' i.1.2).1,(L.keep t' q' i.1.2).2.1 ++ [(i.1.1,(L.keep t' q' i.1.2).2.2)],F2,v2,done ++ [(i.1,i.2.1,true)],by simp [hd],?_,?_,?_⟩
 ·rw [←e];exact hm
 ·rw [←e]
  simp only [Bool.and_eq_true,Bool.not_eq_true'] at hc
  simp only [List.length_append,L.keep_len,unN_app,unN_cons,hc.1.2] at hN ⊢
  simp at hN ⊢
  omega
 ·rw [he]
  simp only [scanM,hc,if_true,List.append_assoc,List.cons_append,List.nil_append,Bool.or_true,Bool.true_or]
end
section
open Go.RowKit
variable {τ:Type}
def SettleTo {P:Program} {p:Nat} (L:Liv P p τ) (t:τ) (F:Nat→Prop) (rv wv:Value) (regs wait:List (Int × Int)) (w:World) (e:Ending) (w':World):Prop:=
 e=.returned (.tuple #[])∧∃ F' rv' wv',L.J w' (passM L.alive L.keep t regs wait).1 F' ∧
  SideAt w' p rv' wv' (newRegs L.alive L.now (passM L.alive L.keep t regs wait).1 (passM L.alive L.keep t regs wait).2.2) (newWait L.alive L.now (passM L.alive L.keep t regs wait).1 (passM L.alive L.keep t regs wait).2.1) ∧
  Apart F' p rv' wv'∧Keeps (fun b=>F b∨SideFp p rv wv b) w w'∧(∀ b,F' b→F b∨w.heap.size≤b)∧(∀ b,SideFp p rv' wv' b→SideFp p rv wv b∨w.heap.size≤b)
def MoreIn {P:Program} {p:Nat} (L:Liv P p τ) (w:World) (F:Nat→Prop) (rv wv:Value) (b0 b1 b2:Nat) (t:τ) (regs wait:List (Int × Int)) (N:Nat) (wr:World) (more:Bool) (items:List It):Prop:=
 ∃ n t' q' F' wv',Mid L w F rv wv b0 b1 b2 items q' t' F' wv' wr∧items.map (·.1)=regs∧q'.length+unN items≤N∧(more=true→unN items<n) ∧
  passM L.alive L.keep t regs wait=if more then roundsM L.alive L.keep n t' q' items else (t',q',items)
def deadL (alive:τ→Int→Bool) (t:τ) (regs:List (Int × Int)) (k:Nat):List Value:=((regs.take k).map fun e=>.bool (!alive t e.2)) ++ List.replicate (regs.length-k) (.bool false)
theorem deadL_set {alive:τ→Int→Bool} {t:τ} {regs:List (Int × Int)} {k:Nat} (h:k<regs.length):deadL alive t regs (k+1)=(deadL alive t regs k).set k (.bool (!alive t (regs.getD k (0,0)).2)):=by
 unfold deadL
 rw [List.take_succ_eq_append_getElem h,List.map_append,List.set_append_right _ _ (by simp;omega)]
 have hr:List.replicate (regs.length-k) (Value.bool false)=.bool false :: List.replicate (regs.length-(k+1)) (.bool false):=by
  rw [show regs.length-k=(regs.length-(k+1))+1 by omega,List.replicate_succ]
 rw [hr]
 have hg:regs.getD k (0,0)=regs[k]:=by simp [List.getD,h]
 rw [hg]
 have h0:k-(List.map (fun e=>Value.bool (!alive t e.2)) (regs.take k)).length=0:=by simp;omega
 rw [h0]
 simp
theorem deadL_length {alive:τ→Int→Bool} {t:τ} {regs:List (Int × Int)} {k:Nat} (h:k≤regs.length):(deadL alive t regs k).length=regs.length:=by
 unfold deadL;simp;omega
theorem deadL_full (alive:τ→Int→Bool) (t:τ) (regs:List (Int × Int)):deadL alive t regs regs.length=(itemsM alive t regs).map fun i=>.bool i.2.1:=by
 unfold deadL itemsM;simp
theorem itemsM_fst (alive:τ→Int→Bool) (t:τ) (regs:List (Int × Int)):(itemsM alive t regs).map (·.1)=regs:=by
 simp [itemsM,List.map_map,Function.comp_def]
theorem itemsM_un (alive:τ→Int→Bool) (t:τ) (regs:List (Int × Int)):unN (itemsM alive t regs)=regs.length:=by
 unfold itemsM unN;rw [List.filter_map,List.length_map]
 congr 1
 apply List.filter_eq_self.2
 intro a _;rfl
theorem itemsM_moved (alive:τ→Int→Bool) (t:τ) (regs:List (Int × Int)):List.replicate regs.length (Value.bool false)=(itemsM alive t regs).map fun i=>.bool i.2.2:=by
 unfold itemsM;rw [List.map_map]
 apply List.ext_getElem (by simp)
 intro i h1 h2
 simp
theorem MoreIn.start {P:Program} {p:Nat} {L:Liv P p τ} {w:World} {F:Nat→Prop} {rv wv:Value} {t:τ} {regs wait:List (Int × Int)} {wr wm:World}
  (hJ:L.J w t F) (h:SideAt w p rv wv regs wait) (hap:Apart F p rv wv) (hD1:∀ e ∈ regs,L.D t e.1∧L.DK t e.2) (hD:∀ e ∈ wait,L.D t e.1∧L.D t e.2)
  (hk:Keeps (fun b=>w.heap.size≤b) w wr) (h0:Blk wr w.heap.size L.cells 116) (h1:Blk wr (w.heap.size+1) (deadL L.alive t regs regs.length) 4)
  (hkm:Keeps (fun _=>False) wr wm) (h2:Blk wm wr.heap.size (List.replicate regs.length (.bool false)) 4):MoreIn L w F rv wv w.heap.size (w.heap.size+1) wr.heap.size t regs wait (wait.length+regs.length) wm true (itemsM L.alive t regs):=by
 have k2:Keeps (fun b=>w.heap.size≤b) w wm:=hk.trans (hkm.mono fun _ _ h=>h.elim)
 have l1:=h1.lt
 have hF:∀ b,w.heap.size≤b→¬ F b:=fun b hb hf=>by have:=L.J_lt hJ hf;omega
 refine ⟨regs.length+1,t,wait,F,wv,⟨L.J_keep hJ k2 (fun b hb hw=>hF b hw hb),?_,hap,?_,fun b hb=>.inl hb,fun b hb=>.inl hb,hkm.blk h0 (fun h=>h),?_,?_,hF _ (Nat.le_refl _),hF _ (by omega),hF _ (by omega),Nat.le_refl _,by omega,by omega,by omega,hD,?_⟩,itemsM_fst _ _ _,?_,?_,?_⟩
 ·rw [itemsM_fst];exact h.keep k2 (fun b hb hw=>by have:=h.fp_lt hb;omega)
 ·exact ⟨k2.os,k2.tape,k2.output,k2.size,fun b hb hn=>k2.block b hb (by omega)⟩
 ·rw [←deadL_full];exact hkm.blk h1 (fun h=>h)
 ·rw [←itemsM_moved];exact h2
 ·intro i hi
  unfold itemsM at hi
  simp only [List.mem_map] at hi
  obtain ⟨e,he,rfl⟩:=hi
  exact hD1 e he
 ·rw [itemsM_un];exact Nat.le_refl _
 ·intro _;rw [itemsM_un];omega
 ·rfl
theorem MoreIn.next {P:Program} {p:Nat} {L:Liv P p τ} {w:World} {F:Nat→Prop} {rv wv:Value} {b0 b1 b2:Nat} {t:τ} {regs wait:List (Int × Int)} {N n:Nat} {t':τ} {q':List (Int × Int)} {items:List It} {w2:World} {more:Bool}
  (hf:items.map (·.1)=regs) (hn:unN items<n) (he:passM L.alive L.keep t regs wait=roundsM L.alive L.keep n t' q' items) (hs:ScanIn L w F rv wv b0 b1 b2 t' q' items N w2 regs.length more) :
  ∃ done,MoreIn L w F rv wv b0 b1 b2 t regs wait N w2 more done∧unN done≤unN items∧(more=true→unN done<unN items)∧Blk w2 b2 (done.map fun i=>.bool i.2.2) 4:=by
 obtain ⟨t2,q2,F2,v2,done,hd,hm,hN,hE⟩:=hs
 have hl:items.length=regs.length:=by rw [←hf];simp
 rw [←hl,List.drop_length,List.append_nil] at hm hN
 rw [←hl,List.drop_length] at hE
 simp only [scanM,List.append_nil,Bool.or_false] at hE
 obtain ⟨m,rfl⟩:∃ m,n=m+1:=⟨n-1,by omega⟩
 have hu:=scanM_un L.alive L.keep items t' q'
 have hfs:=scanM_fst L.alive L.keep items t' q'
 rw [hE] at hu hfs
 simp only at hu hfs
 refine ⟨done,⟨m,t2,q2,F2,v2,hm,?_,hN,fun h=>by have:=hu.2 h;omega,?_⟩,hu.1,hu.2,hm.h2⟩
 ·have:=congrArg (List.map (fun x:(Int × Int) × Bool=>x.1)) hfs
  simp only [List.map_map] at this
  rw [←hf]
  exact this
 ·rw [he]
  simp only [roundsM,hE]
def bit (v:Value):Nat:=match v with | .bool true=>1 | _=>0
theorem newRegs_step {alive:τ→Int→Bool} {now:τ→Int→Int} {t:τ} {l:List It} {k:Nat} (h:k<l.length):newRegs alive now t (l.take (k+1))=newRegs alive now t (l.take k) ++ if (!l[k].2.1 && alive t l[k].1.1)=true then [(now t l[k].1.1,now t l[k].1.2)] else []:=by
 unfold newRegs
 rw [List.take_succ_eq_append_getElem h,List.filter_append,List.map_append]
 congr 1
 cases hc:(!l[k].2.1 && alive t l[k].1.1) <;> simp [List.filter_cons,hc]
theorem newRegs_le {alive:τ→Int→Bool} {now:τ→Int→Int} {t:τ} {l:List It}:(newRegs alive now t l).length≤l.length:=by
 unfold newRegs;rw [List.length_map];exact List.length_filter_le _ _
theorem newWait_step {alive:τ→Int→Bool} {now:τ→Int→Int} {t:τ} {l:List (Int × Int)} {k:Nat} (h:k<l.length):newWait alive now t (l.take (k+1))=newWait alive now t (l.take k) ++ if alive t (l.getD k (0,0)).1=true then [(now t (l.getD k (0,0)).1,now t (l.getD k (0,0)).2)] else []:=by
 have hg:l.getD k (0,0)=l[k]:=by simp [List.getD,h]
 rw [hg]
 unfold newWait
 rw [List.take_succ_eq_append_getElem h,List.filter_append,List.map_append]
 congr 1
 cases hc:alive t l[k].1 <;> simp [List.filter_cons,hc]
theorem newWait_le {alive:τ→Int→Bool} {now:τ→Int→Int} {t:τ} {l:List (Int × Int)}:(newWait alive now t l).length≤l.length:=by
 unfold newWait;rw [List.length_map];exact List.length_filter_le _ _
def NewL (w wr:World) (v:Value) (l:List (Int × Int)):Prop:=Sl wr 100 2 v l.length (entV l)∧Keeps (fun _=>False) w wr∧∀ b,ownB v b→w.heap.size≤b
theorem NewL.nil (w:World):NewL w w (.slice none 0 0) []:=⟨Sl.nil w 100 2,Keeps.refl _ _,by intro k hk;simp [ownB,Value.ownBlock] at hk⟩
theorem NewL.keep {w wr w2:World} {v:Value} {l:List (Int × Int)} (h:NewL w wr v l) (k:Keeps (fun _=>False) wr w2):NewL w w2 v l:=⟨h.1.keep k (fun _ _ h=>h),h.2.1.trans k,h.2.2⟩
theorem NewL.app {w wr w1 w2:World} {v v2:Value} {l:List (Int × Int)} {e:Int × Int} (h:NewL w wr v l) (k1:Keeps (fun _=>False) wr w1) (hs:Sl w2 100 2 v2 (l.length+1) (entV l ++ [.int .i64 e.1, .int .i64 e.2])) (hk:Keeps (ownB v) w1 w2) (ho:∀ b,ownB v2 b→ownB v b∨w1.heap.size≤b):NewL w w2 v2 (l ++ [e]):=by
 refine ⟨by simpa [entV] using hs,(h.2.1.trans k1).then hk (fun b hb=>.inr (h.2.2 b hb)),fun b hb=>?_⟩
 rcases ho b hb with h1 | h1
 ·exact h.2.2 b h1
 ·exact Nat.le_trans (Nat.le_trans h.2.1.size k1.size) h1
theorem SettleTo.done {P:Program} {p:Nat} {L:Liv P p τ} {w:World} {F:Nat→Prop} {rv wv:Value} {b0 b1 b2:Nat} {t:τ} {regs wait:List (Int × Int)} {t':τ} {q':List (Int × Int)} {items:List It} {F':Nat→Prop} {wv':Value} {wr w1 w2:World} {v1 v2:Value}
  (he:passM L.alive L.keep t regs wait=(t',q',items)) (h:Mid L w F rv wv b0 b1 b2 items q' t' F' wv' wr) (n1:NewL wr w1 v1 (newRegs L.alive L.now t' items)) (n2:NewL w1 w2 v2 (newWait L.alive L.now t' q')) :
  SettleTo L t F rv wv regs wait w (.returned (.tuple #[])) ((w2.setCell ⟨p,0,none⟩ v1).setCell ⟨p,1,none⟩ v2):=by
 have hm2:=(h.keep n1.2.1).keep n2.2.1
 have kset:=((Keeps.refl (·=p) w2).setCell (p:=⟨p,0,none⟩) (.inl rfl) v1).setCell (p:=⟨p,1,none⟩) (.inl rfl) v2
 have hpl:=h.hS.hp.lt
 have s1:=n1.2.1.size
 have s0:=h.hK.size
 have o1:¬ ownB v1 p:=fun hb=>by have:=n1.2.2 p hb;omega
 have o2:¬ ownB v2 p:=fun hb=>by have:=n2.2.2 p hb;omega
 unfold SettleTo
 rw [he]
 refine ⟨rfl,F',v1,v2,L.J_keep hm2.hJ kset (by rintro b hb rfl;exact h.hA b ⟨hb, .inl rfl⟩),⟨by simpa using (hm2.hS.hp.setSame 0 v1).setSame 1 v2,(n1.1.keep n2.2.1 (fun _ _ h=>h)).keep kset (by rintro b hb rfl;exact o1 hb),n2.1.keep kset (by rintro b hb rfl;exact o2 hb),?_⟩,?_,
  (hm2.hK.setCell (p:=⟨p,0,none⟩) (.inl (.inr (.inl rfl))) v1).setCell (p:=⟨p,1,none⟩) (.inl (.inr (.inl rfl))) v2,h.hF,?_⟩
 ·rintro b ⟨h1,h2⟩
  have:=(n1.1.own h1).1
  have:=n2.2.2 b h2
  omega
 ·rintro b ⟨h1,h2 | h2 | h2⟩
  ·exact h.hA b ⟨h1, .inl h2⟩
  ·have:=L.J_lt h.hJ h1
   have:=n1.2.2 b h2
   omega
  ·have:=L.J_lt h.hJ h1
   have:=n2.2.2 b h2
   omega
 ·rintro b (h1 | h1 | h1)
  ·exact .inl (.inl h1)
  ·have:=n1.2.2 b h1;exact .inr (by omega)
  ·have:=n2.2.2 b h1;exact .inr (by omega)
theorem Settle_c (p:Nat) (L:Liv Try.prog p τ) (t:τ) (F:Nat→Prop) (rv wv:Value) (regs wait:List (Int × Int)) (w:World)
  (hJ:L.J w t F) (h:SideAt w p rv wv regs wait) (hap:Apart F p rv wv) (hl1:regs.length≤100000) (hl2:wait.length≤100000) (hD1:∀ e ∈ regs,L.D t e.1∧L.DK t e.2) (hD:∀ e ∈ wait,L.D t e.1∧L.D t e.2) :
  Calls Try.prog 64 #[.pointer (some ⟨p,0,none⟩),L.val] w fun e w'=>SettleTo L t F rv wv regs wait w e w':=by
 obtain ⟨ie,hie,hez0,hez1,hez2⟩:=info_parts info_entry
 have Hi:=Hz hie;have Hz0:=Hz hez0;have Hz1:=Hz hez1;have Hz2:=Hz hez2;clear hie hez0 hez1 hez2
 obtain ⟨ib,hi,hz0,hz1,hz2⟩:=info_parts info_bool
 have hmk:=fun (wx:World) (n:Nat) (h1:n≤9223372036854775807) (h2:n≤281474976710656)=>run_make_one (P:=Try.prog) wx 119 4 ib (.bool false) Try.underlying119 hi hz0 rfl hz1 n (by rw [hz2];omega) h1
 have HM:=Hz hmk;clear hmk hi hz0 hz1 hz2
 have hk:=fun (wx:World)=>HM.out wx regs.length (by omega) (by omega)
 obtain ⟨ro,rc,rfl,hrd,_,_⟩:=h.hr.rd
 have c0:=h.hp.cell 0
 simp only [List.getElem?_cons_zero,List.getElem?_cons_succ] at c0
 have hpl:=h.hp.lt
 have H:=Hz h;have HR:=Hz hrd
 have HJ:=Hz hJ;have HA:=Hz hap;have HD:=Hz hD;have HD1:=Hz hD1
 clear h hrd hJ hap hD hD1
 have ea:=L.ea;have ek:=L.ek;have en:=L.en
 generalize hbox:w.alloc (.cells #[.func (.func L.fa) L.a1 L.a2, .func (.func L.fk) L.k1 L.k2, .func (.func L.fn) L.n1 L.n2] 116)=wb
 have hkb:Keeps (fun _=>False) w wb:=by rw [←hbox];exact (Keeps.refl _ _).alloc _
 have hbb:Blk wb w.heap.size L.cells 116:=by rw [←hbox];exact Blk.newAt _ rfl rfl
 have hszb:wb.heap.size=w.heap.size+1:=by rw [←hbox];simp
 have HKB:=Hz hkb;have HBB:=Hz hbb;have HSZ:=Hz hszb;have HBX:=Hz hbox
 clear hkb hbb hszb hbox
 generalize hwd:wb.alloc (.cells (Array.replicate regs.length (.bool false)) 4)=wd
 have hkd:Keeps (fun _=>False) wb wd:=by rw [←hwd];exact (Keeps.refl _ _).alloc _
 have hbd:Blk wd (w.heap.size+1) (deadL L.alive t regs 0) 4:=by rw [←hwd];exact Blk.newAt _ HSZ.out.symm (by simp [deadL])
 have HKD:=Hz hkd;have HBD:=Hz hbd;have HWD:=Hz hwd
 clear hkd hbd hwd
 unfold Liv.val
 go_enter Try.func64,Try.ntmps64
 go_wp2_with fail
 rw [HBX.out,HWD.out]
 go_loopw [29] (fun i wr=>∃ k:Nat,k≤regs.length∧i=.int .i64 k∧Blk wr (w.heap.size+1) (deadL L.alive t regs k) 4∧Keeps (·=w.heap.size+1) wd wr) (fun i _=>regs.length-(intOf i).toNat)
 case atStart=>exact ⟨0,Nat.zero_le _,rfl,HBD.out,Keeps.refl _ _⟩
 case round=>
  obtain ⟨k,hkl,rfl,hbl,hkr⟩:=hrel
  have HBL:=Hz hbl;have HKR:=Hz hkr
  have hkw:Keeps (fun b=>w.heap.size≤b) w wr:=((HKB.out.trans HKD.out).mono fun _ _ h=>h.elim).trans (hkr.mono (by rintro b _ rfl;omega))
  have hkn:∀ b,b<w.heap.size→¬ (w.heap.size≤b):=fun b h=>by omega
  have HKW:=Hz hkw;have HKN:=Hz hkn
  clear hbl hkr hkw hkn
  by_cases hlt:k<regs.length
  ·have hrd:=HR.out.keep HKW.out (fun a _ h=>HKN.out _ h)
   obtain ⟨g,o,rfl,hgl,d0,d1⟩:=hrd.ent k hlt
   have hvd0:=HD1.out (regs.getD k (0,0)) (by simp [List.getD,hlt])
   have hvd:=And.intro hvd0.1 (L.DK_D hvd0.2)
   clear hvd0
   have HDS:=Hz (deadL_set (alive:=L.alive) (t:=t) hlt)
   generalize regs.getD k (0,0)=v at *
   have hbx:Blk wr w.heap.size L.cells 116:=HKR.out.blk (HKD.out.blk HBB.out (fun h=>h)) (by omega)
   have HX:=Hz hbx;have HV:=Hz hvd
   have b0:=hbx.cell 0
   have bl:=hbx.lt
   simp only [Liv.cells,List.getElem?_cons_zero] at b0
   clear hrd hvd hbx
   go_wp2_with fail
   have hk0:=(Kz wr).alloc (.cells #[Value.int IntKind.i64 v.fst,Value.int IntKind.i64 v.snd] 100)
   refine (L.alive_c _ t F v.2 (L.J_keep HJ.out (HKW.out.trans (hk0.mono fun _ _ h=>h.elim)) (fun b h=>HKN.out b (L.J_lt HJ.out h))) HV.out.2).mono ?_
   rintro e w1 ⟨rfl,hk1⟩
   have HB1:=Hz (hk1.blk (hk0.blk HBL.out (fun h=>h)) (fun h=>h))
   have HK1:=Hz (HKR.out.trans ((hk0.trans hk1).mono fun _ _ h=>h.elim))
   clear hk0 hk1
   obtain ⟨old,q0⟩:∃ old,w1.cell? ⟨w.heap.size+1,k,none⟩=some old:=⟨_,by rw [HB1.out.cell,List.getElem?_eq_getElem (by rw [deadL_length (Nat.le_of_lt hlt)];exact hlt)]⟩
   have qf:=HB1.out.free k
   have ql:=HB1.out.lt
   go_wp2_with fail
   go_roundw
   case rel=>exact ⟨k+1,by omega,by go_num,by rw [HDS.out];exact HB1.out.setSame k _,HK1.out.setCell (p:=⟨w.heap.size+1,k,none⟩) (.inl rfl) _⟩
   case measure=>simp [intOf];omega
  ·obtain rfl:k=regs.length:=by omega
   have p0:=(HKW.out.blk H.out.hp (HKN.out _ hpl)).cell 0
   have pl:=(HKW.out.blk H.out.hp (HKN.out _ hpl)).lt
   simp only [List.getElem?_cons_zero] at p0
   have hbx:Blk wr w.heap.size L.cells 116:=HKR.out.blk (HKD.out.blk HBB.out (fun h=>h)) (by omega)
   generalize hwm:wr.alloc (.cells (Array.replicate regs.length (.bool false)) 4)=wm
   have hst:=MoreIn.start (wm:=wm) HJ.out H.out HA.out HD1.out HD.out HKW.out hbx HBL.out (by rw [←hwm];exact (Keeps.refl _ _).alloc _) (by rw [←hwm];exact Blk.newAt _ rfl (by simp))
   have hr0:w.heap.size+2≤wr.heap.size:=HBL.out.lt
   have HST:=Hz hst;have HWM:=Hz hwm;have HR0:=Hz hr0
   clear hst hwm hbx hr0
   go_wp2_with fail
   rw [HWM.out]
   generalize wr.heap.size=b2 at *
   go_loopw [8] (fun v wx=>∃ more items,v=.bool more∧MoreIn L w F (.slice ro regs.length rc) wv w.heap.size (w.heap.size+1) b2 t regs wait (wait.length+regs.length) wx more items) (fun v wx=>2*cntF wx b2+bit v)
   case atStart=>exact ⟨true,_,rfl,HST.out⟩
   case round=>
    obtain ⟨more,items,rfl,n,t',q',F',wv',hm,hf,hN,hun,he⟩:=hrel
    have GM:=Hz hm;have GF:=Hz hf;have GN:=Hz hN;have GU:=Hz hun;have GE:=Hz he
    have hsr:=hm.hS
    rw [hf] at hsr
    have GS:=Hz hsr
    have x0:=hm.hS.hp.cell 0
    have xl:=hm.hS.hp.lt
    simp only [List.getElem?_cons_zero] at x0
    have hbl:=Nat.le_trans (Nat.le_refl _) hm.h2.lt
    have hcn:=cntF_blk hm.h2
    have HCN:=Hz hcn
    clear hm hf hN hun he hsr hcn p0 pl c0 HST
    have p0:=x0
    clear x0
    cases more
    ·have he:=GE.out
     simp only [Bool.false_eq_true,if_false] at he
     have GE2:=Hz he
     clear he GE
     go_wp2_with fail
     go_loopw [12,106] (fun v i wx=>∃ (k:Nat),k≤regs.length∧i=.int .i64 k∧NewL wr wx v (newRegs L.alive L.now t' (items.take k))) (fun _ i _=>regs.length-(intOf i).toNat)
     case atStart=>exact ⟨0,Nat.zero_le _,rfl,NewL.nil wr⟩
     case round=>
      obtain ⟨k,hk,rfl,hnl⟩:=hrel
      have KNL:=Hz hnl
      have hmk:=GM.out.keep hnl.2.1
      have hil:items.length=regs.length:=by rw [←GF.out];simp
      clear hnl
      by_cases hlt:k<regs.length
      ·have hki:k<items.length:=by omega
       have hst:=newRegs_step (alive:=L.alive) (now:=L.now) (t:=t') hki
       have hvd0:=hmk.hr items[k] (List.getElem_mem hki)
       have hvd:=And.intro hvd0.1 (L.DK_D hvd0.2)
       clear hvd0
       have hgk:items[k]? = some items[k]:=List.getElem?_eq_getElem hki
       have hfs:regs.getD k (0,0)=items[k].1:=by rw [←GF.out];simp [List.getD,hki]
       have hsr:=hmk.hS
       rw [GF.out] at hsr
       obtain ⟨_,_,e',hrd,_,_⟩:=hsr.hr.rd
       cases e'
       obtain ⟨g,o,rfl,hgl,d0,d1⟩:=hrd.ent k hlt
       rw [hfs] at d0 d1
       have f0:=hmk.h0.cell 0;have fl:=hmk.h0.lt
       have r1:=hmk.h1.cell k;have r1l:=hmk.h1.lt
       rw [List.getElem?_map,hgk] at r1
       simp only [Option.map_some] at r1
       simp only [Liv.cells,List.getElem?_cons_zero,List.getElem?_cons_succ] at f0
       have hle:(newRegs L.alive L.now t' (items.take k)).length≤100000:=Nat.le_trans newRegs_le (Nat.le_trans (List.length_take_le _ _) (by omega))
       generalize items[k]=i at *
       obtain ⟨v,dd,mv⟩:=i
       have KM:=Hz hmk;have KST:=Hz hst;have KV:=Hz hvd
       have KLE:=Hz hle
       clear hmk hst hvd hgk hfs hsr hrd hle
       cases dd
       ·go_wp2_with fail
        have hk0:=(Kz wr).alloc (.cells #[Value.int IntKind.i64 v.fst,Value.int IntKind.i64 v.snd] 100)
        refine (L.alive_c _ t' F' v.1 (L.J_keep KM.out.hJ hk0 (fun _ _ h=>h)) KV.out.1).mono ?_
        rintro e w1 ⟨rfl,hk1⟩
        have KK1:=Hz (hk0.trans hk1)
        have KE1:=Hz (hk1.blk (Blk.newAt (w:=wr) _ rfl rfl) (fun h=>h))
        clear hk0 hk1
        cases ha:L.alive t' v.1
        ·go_wp2_with fail
         go_roundw
         case rel=>exact ⟨k+1,by omega,by go_num,by rw [KST.out,ha];simpa using KNL.out.keep KK1.out⟩
         case measure=>simp [intOf];omega
        ·have hm1:=KM.out.keep KK1.out
         clear f0 fl r1 r1l d0 d1
         have f2:=hm1.h0.cell 2
         have e0:=KE1.out.cell 0;have e1:=KE1.out.cell 1
         simp only [Liv.cells,List.getElem?_cons_zero,List.getElem?_cons_succ] at f2 e0 e1
         clear hm1
         go_wp2_with fail
         refine wp_region_ord [(0,0),(1,0),(3,0),(6,0),(8,0),(2,0),(4,0),(7,0),(9,0),(5,1),(10,1),(11,0),(12,1),(13,1),(14,0)] (fun w'=>w'.cell? ⟨w.heap.size,2,none⟩=some (.func (.func L.fn) L.n1 L.n2)∧w'.cell? ⟨wr.heap.size,0,none⟩=some (.int .i64 v.1)∧w'.cell? ⟨wr.heap.size,1,none⟩=some (.int .i64 v.2)) (by kernel_rfl) (by kernel_rfl) ⟨f2,e0,e1⟩ ?_
         iterate 9 (refine wpOrd_pure rfl rfl _ (fun w' hG=>by obtain ⟨g0,g1,g2⟩:=hG;go_simp;exact Gives.mk _ _) (fun K hK=>?_);go_simp;refine hK _ ?_;clear hK K)
         refine wpOrd_run rfl rfl (fun K hK=>?_);unfold gRun;go_simp
         have kd1:Keeps (fun _=>False) wr w1.drew:=KK1.out.trans ((Keeps.refl _ w1).drew)
         refine (L.now_c _ t' F' v.1 (KM.out.keep kd1).hJ KV.out.1).mono ?_
         rintro e w2 ⟨rfl,hk2⟩
         have kd2:=kd1.trans hk2
         have be2:=hk2.blk (KE1.out.drew) (fun h=>h)
         refine hK _ _ ⟨(KM.out.keep kd2).h0.cell 2,be2.cell 0,be2.cell 1⟩ ?_
         clear hK K
         refine wpOrd_run rfl rfl (fun K hK=>?_);unfold gRun;go_simp
         refine (L.now_c _ t' F' v.2 (KM.out.keep kd2).hJ KV.out.2).mono ?_
         rintro e w3 ⟨rfl,hk3⟩
         have kd3:=kd2.trans hk3
         have be3:=hk3.blk be2 (fun h=>h)
         refine hK _ _ ⟨(KM.out.keep kd3).h0.cell 2,be3.cell 0,be3.cell 1⟩ ?_
         clear hK K
         have KD3:=Hz kd3;have KB3:=Hz be3
         clear kd1 kd2 kd3 be2 be3 hk2 hk3 f2 e0 e1
         iterate 1 (refine wpOrd_pure rfl rfl _ (fun w' hG=>by obtain ⟨g0,g1,g2⟩:=hG;go_simp;exact Gives.mk _ _) (fun K hK=>?_);go_simp;refine hK _ ?_;clear hK K)
         refine wpOrd_run rfl rfl (fun K hK=>?_);unfold gRun;go_simp;refine hK _ _ ?_ ?_
         ·have k:=(Kz w3).alloc (.cells #[.int .i64 (L.now t' v.1), .int .i64 (L.now t' v.2)] 100)
          exact ⟨(KM.out.keep (KD3.out.trans k)).h0.cell 2,(k.blk KB3.out (fun h=>h)).cell 0,(k.blk KB3.out (fun h=>h)).cell 1⟩
         clear hK K
         refine wpOrd_run rfl rfl (fun K hK=>?_)
         have hle:=KLE.out
         refine gRun_app (.tmp 123) (.tmp 135) 51 rfl 100 ie (.agg #[.int .i64 0, .int .i64 0]) 2 16 Try.underlying51 Hi.out Hz0.out Hz1.out Hz2.out rfl (by decide) _ (newRegs L.alive L.now t' (items.take k)).length (entV (newRegs L.alive L.now t' (items.take k))) rfl ?ja ⟨w3.heap.size,0,none⟩ 1 1 [.int .i64 (L.now t' v.1), .int .i64 (L.now t' v.2)] rfl rfl ?jb ?jc ?jd ?je ?jf
         case ja=>exact (KNL.out.keep (KD3.out.trans ((Kz w3).alloc _))).1
         case jb=>exact news_at w3 100 #[.int .i64 (L.now t' v.1), .int .i64 (L.now t' v.2)]
         case jc=>intro u hu;simp at hu;rcases hu with rfl | rfl <;> rfl
         case jd=>unfold maxLen;omega
         case je=>omega
         case jf=>
          intro v5 w5 hs5 hk5 ho5
          have hka:Keeps (fun _=>False) w3 (w3.alloc (.cells #[.int .i64 (L.now t' v.1), .int .i64 (L.now t' v.2)] 100)):=(Kz w3).alloc _
          have hnw:=NewL.app (e:=(L.now t' v.1,L.now t' v.2)) KNL.out (KD3.out.trans hka) hs5 hk5 ho5
          have kd5:=KD3.out.trans hka
          have KNW:=Hz hnw
          have hm5:=KM.out.keep (w2:=w3.alloc (.cells #[.int .i64 (L.now t' v.1), .int .i64 (L.now t' v.2)] 100)) kd5
          have be5:=hka.blk KB3.out (fun h=>h)
          have nb0:¬ ownB u12 w.heap.size:=fun h=>by
           obtain ⟨_,cur,hc⟩:=KNL.out.1.own h
           exact KM.out.h0.ne hc (by decide) rfl
          have nb1:¬ ownB u12 wr.heap.size:=fun h=>by
           have:=(KNL.out.1.own h).1
           omega
          refine hK _ _ ⟨(hk5.blk hm5.h0 nb0).cell 2,(hk5.blk be5 nb1).cell 0,(hk5.blk be5 nb1).cell 1⟩ ?_
          clear hK K hs5 hk5 ho5 hka hnw kd5 hm5 be5 nb0 nb1
          iterate 1 (refine wpOrd_pure rfl rfl _ (fun w' hG=>by obtain ⟨g0,g1,g2⟩:=hG;go_simp;exact Gives.mk _ _) (fun K hK=>?_);go_simp;refine hK _ ?_;clear hK K)
          refine wpOrd_end ?_
          go_wp2_with fail
          go_roundw
          case rel=>exact ⟨k+1,by omega,by go_num,by rw [KST.out,ha];exact KNW.out⟩
          case measure=>simp [intOf];omega
       ·go_wp2_with fail
        go_roundw
        case rel=>exact ⟨k+1,by omega,by go_num,by rw [KST.out];simpa using KNL.out.keep ((Keeps.refl _ _).alloc _)⟩
        case measure=>simp [intOf];omega
      ·obtain rfl:k=regs.length:=by omega
       have htk:items.take regs.length=items:=by rw [←hil];exact List.take_length
       have hnl:=KNL.out
       rw [htk] at hnl
       obtain ⟨n1,c1,rfl,_,_,_⟩:=hnl.1.rd
       obtain ⟨wo,wc,rfl,_,_,_⟩:=hmk.hS.hw.rd
       have p1:=hmk.hS.hp.cell 1
       have pl1:=hmk.hS.hp.lt
       simp only [List.getElem?_cons_zero,List.getElem?_cons_succ] at p1
       have hql:q'.length≤200000:=by have:=GN.out;omega
       have KN1:=Hz hnl;have KM0:=Hz hmk
       clear hnl hmk htk KNL
       go_wp2_with fail
       go_loopw [13,143] (fun v i wx=>∃ (k:Nat),k≤q'.length∧i=.int .i64 k∧NewL wr wx v (newWait L.alive L.now t' (q'.take k))) (fun _ i _=>q'.length-(intOf i).toNat)
       case atStart=>exact ⟨0,Nat.zero_le _,rfl,NewL.nil wr⟩
       case round=>
        obtain ⟨k,hk,rfl,hnl⟩:=hrel
        have KNL:=Hz hnl
        have hmk:=KM0.out.keep hnl.2.1
        clear hnl
        by_cases hlt:k<q'.length
        ·have hst:=newWait_step (alive:=L.alive) (now:=L.now) (t:=t') hlt
         have hvd:=hmk.hq (q'.getD k (0,0)) (by simp [List.getD,hlt])
         obtain ⟨_,_,e',hrd,_,_⟩:=hmk.hS.hw.rd
         cases e'
         obtain ⟨g,o,rfl,hgl,d0,d1⟩:=hrd.ent k hlt
         have f0:=hmk.h0.cell 0;have fl:=hmk.h0.lt
         simp only [Liv.cells,List.getElem?_cons_zero,List.getElem?_cons_succ] at f0
         have hle:(newWait L.alive L.now t' (q'.take k)).length≤200000:=Nat.le_trans newWait_le (Nat.le_trans (List.length_take_le _ _) (by omega))
         generalize q'.getD k (0,0)=v at *
         have KM:=Hz hmk;have KST:=Hz hst;have KV:=Hz hvd
         have KLE:=Hz hle
         clear hmk hst hvd hrd hle
         go_wp2_with fail
         have hk0:=(Kz wr).alloc (.cells #[Value.int IntKind.i64 v.fst,Value.int IntKind.i64 v.snd] 100)
         refine (L.alive_c _ t' F' v.1 (L.J_keep KM.out.hJ hk0 (fun _ _ h=>h)) KV.out.1).mono ?_
         rintro e w1 ⟨rfl,hk1⟩
         have KK1:=Hz (hk0.trans hk1)
         have KE1:=Hz (hk1.blk (Blk.newAt (w:=wr) _ rfl rfl) (fun h=>h))
         clear hk0 hk1
         cases ha:L.alive t' v.1
         ·go_wp2_with fail
          go_roundw
          case rel=>exact ⟨k+1,by omega,by go_num,by rw [KST.out,ha];simpa using KNL.out.keep KK1.out⟩
          case measure=>simp [intOf];omega
         ·have hm1:=KM.out.keep KK1.out
          clear f0 fl d0 d1
          have f2:=hm1.h0.cell 2
          have e0:=KE1.out.cell 0;have e1:=KE1.out.cell 1
          simp only [Liv.cells,List.getElem?_cons_zero,List.getElem?_cons_succ] at f2 e0 e1
          clear hm1
          go_wp2_with fail
          refine wp_region_ord [(0,0),(1,0),(3,0),(6,0),(8,0),(2,0),(4,0),(7,0),(9,0),(5,1),(10,1),(11,0),(12,1),(13,1),(14,0)] (fun w'=>w'.cell? ⟨w.heap.size,2,none⟩=some (.func (.func L.fn) L.n1 L.n2)∧w'.cell? ⟨wr.heap.size,0,none⟩=some (.int .i64 v.1)∧w'.cell? ⟨wr.heap.size,1,none⟩=some (.int .i64 v.2)) (by kernel_rfl) (by kernel_rfl) ⟨f2,e0,e1⟩ ?_
          iterate 9 (refine wpOrd_pure rfl rfl _ (fun w' hG=>by obtain ⟨g0,g1,g2⟩:=hG;go_simp;exact Gives.mk _ _) (fun K hK=>?_);go_simp;refine hK _ ?_;clear hK K)
          refine wpOrd_run rfl rfl (fun K hK=>?_);unfold gRun;go_simp
          have kd1:Keeps (fun _=>False) wr w1.drew:=KK1.out.trans ((Keeps.refl _ w1).drew)
          refine (L.now_c _ t' F' v.1 (KM.out.keep kd1).hJ KV.out.1).mono ?_
          rintro e w2 ⟨rfl,hk2⟩
          have kd2:=kd1.trans hk2
          have be2:=hk2.blk (KE1.out.drew) (fun h=>h)
          refine hK _ _ ⟨(KM.out.keep kd2).h0.cell 2,be2.cell 0,be2.cell 1⟩ ?_
          clear hK K
          refine wpOrd_run rfl rfl (fun K hK=>?_);unfold gRun;go_simp
          refine (L.now_c _ t' F' v.2 (KM.out.keep kd2).hJ KV.out.2).mono ?_
          rintro e w3 ⟨rfl,hk3⟩
          have kd3:=kd2.trans hk3
          have be3:=hk3.blk be2 (fun h=>h)
          refine hK _ _ ⟨(KM.out.keep kd3).h0.cell 2,be3.cell 0,be3.cell 1⟩ ?_
          clear hK K
          have KD3:=Hz kd3;have KB3:=Hz be3
          clear kd1 kd2 kd3 be2 be3 hk2 hk3 f2 e0 e1
          iterate 1 (refine wpOrd_pure rfl rfl _ (fun w' hG=>by obtain ⟨g0,g1,g2⟩:=hG;go_simp;exact Gives.mk _ _) (fun K hK=>?_);go_simp;refine hK _ ?_;clear hK K)
          refine wpOrd_run rfl rfl (fun K hK=>?_);unfold gRun;go_simp;refine hK _ _ ?_ ?_
          ·have k:=(Kz w3).alloc (.cells #[.int .i64 (L.now t' v.1), .int .i64 (L.now t' v.2)] 100)
           exact ⟨(KM.out.keep (KD3.out.trans k)).h0.cell 2,(k.blk KB3.out (fun h=>h)).cell 0,(k.blk KB3.out (fun h=>h)).cell 1⟩
          clear hK K
          refine wpOrd_run rfl rfl (fun K hK=>?_)
          have hle:=KLE.out
          refine gRun_app (.tmp 152) (.tmp 164) 51 rfl 100 ie (.agg #[.int .i64 0, .int .i64 0]) 2 16 Try.underlying51 Hi.out Hz0.out Hz1.out Hz2.out rfl (by decide) _ (newWait L.alive L.now t' (q'.take k)).length (entV (newWait L.alive L.now t' (q'.take k))) rfl ?la ⟨w3.heap.size,0,none⟩ 1 1 [.int .i64 (L.now t' v.1), .int .i64 (L.now t' v.2)] rfl rfl ?lb ?lc ?ld ?le ?lf
          case la=>exact (KNL.out.keep (KD3.out.trans ((Kz w3).alloc _))).1
          case lb=>exact news_at w3 100 #[.int .i64 (L.now t' v.1), .int .i64 (L.now t' v.2)]
          case lc=>intro u hu;simp at hu;rcases hu with rfl | rfl <;> rfl
          case ld=>unfold maxLen;omega
          case le=>omega
          case lf=>
           intro v5 w5 hs5 hk5 ho5
           have hka:Keeps (fun _=>False) w3 (w3.alloc (.cells #[.int .i64 (L.now t' v.1), .int .i64 (L.now t' v.2)] 100)):=(Kz w3).alloc _
           have hnw:=NewL.app (e:=(L.now t' v.1,L.now t' v.2)) KNL.out (KD3.out.trans hka) hs5 hk5 ho5
           have kd5:=KD3.out.trans hka
           have KNW:=Hz hnw
           have hm5:=KM.out.keep (w2:=w3.alloc (.cells #[.int .i64 (L.now t' v.1), .int .i64 (L.now t' v.2)] 100)) kd5
           have be5:=hka.blk KB3.out (fun h=>h)
           have nb0:¬ ownB u13 w.heap.size:=fun h=>by
            obtain ⟨_,cur,hc⟩:=KNL.out.1.own h
            exact KM.out.h0.ne hc (by decide) rfl
           have nb1:¬ ownB u13 wr.heap.size:=fun h=>by
            have:=(KNL.out.1.own h).1
            omega
           refine hK _ _ ⟨(hk5.blk hm5.h0 nb0).cell 2,(hk5.blk be5 nb1).cell 0,(hk5.blk be5 nb1).cell 1⟩ ?_
           clear hK K hs5 hk5 ho5 hka hnw kd5 hm5 be5 nb0 nb1
           iterate 1 (refine wpOrd_pure rfl rfl _ (fun w' hG=>by obtain ⟨g0,g1,g2⟩:=hG;go_simp;exact Gives.mk _ _) (fun K hK=>?_);go_simp;refine hK _ ?_;clear hK K)
           refine wpOrd_end ?_
           go_wp2_with fail
           go_roundw
           case rel=>exact ⟨k+1,by omega,by go_num,by rw [KST.out,ha];exact KNW.out⟩
           case measure=>simp [intOf];omega
        ·obtain rfl:k=q'.length:=by omega
         have hnl:=KNL.out
         rw [List.take_length] at hnl
         obtain ⟨n2,c2,rfl,_,_,_⟩:=hnl.1.rd
         have hmk:=KM0.out.keep KNL.out.2.1
         have p0:=hmk.hS.hp.cell 0
         have p1:=hmk.hS.hp.cell 1
         have fz0:=hmk.hS.hp.free 0
         have fz1:=hmk.hS.hp.free 1
         have pl:=hmk.hS.hp.lt
         simp only [List.getElem?_cons_zero,List.getElem?_cons_succ] at p0 p1
         have KN2:=Hz hnl
         clear hnl hmk KNL
         go_wp2_with fail
         go_end0
         exact SettleTo.done GE2.out GM.out KN1.out KN2.out
    ·have he:=GE.out
     simp only [if_true] at he
     have GE2:=Hz he
     have hun:=GU.out rfl
     clear he GE
     have hl0:items.length=regs.length:=by rw [←GF.out];simp
     have HI:ScanIn L w F (.slice ro regs.length rc) wv w.heap.size (w.heap.size+1) b2 t' q' items (wait.length+regs.length) wr 0 false:=
      ⟨t',q',F',wv',[],rfl,by simpa using GM.out,by simpa using GN.out,by simp⟩
     have HL0:=Hz hl0
     clear hl0
     go_wp2_with fail
     go_loopw [8,56] (fun v i wx=>∃ (k:Nat) (more:Bool),k≤regs.length∧i=.int .i64 k∧v=.bool more∧ScanIn L w F (.slice ro regs.length rc) wv w.heap.size (w.heap.size+1) b2 t' q' items (wait.length+regs.length) wx k more) (fun _ i _=>regs.length-(intOf i).toNat)
     case atStart=>exact ⟨0,false,Nat.zero_le _,rfl,rfl,HI⟩
     case round=>
      clear HI
      obtain ⟨k,more,hk,rfl,rfl,hsc⟩:=hrel
      by_cases hlt:k<regs.length
      ·obtain ⟨t2,q2,F2,v2,done,hd,hm,hN,hE⟩:=hsc
       have hki:k<items.length:=by rw [HL0.out];exact hlt
       have hdr:items.drop k=items[k] :: items.drop (k+1):=List.drop_eq_getElem_cons hki
       rw [hdr] at hm hN hE
       generalize items[k]=i at *
       obtain ⟨v,dd,mv⟩:=i
       have hln:((done ++ (v,dd,mv) :: items.drop (k+1)).map (·.1)).length=regs.length:=by
        have:=HL0.out
        simp [hd];omega
       have hgt:((done ++ (v,dd,mv) :: items.drop (k+1)).map (·.1)).getD k (0,0)=v:=by simp [List.getD,hd]
       obtain ⟨_,_,e',hrd,_,_⟩:=hm.hS.hr.rd
       rw [hln] at e'
       cases e'
       obtain ⟨g,o,rfl,hgl,d0,d1⟩:=hrd.ent k (by omega)
       rw [hgt] at d0 d1
       have f0:=hm.h0.cell 0;have f1:=hm.h0.cell 1;have fl:=hm.h0.lt
       have r1:=hm.h1.cell k;have r1l:=hm.h1.lt
       have r2:=hm.h2.cell k;have r2l:=hm.h2.lt
       simp only [Liv.cells,List.getElem?_cons_zero,List.getElem?_cons_succ] at f0 f1
       have hgk:(done ++ (v,dd,mv) :: items.drop (k+1))[k]? = some (v,dd,mv):=by simp [hd]
       rw [List.getElem?_map,hgk] at r1 r2
       simp only [Option.map_some] at r1 r2
       have fz:=hm.h2.free k
       have hvd:=hm.hr (v,dd,mv) (by simp)
       have KM:=Hz hm;have KD:=Hz hd;have KDR:=Hz hdr;have KN:=Hz hN;have KE:=Hz hE;have KV:=Hz hvd;have KL:=Hz hln
       clear hm hd hdr hN hE hgt hrd hgk hvd hln
       have SKIP:Hid (∀ w2,Keeps (fun _=>False) wr w2→((dd && !mv) && L.alive t2 v.1)=false→ScanIn L w F (.slice (some ⟨g,o,none⟩) regs.length rc) wv w.heap.size (w.heap.size+1) b2 t' q' items (wait.length+regs.length) w2 (k+1) more):=fun w2 h1 h2=>ScanIn.skip KD.out KDR.out KM.out KN.out KE.out h1 h2
       cases dd
       ·go_wp2_with fail
        go_roundw
        case rel=>exact ⟨k+1,more,by omega,by go_num,rfl,SKIP.out _ ((Keeps.refl _ _).alloc _) rfl⟩
        case measure=>simp [intOf];omega
       ·cases mv
        ·go_wp2_with fail
         have hk0:=(Kz wr).alloc (.cells #[Value.int IntKind.i64 v.fst,Value.int IntKind.i64 v.snd] 100)
         refine (L.alive_c _ t2 F2 v.1 (L.J_keep KM.out.hJ hk0 (fun _ _ h=>h)) KV.out.1).mono ?_
         rintro e w1 ⟨rfl,hk1⟩
         have KK1:=Hz (hk0.trans hk1)
         have KE1:=Hz (hk1.blk (Blk.newAt (w:=wr) _ rfl rfl) (fun h=>h))
         cases ha:L.alive t2 v.1
         ·clear hk0 hk1
          go_wp2_with fail
          go_roundw
          case rel=>exact ⟨k+1,more,by omega,by go_num,rfl,SKIP.out _ KK1.out (by rw [ha];rfl)⟩
          case measure=>simp [intOf];omega
         ·have hm1:=KM.out.keep KK1.out
          have hm2:=hm1.move
          rw [KD.out] at hm2
          clear f0 f1 fl r1 r1l r2 r2l fz d0 d1 hk0 hk1
          have r2:=hm1.h2.cell k;have r2l:=hm1.h2.lt
          have hgk:(done ++ (v,true,false) :: items.drop (k+1))[k]? = some (v,true,false):=by simp [KD.out]
          rw [List.getElem?_map,hgk] at r2
          simp only [Option.map_some] at r2
          have fz:=hm1.h2.free k
          have f1:=hm1.h0.cell 1;have fl:=hm1.h0.lt
          simp only [Liv.cells,List.getElem?_cons_zero,List.getElem?_cons_succ] at f1
          have e1:=KE1.out.cell 1
          have el:=KE1.out.lt
          simp only [List.getElem?_cons_zero,List.getElem?_cons_succ] at e1
          have hbe:b2<wr.heap.size:=KM.out.h2.lt
          have hbl0:w.heap.size<wr.heap.size:=KM.out.h0.lt
          have hr0:=HR0.out
          have hr1:w.heap.size≠b2:=by omega
          have KM2:=Hz hm2
          clear hm1 hm2 hgk
          go_wp2_with fail
          refine (L.keep_c _ t2 F2 _ v2 _ q2 v.2 KM2.out.hJ KM2.out.hS KM2.out.hA KV.out.2 KM2.out.hq (by have:=KN.out;omega)).mono ?_
          rintro e w4 ⟨rfl,F4,hJ4,hS4,hA4,hk4,hF4⟩
          have hm4:=KM2.out.kept KV.out.2 hJ4 hS4 hA4 hk4 hF4
          have hlen:(L.keep t2 q2 v.2).2.1.length=q2.length:=L.keep_len
          have hql:(L.keep t2 q2 v.2).2.1.length≤200000:=by have:=KN.out;omega
          have hdn:=L.D_new (wait:=q2) KV.out.2
          have hdg:=L.D_keep (wait:=q2) KV.out.2 KV.out.1
          have hb4:=hk4.blk ((KE1.out).setOther (a:=⟨b2,k,none⟩) (by show wr.heap.size≠b2;omega) (.bool true)) (by
           rintro (h | h)
           ·have:=L.J_lt KM.out.hJ h;omega
           ·have:=KM.out.hS.fp_lt h;omega)
          obtain ⟨wo,wc,rfl,_,_,_⟩:=hm4.hS.hw.rd
          clear hJ4 hS4 hA4 hk4 hF4 hlen f1 fl r2 r2l fz e1 el
          generalize hr:L.keep t2 q2 v.2=r at *
          have KR:=Hz hr;have KM4:=Hz hm4;have KDN:Hid (L.D r.1 v.1∧L.D r.1 r.2.2):=⟨hdg,hdn⟩;have KB4:=Hz hb4
          have p1:=hm4.hS.hp.cell 1
          have pl1:=hm4.hS.hp.lt
          have e0:=hb4.cell 0
          have el:=hb4.lt
          have fz:=hm4.hS.hp.free 1
          simp only [List.getElem?_cons_zero,List.getElem?_cons_succ] at p1 e0
          clear hr hm4 hdn hdg hb4
          go_wp2_with fail
          refine wp_region_ord [(0,0),(1,0),(2,0),(3,0),(5,0),(7,0),(4,0),(6,0),(8,0),(9,1),(10,1),(11,0),(12,0),(13,2)] (fun w'=>w'.cell? ⟨p,1,none⟩=some (.slice wo r.2.1.length wc)∧w'.cell? ⟨wr.heap.size,0,none⟩=some (.int .i64 v.1)) (by kernel_rfl) (by kernel_rfl) ⟨p1,e0⟩ ?_
          iterate 9 (refine wpOrd_pure rfl rfl _ (fun w' hG=>by obtain ⟨g0,g1⟩:=hG;go_simp;exact Gives.mk _ _) (fun K hK=>?_);go_simp;refine hK _ ?_;clear hK K)
          refine wpOrd_run rfl rfl (fun K hK=>?_);unfold gRun;go_simp;refine hK _ _ ?_ ?_
          ·have k:=(Kz w4).alloc (.cells #[.int .i64 v.1, .int .i64 r.2.2] 100)
           exact ⟨(k.blk KM4.out.hS.hp (fun h=>h)).cell 1,(k.blk KB4.out (fun h=>h)).cell 0⟩
          clear hK K
          refine wpOrd_run rfl rfl (fun K hK=>?_)
          refine gRun_app (.tmp 91) (.tmp 96) 51 rfl 100 ie (.agg #[.int .i64 0, .int .i64 0]) 2 16 Try.underlying51 Hi.out Hz0.out Hz1.out Hz2.out rfl (by decide) _ r.2.1.length (entV r.2.1) rfl ?ha ⟨w4.heap.size,0,none⟩ 1 1 [.int .i64 v.1, .int .i64 r.2.2] rfl rfl ?hb ?hc ?hd ?he ?hf
          case ha=>exact KM4.out.hS.hw.keep (((Kz w4).alloc _).drew) (fun _ _ h=>h)
          case hb=>exact news_at w4 100 #[.int .i64 v.1, .int .i64 r.2.2]
          case hc=>intro u hu;simp at hu;rcases hu with rfl | rfl <;> rfl
          case hd=>unfold maxLen;omega
          case he=>omega
          case hf=>
           intro v5 w5 hs5 hk5 ho5
           have hka:Keeps (fun _=>False) w4 ((w4.alloc (.cells #[.int .i64 v.1, .int .i64 r.2.2] 100)).drew):=((Kz w4).alloc _).drew
           have hm5:=KM4.out.keep hka
           have hp5:=hk5.blk hm5.hS.hp hm5.hS.pw
           have hb5:=hk5.blk (hka.blk KB4.out (fun h=>h)) (fun h=>by
            have:=(KM.out.hS.hw.own h).1
            omega)
           refine hK _ _ ⟨hp5.cell 1,hb5.cell 0⟩ ?_
           clear hK K
           have hs6:Sl w5 100 2 v5 (r.2.1 ++ [(v.1,r.2.2)]).length (entV (r.2.1 ++ [(v.1,r.2.2)])):=by simpa [entV] using hs5
           obtain ⟨vo,vc,rfl,_,_,_⟩:=hs6.rd
           have KM6:=Hz (hm5.app (e:=(v.1,r.2.2)) KDN.out hs6 hk5 ho5)
           have d0:=hp5.cell 1
           have dl:=hp5.lt
           have f0:=hp5.free 1
           simp only [List.getElem?_cons_zero,List.getElem?_cons_succ] at d0
           rw [List.length_append] at KM6
           clear hs5 hk5 ho5 hka hm5 hp5 hb5 hs6 p1 pl1 e0 el fz
           iterate 2 (refine wpOrd_pure rfl rfl _ (fun w' hG=>by obtain ⟨g0,g1⟩:=hG;go_simp;exact Gives.mk _ _) (fun K hK=>?_);go_simp;refine hK _ ?_;clear hK K)
           refine wpOrd_last rfl rfl (fun K hK=>?_);unfold gRun;go_simp;refine hK _ _ ?_
           clear hK K
           refine wpOrd_end ?_
           go_wp2_with fail
           go_roundw
           case rel=>exact ⟨k+1,true,by omega,by go_num,rfl,ScanIn.took KD.out KN.out KE.out (by rw [KR.out];exact KM6.out) (by rw [ha];rfl)⟩
           case measure=>simp [intOf];omega
        ·go_wp2_with fail
         go_roundw
         case rel=>exact ⟨k+1,more,by omega,by go_num,rfl,SKIP.out _ ((Keeps.refl _ _).alloc _) rfl⟩
         case measure=>simp [intOf];omega
      ·obtain rfl:k=regs.length:=by omega
       obtain ⟨done,hmi,h1,h2,h3⟩:=MoreIn.next GF.out hun GE2.out hsc
       have HMI:=Hz hmi
       have hc2:=cntF_blk h3
       have HC2:=Hz hc2
       clear hmi h3 hsc hc2
       go_wp2_with fail
       go_roundw
       case rel=>exact ⟨more,done,rfl,HMI.out⟩
       case measure=>
        rw [HCN.out,HC2.out]
        cases more
        ·show 2*unN done+0<2*unN items+1
         omega
        ·have:=h2 rfl
         show 2*unN done+1<2*unN items+1
         omega
end
section
open Go.RowKit
theorem i64_or1w (x:Int):bits .or .i64 (IntKind.i64.wrap (x*4)) 1=IntKind.i64.wrap (4*x+1):=by
 have h1:(BitVec.ofInt 64 1).toNat=1:=by decide
 have key:(BitVec.ofInt 64 (IntKind.i64.wrap (x*4)) ||| BitVec.ofInt 64 1).toNat=((4*x)%18446744073709551616).toNat+1:=by
  rw [BitVec.toNat_or,BitVec.toNat_ofInt,h1]
  have e:(IntKind.i64.wrap (x*4)%((2 ^ 64:Nat):Int)).toNat=(((4*x)%18446744073709551616).toNat/4) <<< 2:=by
   rw [IntKind.wrap_i64,Nat.shiftLeft_eq]
   omega
  rw [e,←Nat.shiftLeft_add_eq_or_of_lt (by decide:1<2 ^ 2),Nat.shiftLeft_eq]
  omega
 show IntKind.i64.wrap ((BitVec.ofInt 64 (IntKind.i64.wrap (x*4)) ||| BitVec.ofInt 64 1).toNat:Nat)=_
 rw [key,IntKind.wrap_i64,IntKind.wrap_i64]
 omega
theorem Ref_any (x:Int) (w:World) :
  Calls Try.prog 45 #[.int .i64 x] w fun e w'=>e=.returned (.int .i64 (refW x))∧w=w':=by
 have hor:bits .or .i64 (wrap64 (x*4)) 1=refW x:=by rw [←IntWalk.i64_left];exact i64_or1w x
 go_enter Try.func45,Try.ntmps45
 go_wp2
 go_ret
 exact ⟨rfl,rfl⟩
theorem refW_wrap64 (x:Int):refW (wrap64 x)=refW x:=by
 unfold refW wrap64
 rw [IntKind.wrap_i64,IntKind.wrap_i64]
 omega
structure CH where
 p:Nat
 pa:Nat
 g:Nat
 cp:Nat
 ps:Nat
 ro:Value
 pc:Nat
 base:Int
def CH.Own (H:CH) (wv ev:Value) (k:Nat):Prop:=k=H.p∨k=H.pa∨k=H.g∨k=H.pc∨ownB wv k∨ownB ev k
structure CutJ (w:World) (H:CH) (wv ev:Value) (s:Ms) (c:Int):Prop where
 hp:Blk w H.p [.pointer (some ⟨H.pa,0,none⟩), .pointer (some ⟨H.cp,0,none⟩), .pointer (some ⟨H.ps,0,none⟩),H.ro] 43
 ha:ArenaAt w H.pa H.g s.A
 hc:Blk w H.pc [.pointer (some ⟨H.p,0,none⟩), .int .i64 H.base, .int .i64 c,wv,ev] 108
 hw:Sl w 3 1 wv s.wk.length (s.wk.map (Value.int .i64))
 he:Sl w 3 1 ev s.ep.length (s.ep.map (Value.int .i64))
 ap:∀ k,¬ (ownB wv k∧ownB ev k)
def CutTo (w:World) (H:CH) (wv ev:Value) (s:Ms) (c:Int) (w':World):Prop:=
 ∃ wv' ev',CutJ w' H wv' ev' s c∧Keeps (H.Own wv ev) w w'∧∀ k,H.Own wv' ev' k→H.Own wv ev k∨w.heap.size≤k
section
variable {w w':World} {H:CH} {wv ev:Value} {s:Ms} {c:Int}
theorem CutJ.own_type (J:CutJ w H wv ev s c) {k:Nat} (hk:H.Own wv ev k):∃ l T,Blk w k l T∧(T=43∨T=70∨T=2∨T=108∨T=3):=by
 rcases hk with rfl | rfl | rfl | rfl | hk | hk
 ·exact ⟨_,_,J.hp, .inl rfl⟩
 ·exact ⟨_,_,J.ha.hp, .inr (.inl rfl)⟩
 ·exact ⟨_,_,J.ha.hg, .inr (.inr (.inl rfl))⟩
 ·exact ⟨_,_,J.hc, .inr (.inr (.inr (.inl rfl)))⟩
 ·obtain ⟨_,l,h⟩:=J.hw.own hk;exact ⟨_,_,h, .inr (.inr (.inr (.inr rfl)))⟩
 ·obtain ⟨_,l,h⟩:=J.he.own hk;exact ⟨_,_,h, .inr (.inr (.inr (.inr rfl)))⟩
theorem CutJ.own_lt (J:CutJ w H wv ev s c) {k:Nat} (hk:H.Own wv ev k):k<w.heap.size:=by
 obtain ⟨_,_,h,_⟩:=J.own_type hk;exact h.lt
theorem CutJ.keep {S:Nat→Prop} (J:CutJ w H wv ev s c) (k:Keeps S w w') (hn:∀ b,H.Own wv ev b→¬ S b):CutJ w' H wv ev s c:=
 ⟨k.blk J.hp (hn _ (.inl rfl)),J.ha.keep k (hn _ (.inr (.inl rfl))) (hn _ (.inr (.inr (.inl rfl)))),k.blk J.hc (hn _ (.inr (.inr (.inr (.inl rfl))))),J.hw.keep k (fun b hb=>hn b (.inr (.inr (.inr (.inr (.inl hb)))))),
  J.he.keep k (fun b hb=>hn b (.inr (.inr (.inr (.inr (.inr hb)))))),J.ap⟩
theorem CutJ.same (J:CutJ w H wv ev s c) (k:Keeps (fun _=>False) w w'):CutJ w' H wv ev s c:=J.keep k (fun _ _ h=>h)
theorem CutTo.refl (J:CutJ w H wv ev s c):CutTo w H wv ev s c w:=⟨wv,ev,J,Keeps.refl _ _,fun _ h=>.inl h⟩
theorem CutJ.arena (J:CutJ w H wv ev s c) {A:Ar} (t:ArenaTo w H.pa H.g w' A):CutJ w' H wv ev { s with A:=A } c:=by
 have n1:∀ {b:Nat} {c:List Value} {T:TypeId},Blk w b c T→T≠70→T≠2→¬ (b=H.pa∨b=H.g):=fun hb h1 h2 e=>by
  rcases e with e | e
  ·exact hb.ne J.ha.hp h1 e
  ·exact hb.ne J.ha.hg h2 e
 refine ⟨t.k.blk J.hp (n1 J.hp (by decide) (by decide)),t.at_,t.k.blk J.hc (n1 J.hc (by decide) (by decide)),J.hw.keep t.k (fun b hb=>?_),J.he.keep t.k (fun b hb=>?_),J.ap⟩
 ·obtain ⟨_,l,h⟩:=J.hw.own hb;exact n1 h (by decide) (by decide)
 ·obtain ⟨_,l,h⟩:=J.he.own hb;exact n1 h (by decide) (by decide)
theorem CutJ.arenaTo (J:CutJ w H wv ev s c) {A:Ar} (t:ArenaTo w H.pa H.g w' A):CutTo w H wv ev { s with A:=A } c w':=
 ⟨wv,ev,J.arena t,t.k.mono (fun k _ hk=>hk.elim (fun h=>.inr (.inl h)) (fun h=>.inr (.inr (.inl h)))),fun k hk=>.inl hk⟩
theorem CutJ.cells (J:CutJ w H wv ev s c):w.cell? ⟨H.pc,0,none⟩=some (.pointer (some ⟨H.p,0,none⟩))∧w.cell? ⟨H.pc,1,none⟩=some (.int .i64 H.base)∧w.cell? ⟨H.pc,2,none⟩=some (.int .i64 c)∧w.cell? ⟨H.pc,3,none⟩=some wv∧w.cell? ⟨H.pc,4,none⟩=some ev ∧
  w.cell? ⟨H.p,0,none⟩=some (.pointer (some ⟨H.pa,0,none⟩))∧w.cell? ⟨H.p,1,none⟩=some (.pointer (some ⟨H.cp,0,none⟩))∧w.cell? ⟨H.p,2,none⟩=some (.pointer (some ⟨H.ps,0,none⟩))∧w.cell? ⟨H.p,3,none⟩=some H.ro:=
 ⟨J.hc.cell 0,J.hc.cell 1,J.hc.cell 2,J.hc.cell 3,J.hc.cell 4,J.hp.cell 0,J.hp.cell 1,J.hp.cell 2,J.hp.cell 3⟩
theorem mAlive_c (x:Int) (J:CutJ w H wv ev s c) :
  Calls Try.prog 92 #[.pointer (some ⟨H.pc,0,none⟩), .int .i64 x] w fun e w'=>e=.returned (.bool (mAlive s.A x))∧w=w':=by
 obtain ⟨c0,-,-,-,-,p0,-,-,-⟩:=J.cells
 have pl:=J.hp.lt;have cl:=J.hc.lt
 have HA:=Hz J.ha
 clear J
 by_cases hx:x%4=1
 ·have HX:=Hz hx
  cases hy:s.A.young (x/4)
  ·have HE:=Hz (show mAlive s.A x=true by simp [mAlive,hy])
   have HY:=Hz hy
   clear hx hy
   go_enter Try.func92,Try.ntmps92
   go_wp2_with fail
   refine (At_yes x _ HX.out).mono ?_
   rintro e w1 ⟨rfl,rfl⟩
   go_wp2_with fail
   refine (Young_c (x/4) _ HA.out).mono ?_
   rintro e w1 ⟨rfl,rfl⟩
   rw [HY.out]
   go_wp2_with fail
   go_ret
   exact ⟨ret_bool HE.out.symm,rfl⟩
  ·have HE:=Hz (show mAlive s.A x=decide (s.A.load (x/4)<0) by simp [mAlive,hy,hx])
   have HY:=Hz hy
   clear hx hy
   go_enter Try.func92,Try.ntmps92
   go_wp2_with fail
   refine (At_yes x _ HX.out).mono ?_
   rintro e w1 ⟨rfl,rfl⟩
   go_wp2_with fail
   refine (Young_c (x/4) _ HA.out).mono ?_
   rintro e w1 ⟨rfl,rfl⟩
   rw [HY.out]
   go_wp2_with fail
   refine (Load_c (x/4) _ HA.out).mono ?_
   rintro e w1 ⟨rfl,rfl⟩
   go_wp2_with fail
   go_ret
   exact ⟨ret_bool HE.out.symm,rfl⟩
 ·have HE:=Hz (show mAlive s.A x=true by simp [mAlive,hx])
  have HX:=Hz hx
  clear hx
  go_enter Try.func92,Try.ntmps92
  go_wp2_with fail
  refine (At_no x _ HX.out).mono ?_
  rintro e w1 ⟨rfl,rfl⟩
  go_wp2_with fail
  go_ret
  exact ⟨ret_bool HE.out.symm,rfl⟩
theorem mNow_c (x:Int) (J:CutJ w H wv ev s c) :
  Calls Try.prog 94 #[.pointer (some ⟨H.pc,0,none⟩), .int .i64 x] w fun e w'=>e=.returned (.int .i64 (mNow s.A x))∧w=w':=by
 obtain ⟨c0,-,-,-,-,p0,-,-,-⟩:=J.cells
 have pl:=J.hp.lt;have cl:=J.hc.lt
 have HA:=Hz J.ha
 have HR:=Hz (J.ha.ok.load (x/4))
 clear J
 by_cases hx:x%4=1
 ·have HX:=Hz hx
  cases hy:s.A.young (x/4)
  ·have HE:=Hz (show mNow s.A x=x by simp [mNow,hy])
   have HY:=Hz hy
   clear hx hy
   go_enter Try.func94,Try.ntmps94
   go_wp2_with fail
   refine (At_yes x _ HX.out).mono ?_
   rintro e w1 ⟨rfl,rfl⟩
   go_wp2_with fail
   refine (Young_c (x/4) _ HA.out).mono ?_
   rintro e w1 ⟨rfl,rfl⟩
   rw [HY.out]
   go_wp2_with fail
   go_ret
   exact ⟨ret_int HE.out.symm,rfl⟩
  ·have HY:=Hz hy
   have HE:=Hz (show mNow s.A x=if s.A.load (x/4)<0 then refW (-1-s.A.load (x/4)) else x by simp [mNow,hy,hx])
   have HLd:=Hz (Load_c (x/4) w HA.out)
   generalize s.A.load (x/4)=u at HE HLd HR
   clear hx hy
   by_cases hu:u<0
   ·have hd:decide (u<0)=true:=by simpa using hu
    have hw:IntKind.i64.wrap (-1-u)=-1-u:=IntWalk.i64_in _ (by have:=HR.out;unfold R64 at this;omega)
    have HW:=Hz hw
    have HU:=Hz hu
    clear hu hw
    go_enter Try.func94,Try.ntmps94
    go_wp2_with fail
    refine (At_yes x _ HX.out).mono ?_
    rintro e w1 ⟨rfl,rfl⟩
    go_wp2_with fail
    refine (Young_c (x/4) _ HA.out).mono ?_
    rintro e w1 ⟨rfl,rfl⟩
    rw [HY.out]
    go_wp2_with fail
    refine HLd.out.mono ?_
    rintro e w1 ⟨rfl,rfl⟩
    go_wp2_with fail
    refine HLd.out.mono ?_
    rintro e w1 ⟨rfl,rfl⟩
    go_wp2_with fail
    refine (Ref_any _ _).mono ?_
    rintro e w1 ⟨rfl,rfl⟩
    go_wp2_with fail
    go_ret
    refine ⟨ret_int ?_,rfl⟩
    rw [HE.out,if_pos HU.out]
    try rw [HW.out]
    try rw [refW_wrap64]
   ·have hd:decide (u<0)=false:=by simpa using hu
    have HU:=Hz hu
    clear hu
    go_enter Try.func94,Try.ntmps94
    go_wp2_with fail
    refine (At_yes x _ HX.out).mono ?_
    rintro e w1 ⟨rfl,rfl⟩
    go_wp2_with fail
    refine (Young_c (x/4) _ HA.out).mono ?_
    rintro e w1 ⟨rfl,rfl⟩
    rw [HY.out]
    go_wp2_with fail
    refine HLd.out.mono ?_
    rintro e w1 ⟨rfl,rfl⟩
    go_wp2_with fail
    go_ret
    exact ⟨ret_int (by rw [HE.out,if_neg (by have:=HU.out;omega)]),rfl⟩
 ·have HE:=Hz (show mNow s.A x=x by simp [mNow,hx])
  have HX:=Hz hx
  clear hx
  go_enter Try.func94,Try.ntmps94
  go_wp2_with fail
  refine (At_no x _ HX.out).mono ?_
  rintro e w1 ⟨rfl,rfl⟩
  go_wp2_with fail
  go_ret
  exact ⟨ret_int HE.out.symm,rfl⟩
theorem mDead {A:Ar} {x:Int} (h:mAlive A x=false):x%4=1∧A.young (x/4)=true∧¬ A.load (x/4)<0:=by
 simp [mAlive] at h
 exact ⟨h.1.1,h.1.2,by omega⟩
def BringRet (w:World) (H:CH) (wv ev:Value) (s:Ms) (c x:Int) (e:Ending) (w':World):Prop:=
 e=.returned (.int .i64 (mNow (mBring s.A x) x))∧ArenaTo w H.pa H.g w' (mBring s.A x)
theorem ArenaTo.from_same {w w1 w2:World} {p g:Nat} {A:Ar} (k:Keeps (fun _=>False) w w1) (t:ArenaTo w1 p g w2 A):ArenaTo w p g w2 A:=⟨t.at_,(k.mono fun _ _ h=>h.elim).trans t.k⟩
theorem mBring_c (x:Int) (J:CutJ w H wv ev s c) :
  Calls Try.prog 60 #[.pointer (some ⟨H.pc,0,none⟩), .int .i64 x] w (BringRet w H wv ev s c x):=by
 have HJ:=Hz J
 clear J
 cases hal:mAlive s.A x
 ·obtain ⟨hx,-,-⟩:=mDead hal
  have HE:=Hz (show mBring s.A x=(s.A.copy (x/4)).2.store (x/4) (-1-(s.A.copy (x/4)).1) by unfold mBring;rw [hal];rfl)
  have HAL:=Hz hal;have HX:=Hz hx
  have hcr:=Ar.copy_range HJ.out.ha.ok (x/4)
  have HCP:=Hz (fun w' h=>ACopy_c (p:=H.pa) (g:=H.g) (A:=s.A) (x/4) w' h)
  obtain ⟨⟨d,B⟩,hT⟩:∃ t,s.A.copy (x/4)=t:=⟨_,rfl⟩
  rw [hT] at HE hcr HCP
  dsimp only at HE hcr HCP
  have hwr:IntKind.i64.wrap (-1-d)=-1-d:=IntWalk.i64_in _ (by omega)
  have HR:=Hz (show R64 (-1-d) by unfold R64;omega)
  have HW:=Hz hwr
  clear hal hx hcr hT hwr
  go_enter Try.func60,Try.ntmps60
  go_wp2_with fail
  refine (mAlive_c x HJ.out).mono ?_
  rintro e w1 ⟨rfl,rfl⟩
  rw [HAL.out]
  go_wp2_with fail
  refine (At_yes x _ HX.out).mono ?_
  rintro e w1 ⟨rfl,rfl⟩
  obtain ⟨c0,-,-,-,-,p0,-,-,-⟩:=HJ.out.cells
  have pl:=HJ.out.hp.lt;have cl:=HJ.out.hc.lt
  go_wp2_with fail
  refine wp_region_ro (.free 0 (.free 1 (.free 2 (.free 7 (.free 8 (.free 9 (.free 10 (.free 15 (.pure 3 (.free 4 (.free 5 (.pure 6 (.pure 11 (.free 12 (.free 13 (.pure 14 (.run 16 (.free 17 (.run 18 (.swi [] (.fin))))))))))))))))))))) [18] (fun w'=>w'.cell? ⟨H.pc,0,none⟩=some (.pointer (some ⟨H.p,0,none⟩))∧w'.cell? ⟨H.p,0,none⟩=some (.pointer (some ⟨H.pa,0,none⟩))) (by kernel_rfl) (by kernel_rfl) ⟨c0,p0⟩ ?_
  iterate 16 first | (refine wpRO_free rfl rfl _ (fun w'=>by go_simp;exact Gives.mk _ _) (fun K hK=>?_);go_simp;refine hK _ ?_;clear hK K) | (refine wpRO_skipF rfl rfl (fun K hK=>?_);go_simp;refine hK _ ?_;clear hK K) | (refine wpRO_pure rfl rfl _ (fun w' hG=>by obtain ⟨g0,g1⟩:=hG;exact gives_agg2 rfl (by decide +kernel) rfl (by assumption) (by assumption)) (fun K hK=>?_);go_simp;refine hK _ ?_;clear hK K) | (refine wpRO_pure rfl rfl _ (fun w' hG=>by obtain ⟨g0,g1⟩:=hG;go_simp;exact Gives.mk _ _) (fun K hK=>?_);go_simp;refine hK _ ?_;clear hK K) | (refine wpRO_skip rfl rfl (fun K hK=>?_);go_simp;refine hK _ ?_;clear hK K)
  refine wpRO_run rfl rfl (fun K hK=>?_);unfold gRun;go_simp
  have HD:=Hz (HJ.out.same ((Kz w).drew))
  refine (HCP.out _ HD.out.ha).mono ?_
  rintro e w1 ⟨rfl,t⟩
  have T1:=Hz t
  clear t
  refine hK _ _ (fun _=>⟨((HD.out.arena T1.out).cells).1,(HD.out.arena T1.out).cells.2.2.2.2.2.1⟩) ?_
  clear hK K
  iterate 1 first | (refine wpRO_free rfl rfl _ (fun w'=>by go_simp;exact Gives.mk _ _) (fun K hK=>?_);go_simp;refine hK _ ?_;clear hK K) | (refine wpRO_skipF rfl rfl (fun K hK=>?_);go_simp;refine hK _ ?_;clear hK K)
  refine wpRO_chg rfl rfl rfl (fun K hK=>?_);unfold gRun;go_simp
  rw [HW.out]
  refine (Store_c (x/4) (-1-d) _ T1.out.at_ HR.out).mono ?_
  rintro e w2 ⟨rfl,t⟩
  have T2:=Hz (ArenaTo.from_same (w:=w) ((Kz w).drew) (T1.out.trans t))
  clear t
  refine hK _ _ ?_
  clear hK K c0 p0 pl cl
  refine wpRO_swi (fun _=>True) trivial (wpRO_fin ?_)
  have HJ2:=Hz (HJ.out.arena T2.out)
  go_wp2_with fail
  refine (mNow_c x HJ2.out).mono ?_
  rintro e w3 ⟨rfl,rfl⟩
  go_wp2_with fail
  go_ret
  refine ⟨ret_int (by rw [HE.out]),?_⟩
  rw [HE.out];exact T2.out
 ·have HE:=Hz (show mBring s.A x=s.A by unfold mBring;rw [hal];rfl)
  have HAL:=Hz hal
  clear hal
  go_enter Try.func60,Try.ntmps60
  go_wp2_with fail
  refine (mAlive_c x HJ.out).mono ?_
  rintro e w1 ⟨rfl,rfl⟩
  rw [HAL.out]
  go_wp2_with fail
  refine (mNow_c x HJ.out).mono ?_
  rintro e w1 ⟨rfl,rfl⟩
  go_wp2_with fail
  go_ret
  refine ⟨ret_int (by rw [HE.out]),?_⟩
  rw [HE.out];exact ArenaTo.refl HJ.out.ha (Keeps.refl _ _)
theorem mField_c (i:Int) (J:CutJ w H wv ev s c) :
  Calls Try.prog 95 #[.pointer (some ⟨H.pc,0,none⟩), .int .i64 i] w fun e w'=>e=.returned (.tuple #[])∧ArenaTo w H.pa H.g w' (mField s.A i):=by
 have HJ:=Hz J
 clear J
 obtain ⟨c0,-,-,-,-,p0,-,-,-⟩:=HJ.out.cells
 have pl:=HJ.out.hp.lt;have cl:=HJ.out.hc.lt
 go_enter Try.func95,Try.ntmps95
 go_wp2_with fail
 refine wp_region_ro (.free 0 (.free 1 (.free 2 (.free 7 (.free 8 (.free 9 (.free 10 (.free 11 (.free 16 (.pure 3 (.free 4 (.free 5 (.pure 6 (.pure 12 (.free 13 (.free 14 (.pure 15 (.run 17 (.run 18 (.run 19 (.swi [] (.fin)))))))))))))))))))))) [19] (fun w'=>w'.cell? ⟨H.pc,0,none⟩=some (.pointer (some ⟨H.p,0,none⟩))∧w'.cell? ⟨H.p,0,none⟩=some (.pointer (some ⟨H.pa,0,none⟩))) (by kernel_rfl) (by kernel_rfl) ⟨c0,p0⟩ ?_
 iterate 17 first | (refine wpRO_free rfl rfl _ (fun w'=>by go_simp;exact Gives.mk _ _) (fun K hK=>?_);go_simp;refine hK _ ?_;clear hK K) | (refine wpRO_skipF rfl rfl (fun K hK=>?_);go_simp;refine hK _ ?_;clear hK K) | (refine wpRO_pure rfl rfl _ (fun w' hG=>by obtain ⟨g0,g1⟩:=hG;exact gives_agg2 rfl (by decide +kernel) rfl (by assumption) (by assumption)) (fun K hK=>?_);go_simp;refine hK _ ?_;clear hK K) | (refine wpRO_pure rfl rfl _ (fun w' hG=>by obtain ⟨g0,g1⟩:=hG;go_simp;exact Gives.mk _ _) (fun K hK=>?_);go_simp;refine hK _ ?_;clear hK K) | (refine wpRO_skip rfl rfl (fun K hK=>?_);go_simp;refine hK _ ?_;clear hK K)
 refine wpRO_run rfl rfl (fun K hK=>?_);unfold gRun;go_simp
 have HD:=Hz (HJ.out.same ((Kz w).drew))
 refine (Load_c i _ HD.out.ha).mono ?_
 rintro e w1 ⟨rfl,rfl⟩
 refine hK _ _ (fun h=>h) ?_
 clear hK K
 refine wpRO_run rfl rfl (fun K hK=>?_);unfold gRun;go_simp
 refine (mBring_c (s.A.load i) HD.out).mono ?_
 rintro e w2 ⟨rfl,t⟩
 have T1:=Hz t
 clear t
 refine hK _ _ (fun _=>⟨((HD.out.arena T1.out).cells).1,(HD.out.arena T1.out).cells.2.2.2.2.2.1⟩) ?_
 clear hK K
 skip
 refine wpRO_chg rfl rfl rfl (fun K hK=>?_);unfold gRun;go_simp
 have HR:=Hz (mNow_R64 (A:=mBring s.A (s.A.load i)) (HD.out.ha.ok.load i))
 refine (Store_c i _ _ T1.out.at_ HR.out).mono ?_
 rintro e w3 ⟨rfl,t⟩
 have T2:=Hz (ArenaTo.from_same (w:=w) ((Kz w).drew) (T1.out.trans t))
 clear t
 refine hK _ _ ?_
 clear hK K c0 p0 pl cl
 refine wpRO_swi (fun _=>True) trivial (wpRO_fin ?_)
 go_wp2_with fail
 go_end0
 exact ⟨rfl,T2.out⟩
end
end
section
structure MsOk (s:Ms) (L:Int):Prop where
 len:(s.wk.length:Int)+s.ep.length≤L
 wb:∀ i ∈ s.wk,0≤i∧i≤1300
 eb:∀ i ∈ s.ep,0≤i∧i≤1300
theorem MsOk.arena {s:Ms} {L:Int} (h:MsOk s L) (A:Ar):MsOk { s with A:=A } L:=⟨h.len,h.wb,h.eb⟩
theorem MsOk.more {s:Ms} {L M:Int} (h:MsOk s L) (hl:L≤M):MsOk s M:=⟨by have:=h.len;omega,h.wb,h.eb⟩
theorem MsOk.look {s:Ms} {L:Int} (h:MsOk s L) {i:Int} (h0:0≤i) (h1:i≤1300):MsOk (mLook s i) (L+1):=by
 have hl:=h.len
 have mem:∀ {l:List Int},(∀ j ∈ l,0≤j∧j≤1300)→∀ j ∈ l ++ [i],0≤j∧j≤1300:=fun hl j hj=>by
  rcases List.mem_append.1 hj with h | h
  ·exact hl j h
  ·rw [List.mem_singleton] at h;omega
 unfold mLook
 split
 ·exact ⟨by dsimp only;omega,h.wb,h.eb⟩
 ·split
  ·exact ⟨by simp;omega,mem h.wb,h.eb⟩
  ·split
   ·exact ⟨by simp;omega,h.wb,mem h.eb⟩
   ·exact ⟨by omega,h.wb,h.eb⟩
structure ScOk (s:Ms) (c:Int):Prop where
 ok:s.A.ok
 ms:MsOk s (1300+c)
 c0:0≤c
 c1:c≤1300
theorem ScOk.arena {s:Ms} {c:Int} {A:Ar} (h:ScOk s c) (hA:A.ok):ScOk { s with A:=A } c:=⟨hA,h.ms.arena A,h.c0,h.c1⟩
theorem mScan_stop {s:Ms} {c:Int} (n:Nat) (h:¬ c<s.A.grn):mScan n s c=(s,c):=by
 cases n with
 | zero=>rfl
 | succ n=>unfold mScan;rw [if_neg h]
theorem mScan_step {s:Ms} {c:Int} (n:Nat) (h:c<s.A.grn):mScan (n+1) s c=mScan n (mLook s c) (c+(1+(s.A.thing c).2.1)):=by
 rw [mScan,if_pos h]
theorem ScOk.look {s:Ms} {c:Int} (h:ScOk s c) (hc:c<s.A.grn):ScOk (mLook s c) (c+(1+(s.A.thing c).2.1)):=by
 have hf:=s.A.thing_fields c
 have h3:=h.ok.h3;have h4:=h.ok.h4;have:=h.c0
 exact ⟨(Sm.look h.ok c).ok,(h.ms.look h.c0 h.c1).more (by omega),by omega,by omega⟩
theorem ScOk.scan:∀ (n:Nat) {s:Ms} {c:Int},ScOk s c→ScOk (mScan n s c).1 (mScan n s c).2∧c≤(mScan n s c).2∧(0<n→c<s.A.grn→c+1≤(mScan n s c).2)
 | 0,s,c,h=>⟨h,Int.le_refl _,fun h=>by omega⟩
 | n+1,s,c,h=>by
  have hf:=s.A.thing_fields c
  by_cases hc:c<s.A.grn
  ·rw [mScan_step n hc]
   have ih:=ScOk.scan n (h.look hc)
   exact ⟨ih.1,by omega,fun _ _=>by omega⟩
  ·rw [mScan_stop _ hc]
   exact ⟨h,Int.le_refl _,fun _ h=>(hc h).elim⟩
def QOk (q:List (Int × Int)):Prop:=∀ e ∈ q,R64e e
theorem QOk.wake:∀ (l:List (Int × Int)) {A:Ar},QOk l→QOk (wakeM mAlive mKp A l).2.1
 | [],A,h=>h
 | e :: l,A,h=>by
  have h1:QOk l:=fun x hx=>h x (by simp [hx])
  have h2:=h e (by simp)
  unfold wakeM
  split
  ·intro x hx
   rcases List.mem_cons.1 hx with rfl | hx
   ·exact ⟨h2.1,mNow_R64 h2.2⟩
   ·exact QOk.wake l h1 x hx
  ·intro x hx
   rcases List.mem_cons.1 hx with rfl | hx
   ·exact h2
   ·exact QOk.wake l h1 x hx
theorem ScOk.round {d:Md} (h:ScOk d.s d.c):ScOk (mRound d).s (mRound d).c∧d.c≤(mRound d).c∧(d.c<d.s.A.grn→d.c+1≤(mRound d).c):=by
 have h1:=ScOk.scan 2000 h
 have h2:=Sm.eph (mScan 2000 d.s d.c).1.ep h1.1.ok
 have h3:=Sm.wake d.q h2.ok
 exact ⟨h1.1.arena h3.ok,h1.2.1,h1.2.2 (by decide)⟩
theorem QOk.round {d:Md} (h:QOk d.q):QOk (mRound d).q:=QOk.wake d.q h
theorem QOk.drain:∀ (n:Nat) {d:Md},QOk d.q→QOk (mDrain n d).q
 | 0,d,h=>h
 | n+1,d,h=>by
  unfold mDrain
  split
  ·exact QOk.drain n h.round
  ·exact h.round
theorem mDrain_more {d:Md} (n:Nat) (h:(mRound d).c<(mRound d).s.A.grn):mDrain (n+1) d=mDrain n (mRound d):=by rw [mDrain,if_pos h]
theorem mDrain_last {d:Md} (n:Nat) (h:¬ (mRound d).c<(mRound d).s.A.grn):mDrain (n+1) d=mRound d:=by rw [mDrain,if_neg h]
theorem mRound_of {d:Md} {s1:Ms} {c1:Int} {A2 A3:Ar} {q3:List (Int × Int)} {b:Bool} (h1:mScan 2000 d.s d.c=(s1,c1)) (h2:mEph s1.A s1.ep=A2) (h3:wakeM mAlive mKp A2 d.q=(A3,q3,b)):mRound d=⟨{ s1 with A:=A3 },c1,q3⟩:=by
 unfold mRound
 rw [h1]
 dsimp only
 rw [h2,h3]
end
section
open Go.RowKit
theorem mFields_snoc:∀ (n:Nat) (A:Ar) (i:Int),mFields (n+1) A i=mField (mFields n A i) (i+n)
 | 0,A,i=>by simp [mFields]
 | n+1,A,i=>by
  have:=mFields_snoc n (mField A i) (i+1)
  rw [mFields,this,mFields]
  congr 1
  omega
theorem info_int8:(Try.prog.info? 3).map (fun i=>(i.zero,i.size,i.bytes))=some (some (.int .i64 0),1,8):=by kernel_rfl
section
variable {w w':World} {H:CH} {wv ev:Value} {s:Ms} {c:Int}
theorem CutTo.join {w1:World} {wv1 ev1:Value} (k1:Keeps (H.Own wv ev) w w1) (o1:∀ k,H.Own wv1 ev1 k→H.Own wv ev k∨w.heap.size≤k) (t:CutTo w1 H wv1 ev1 s c w'):CutTo w H wv ev s c w':=by
 obtain ⟨a2,b2,J2,k2,o2⟩:=t
 refine ⟨a2,b2,J2,k1.then k2 o1,fun k hk=>?_⟩
 rcases o2 k hk with h | h
 ·exact o1 k h
 ·exact .inr (Nat.le_trans k1.size h)
theorem CutJ.appW {w1 w2:World} {v2:Value} {i:Int} (J:CutJ w H wv ev s c) (k1:Keeps (fun _=>False) w w1) (hs:Sl w2 3 1 v2 (s.wk.length+1) (s.wk.map (Value.int .i64) ++ [.int .i64 i])) (k2:Keeps (ownB wv) w1 w2)
  (ho:∀ k,ownB v2 k→ownB wv k∨w1.heap.size≤k):CutTo w H wv ev { s with wk:=s.wk ++ [i] } c (w2.setCell ⟨H.pc,3,none⟩ v2):=by
 have J1:=J.same k1
 have nw:∀ {b:Nat} {l:List Value} {T:TypeId},Blk w1 b l T→T≠3→¬ ownB wv b:=fun hb hT hv=>by
  obtain ⟨_,l',h⟩:=J1.hw.own hv;exact hb.ne h hT rfl
 have hp2:=k2.blk J1.hp (nw J1.hp (by decide));have hc2:=k2.blk J1.hc (nw J1.hc (by decide))
 have ha2:=J1.ha.keep k2 (nw J1.ha.hp (by decide)) (nw J1.ha.hg (by decide))
 have he2:=J1.he.keep k2 (fun b hb hv=>J.ap b ⟨hv,hb⟩)
 have set:=(Keeps.refl (·=H.pc) w2).setCell (p:=⟨H.pc,3,none⟩) (.inl rfl) v2
 have ne:∀ {b:Nat} {l:List Value} {T:TypeId},Blk w2 b l T→T≠108→¬ b=H.pc:=fun hb hT=>hb.ne hc2 hT
 refine ⟨v2,ev,⟨set.blk hp2 (ne hp2 (by decide)),ha2.keep set (ne ha2.hp (by decide)) (ne ha2.hg (by decide)),by simpa using hc2.setSame 3 v2,?_,he2.keep set (fun b hb=>by obtain ⟨_,l,h⟩:=he2.own hb;exact ne h (by decide)),?_⟩,?_,?_⟩
 ·have:({ s with wk:=s.wk ++ [i] }:Ms).wk.length=s.wk.length+1:=by simp
  rw [this]
  simpa using hs.keep set (fun b hb=>by obtain ⟨_,l,h⟩:=hs.own hb;exact ne h (by decide))
 ·rintro k ⟨h1,h2⟩
  rcases ho k h1 with h | h
  ·exact J.ap k ⟨h,h2⟩
  ·have:=(J1.he.own h2).1;omega
 ·refine Keeps.setCell ?_ (p:=⟨H.pc,3,none⟩) (.inl (.inr (.inr (.inr (.inl rfl))))) v2
  exact (k1.mono fun _ _ h=>h.elim).trans (k2.mono fun k _ hk=>.inr (.inr (.inr (.inr (.inl hk)))))
 ·rintro k (h | h | h | h | h | h)
  ·exact .inl (.inl h)
  ·exact .inl (.inr (.inl h))
  ·exact .inl (.inr (.inr (.inl h)))
  ·exact .inl (.inr (.inr (.inr (.inl h))))
  ·rcases ho k h with h | h
   ·exact .inl (.inr (.inr (.inr (.inr (.inl h)))))
   ·exact .inr (Nat.le_trans k1.size h)
  ·exact .inl (.inr (.inr (.inr (.inr (.inr h)))))
theorem CutJ.appE {w1 w2:World} {v2:Value} {i:Int} (J:CutJ w H wv ev s c) (k1:Keeps (fun _=>False) w w1) (hs:Sl w2 3 1 v2 (s.ep.length+1) (s.ep.map (Value.int .i64) ++ [.int .i64 i])) (k2:Keeps (ownB ev) w1 w2)
  (ho:∀ k,ownB v2 k→ownB ev k∨w1.heap.size≤k):CutTo w H wv ev { s with ep:=s.ep ++ [i] } c (w2.setCell ⟨H.pc,4,none⟩ v2):=by
 have J1:=J.same k1
 have nw:∀ {b:Nat} {l:List Value} {T:TypeId},Blk w1 b l T→T≠3→¬ ownB ev b:=fun hb hT hv=>by
  obtain ⟨_,l',h⟩:=J1.he.own hv;exact hb.ne h hT rfl
 have hp2:=k2.blk J1.hp (nw J1.hp (by decide));have hc2:=k2.blk J1.hc (nw J1.hc (by decide))
 have ha2:=J1.ha.keep k2 (nw J1.ha.hp (by decide)) (nw J1.ha.hg (by decide))
 have hw2:=J1.hw.keep k2 (fun b hb hv=>J.ap b ⟨hb,hv⟩)
 have set:=(Keeps.refl (·=H.pc) w2).setCell (p:=⟨H.pc,4,none⟩) (.inl rfl) v2
 have ne:∀ {b:Nat} {l:List Value} {T:TypeId},Blk w2 b l T→T≠108→¬ b=H.pc:=fun hb hT=>hb.ne hc2 hT
 refine ⟨wv,v2,⟨set.blk hp2 (ne hp2 (by decide)),ha2.keep set (ne ha2.hp (by decide)) (ne ha2.hg (by decide)),by simpa using hc2.setSame 4 v2,hw2.keep set (fun b hb=>by obtain ⟨_,l,h⟩:=hw2.own hb;exact ne h (by decide)),?_,?_⟩,?_,?_⟩
 ·have:({ s with ep:=s.ep ++ [i] }:Ms).ep.length=s.ep.length+1:=by simp
  rw [this]
  simpa using hs.keep set (fun b hb=>by obtain ⟨_,l,h⟩:=hs.own hb;exact ne h (by decide))
 ·rintro k ⟨h1,h2⟩
  rcases ho k h2 with h | h
  ·exact J.ap k ⟨h1,h⟩
  ·have:=(J1.hw.own h1).1;omega
 ·refine Keeps.setCell ?_ (p:=⟨H.pc,4,none⟩) (.inl (.inr (.inr (.inr (.inl rfl))))) v2
  exact (k1.mono fun _ _ h=>h.elim).trans (k2.mono fun k _ hk=>.inr (.inr (.inr (.inr (.inr hk)))))
 ·rintro k (h | h | h | h | h | h)
  ·exact .inl (.inl h)
  ·exact .inl (.inr (.inl h))
  ·exact .inl (.inr (.inr (.inl h)))
  ·exact .inl (.inr (.inr (.inr (.inl h))))
  ·exact .inl (.inr (.inr (.inr (.inr (.inl h)))))
  ·rcases ho k h with h | h
   ·exact .inl (.inr (.inr (.inr (.inr (.inr h)))))
   ·exact .inr (Nat.le_trans k1.size h)
def LookRet (w:World) (H:CH) (wv ev:Value) (s:Ms) (c i:Int) (e:Ending) (w':World):Prop:=
 e=.returned (.int .i64 (1+(s.A.thing i).2.1))∧CutTo w H wv ev (mLook s i) c w'
theorem mLook_c (i:Int) (J:CutJ w H wv ev s c) (h0:0≤i) (h1:i≤1300) (hl:(s.wk.length:Int)+s.ep.length≤1000000) :
  Calls Try.prog 62 #[.pointer (some ⟨H.pc,0,none⟩), .int .i64 i] w (LookRet w H wv ev s c i):=by
 have HJ:=Hz J
 clear J
 obtain ⟨c0,-,-,c3,c4,p0,-,-,-⟩:=HJ.out.cells
 have pl:=HJ.out.hp.lt;have cl:=HJ.out.hc.lt
 have HTH:=Hz (Thing_c i w HJ.out.ha)
 have hb:=s.A.thing_fields i
 obtain ⟨L,hLe⟩:∃ L,mLook s i=L:=⟨_,rfl⟩
 have HL:=Hz hLe
 unfold mLook at hLe
 obtain ⟨⟨k,n,cd⟩,hT⟩:∃ t,s.A.thing i=t:=⟨_,rfl⟩
 have HT:=Hz hT
 rw [hT] at HTH hb hLe
 dsimp only at HTH hb hLe
 clear hT
 have hwn:IntKind.i64.wrap (1+n)=1+n:=IntWalk.i64_in _ (by omega)
 by_cases k12:k=1∨k=2
 ·rw [if_pos k12] at hLe
  have HE:=Hz hLe
  clear hLe
  obtain ⟨m,rfl⟩:∃ m:Nat,n=m:=⟨n.toNat,by omega⟩
  have hi1:IntKind.i64.wrap (i+1)=i+1:=IntWalk.i64_in _ (by omega)
  rcases k12 with rfl | rfl
  all_goals
   go_enter Try.func62,Try.ntmps62
   go_wp2_with fail
   refine HTH.out.mono ?_
   rintro e w1 ⟨rfl,rfl⟩
   go_wp2_with fail
   go_loopw [27] (fun u wr=>∃ q:Nat,q≤m∧u=.int .i64 q∧ArenaTo w H.pa H.g wr (mFields q s.A (i+1))) (fun u _=>m-(intOf u).toNat)
   case atStart=>exact ⟨0,Nat.zero_le _,rfl,ArenaTo.refl HJ.out.ha (Keeps.refl _ _)⟩
   case round=>
    obtain ⟨q,hq,rfl,t⟩:=hrel
    have T:=Hz t
    clear t
    by_cases hlt:q<m
    ·have JR:=Hz (HJ.out.arena T.out)
     have hiq:IntKind.i64.wrap (i+1+q)=i+1+q:=IntWalk.i64_in _ (by omega)
     go_wp2_with fail
     refine (mField_c (i+1+q) JR.out).mono ?_
     rintro e w2 ⟨rfl,t⟩
     have T2:=Hz (T.out.trans t)
     clear t
     go_wp2_with fail
     go_roundw
     case rel=>exact ⟨q+1,hlt,by go_num,by rw [mFields_snoc];exact T2.out⟩
     case measure=>simp [intOf];omega
    ·obtain rfl:q=m:=by omega
     go_wp2_with fail
     go_ret
     refine ⟨ret_int (by rw [HT.out]),?_⟩
     rw [HL.out,←HE.out]
     exact HJ.out.arenaTo (by simpa using T.out)
 ·have k1:(k == 1)=false:=by simp;omega
  have k2:(k == 2)=false:=by simp;omega
  rw [if_neg k12] at hLe
  clear k12
  obtain ⟨i0,hi,hz0,hz1,hz2⟩:=info_parts info_int8
  have Hi:=Hz hi;have Hz0:=Hz hz0;have Hz1:=Hz hz1;have Hz2:=Hz hz2;clear hi hz0 hz1 hz2
  by_cases k3:k=3
  ·subst k3
   rw [if_pos rfl] at hLe
   have HE:=Hz hLe
   clear hLe
   have hi2:IntKind.i64.wrap (i+2)=i+2:=IntWalk.i64_in _ (by omega)
   obtain ⟨wo,wc,rfl,-,-,-⟩:=HJ.out.hw.rd
   go_enter Try.func62,Try.ntmps62
   go_wp2_with fail
   refine HTH.out.mono ?_
   rintro e w1 ⟨rfl,rfl⟩
   go_wp2_with (at_builtin;refine wpList_app rfl (.tmp 43) (.tmp 45) 63 rfl 3 i0 (.int .i64 0) 1 8 Try.underlying63 Hi.out Hz0.out Hz1.out Hz2.out rfl (by decide) _ s.wk.length (s.wk.map (Value.int .i64)) rfl ?ha ⟨w.heap.size,0,none⟩ 1 1 [.int .i64 i] rfl rfl ?hb ?hc ?hd ?he ?hf)
   case ha=>exact HJ.out.hw.keep ((Kz w).alloc _) (fun _ _ h=>h)
   case hb=>exact news_at w 3 _
   case hc=>intro u hu;simp at hu;subst hu;rfl
   case hd=>unfold maxLen;omega
   case he=>omega
   case hf=>
    intro v2 w2 hs2 hk2 ho2
    obtain ⟨ao2,cap2,rfl,-,-,-⟩:=hs2.rd
    have T2:=Hz (HJ.out.appW ((Kz w).alloc (.cells #[.int .i64 i] 3)) hs2 hk2 (by simpa using ho2))
    have K2:=Hz (((Kz w).alloc (.cells #[.int .i64 i] 3)).blk HJ.out.hc (fun h=>h))
    have K3:=Hz (hk2.blk K2.out (fun hv=>by
     obtain ⟨_,l,h⟩:=(HJ.out.hw.keep ((Kz w).alloc (.cells #[.int .i64 i] 3)) (fun _ _ h=>h)).own hv
     exact K2.out.ne h (by decide) rfl))
    clear hs2 hk2 ho2 K2
    have x0:=K3.out.cell 3;have xl:=K3.out.lt;have xf:=K3.out.free 3
    simp only [List.getElem?_cons_zero,List.getElem?_cons_succ] at x0
    clear c0 c3 c4 p0 pl cl
    go_wp2_with fail
    obtain ⟨wv3,ev3,J3,k3,o3⟩:=T2.out
    have J3':=Hz J3;have K4:=Hz k3;have O3:=Hz o3
    clear J3 k3 o3
    refine (mField_c (i+2) J3'.out).mono ?_
    rintro e w4 ⟨rfl,t⟩
    have T4:=Hz t
    clear t x0 xl xf
    go_wp2_with fail
    go_ret
    refine ⟨ret_int (by rw [HT.out]),?_⟩
    rw [HL.out,←HE.out]
    exact CutTo.join K4.out O3.out (J3'.out.arenaTo T4.out)
  ·have k3':(k == 3)=false:=by simpa using k3
   rw [if_neg k3] at hLe
   clear k3
   by_cases k4:k=4
   ·subst k4
    rw [if_pos rfl] at hLe
    have HE:=Hz hLe
    clear hLe
    obtain ⟨eo,ec,rfl,-,-,-⟩:=HJ.out.he.rd
    go_enter Try.func62,Try.ntmps62
    go_wp2_with fail
    refine HTH.out.mono ?_
    rintro e w1 ⟨rfl,rfl⟩
    go_wp2_with (at_builtin;refine wpList_app rfl (.tmp 59) (.tmp 61) 63 rfl 3 i0 (.int .i64 0) 1 8 Try.underlying63 Hi.out Hz0.out Hz1.out Hz2.out rfl (by decide) _ s.ep.length (s.ep.map (Value.int .i64)) rfl ?ha ⟨w.heap.size,0,none⟩ 1 1 [.int .i64 i] rfl rfl ?hb ?hc ?hd ?he ?hf)
    case ha=>exact HJ.out.he.keep ((Kz w).alloc _) (fun _ _ h=>h)
    case hb=>exact news_at w 3 _
    case hc=>intro u hu;simp at hu;subst hu;rfl
    case hd=>unfold maxLen;omega
    case he=>omega
    case hf=>
     intro v2 w2 hs2 hk2 ho2
     obtain ⟨ao2,cap2,rfl,-,-,-⟩:=hs2.rd
     have T2:=Hz (HJ.out.appE ((Kz w).alloc (.cells #[.int .i64 i] 3)) hs2 hk2 (by simpa using ho2))
     have K2:=Hz (((Kz w).alloc (.cells #[.int .i64 i] 3)).blk HJ.out.hc (fun h=>h))
     have K3:=Hz (hk2.blk K2.out (fun hv=>by
      obtain ⟨_,l,h⟩:=(HJ.out.he.keep ((Kz w).alloc (.cells #[.int .i64 i] 3)) (fun _ _ h=>h)).own hv
      exact K2.out.ne h (by decide) rfl))
     clear hs2 hk2 ho2 K2
     have x0:=K3.out.cell 4;have xl:=K3.out.lt;have xf:=K3.out.free 4
     simp only [List.getElem?_cons_zero,List.getElem?_cons_succ] at x0
     clear c0 c3 c4 p0 pl cl
     go_wp2_with fail
     go_ret
     refine ⟨ret_int (by rw [HT.out]),?_⟩
     rw [HL.out,←HE.out]
     exact T2.out
   ·have k4':(k == 4)=false:=by simpa using k4
    rw [if_neg k4] at hLe
    have HE:=Hz hLe
    clear hLe k4
    go_enter Try.func62,Try.ntmps62
    go_wp2_with fail
    refine HTH.out.mono ?_
    rintro e w1 ⟨rfl,rfl⟩
    go_wp2_with fail
    go_ret
    refine ⟨ret_int (by rw [HT.out]),?_⟩
    rw [HL.out,←HE.out]
    exact CutTo.refl HJ.out
theorem mTop_c (J:CutJ w H wv ev s c) (hb:H.base=s.A.nur) :
  Calls Try.prog 59 #[.pointer (some ⟨H.pc,0,none⟩)] w fun e w'=>e=.returned (.int .i64 s.A.grn)∧Keeps (fun _=>False) w w':=by
 have HJ:=Hz J
 clear J
 obtain ⟨c0,c1,-,-,-,p0,-,-,-⟩:=HJ.out.cells
 have pl:=HJ.out.hp.lt;have cl:=HJ.out.hc.lt
 rw [hb] at c1
 have o2:=HJ.out.ha.ok.h2;have o3:=HJ.out.ha.ok.h3;have o4:=HJ.out.ha.ok.h4
 have HB:=Hz hb
 clear hb
 go_enter Try.func59,Try.ntmps59
 go_wp2_with fail
 refine (Used_c w HJ.out.ha).mono ?_
 rintro e w1 ⟨rfl,hk⟩
 have J1:=Hz (HJ.out.same hk);have K1:=Hz hk
 clear c0 c1 p0 pl cl hk
 obtain ⟨c0,c1,-,-,-,p0,-,-,-⟩:=J1.out.cells
 rw [HB.out] at c1
 have cl:=J1.out.hc.lt
 have hs:IntKind.i64.wrap ((s.A.nur:Int)+((s.A.grn-s.A.nur:Nat):Int))=s.A.grn:=by
  rw [IntWalk.i64_in _ (by omega)];omega
 go_wp2_with fail
 go_ret
 exact ⟨by first | rfl | exact ret_int (by omega),K1.out⟩
end
end
section
open Go.RowKit
structure CS (w:World) (H:CH) (wv ev rv qv:Value) (rg:List (Int × Int)) (d:Md):Prop where
 J:CutJ w H wv ev d.s d.c
 S:SideAt w H.ps rv qv rg d.q
 ok:ScOk d.s d.c
 q:QOk d.q
 nb:H.base=d.s.A.nur
 ql:d.q.length≤1000000
def CSTo (w:World) (H:CH) (wv ev rv qv:Value) (rg:List (Int × Int)) (d:Md) (w':World):Prop:=
 ∃ wv' ev',CS w' H wv' ev' rv qv rg d∧Keeps (fun k=>H.Own wv ev k∨SideFp H.ps rv qv k) w w'∧∀ k,H.Own wv' ev' k→H.Own wv ev k∨w.heap.size≤k
def cellI (w:World) (b i:Nat):Int:=match w.cell? ⟨b,i,none⟩ with | some (.int _ n)=>n | _=>0
theorem cellI_of {w:World} {b i:Nat} {k:IntKind} {n:Int} (h:w.cell? ⟨b,i,none⟩=some (.int k n)):cellI w b i=n:=by unfold cellI;rw [h]
section
variable {w w':World} {H:CH} {wv ev rv qv:Value} {rg:List (Int × Int)} {d:Md} {s:Ms} {c:Int}
theorem CutJ.side_apart {wt:List (Int × Int)} (J:CutJ w H wv ev s c) (S:SideAt w H.ps rv qv rg wt) {k:Nat} (hk:H.Own wv ev k):¬ SideFp H.ps rv qv k:=fun hs=>by
 obtain ⟨_,T,h,hT⟩:=J.own_type hk
 obtain ⟨_,U,h',hU⟩:=S.fp_type hs
 refine h.ne h' ?_ rfl
 rcases hT with rfl | rfl | rfl | rfl | rfl <;> rcases hU with rfl | rfl <;> decide
theorem CS.keep {S:Nat→Prop} (C:CS w H wv ev rv qv rg d) (k:Keeps S w w') (h1:∀ b,H.Own wv ev b→¬ S b) (h2:∀ b,SideFp H.ps rv qv b→¬ S b):CS w' H wv ev rv qv rg d:=
 ⟨C.J.keep k h1,C.S.keep k h2,C.ok,C.q,C.nb,C.ql⟩
theorem CS.same (C:CS w H wv ev rv qv rg d) (k:Keeps (fun _=>False) w w'):CS w' H wv ev rv qv rg d:=C.keep k (fun _ _ h=>h) (fun _ _ h=>h)
theorem CSTo.refl (C:CS w H wv ev rv qv rg d) (k:Keeps (fun _=>False) w w'):CSTo w H wv ev rv qv rg d w':=⟨wv,ev,C.same k,k.mono (fun _ _ h=>h.elim),fun _ h=>.inl h⟩
theorem CSTo.join {w1:World} {wv1 ev1:Value} (k1:Keeps (fun k=>H.Own wv ev k∨SideFp H.ps rv qv k) w w1) (o1:∀ k,H.Own wv1 ev1 k→H.Own wv ev k∨w.heap.size≤k) (t:CSTo w1 H wv1 ev1 rv qv rg d w'):CSTo w H wv ev rv qv rg d w':=by
 obtain ⟨a2,b2,J2,k2,o2⟩:=t
 refine ⟨a2,b2,J2,k1.then k2 (fun k hk=>?_),fun k hk=>?_⟩
 ·rcases hk with hk | hk
  ·exact (o1 k hk).imp .inl id
  ·exact .inl (.inr hk)
 ·rcases o2 k hk with h | h
  ·exact o1 k h
  ·exact .inr (Nat.le_trans k1.size h)
theorem CS.cut (C:CS w H wv ev rv qv rg d) (t:CutTo w H wv ev s c w') (h:ScOk s c) (hn:s.A.nur=d.s.A.nur):CSTo w H wv ev rv qv rg ⟨s,c,d.q⟩ w':=by
 obtain ⟨a,b,J,k,o⟩:=t
 exact ⟨a,b,⟨J,C.S.keep k (fun b hb hk=>C.J.side_apart C.S hk hb),h,C.q,by rw [hn];exact C.nb,C.ql⟩,k.mono (fun _ _ h=>.inl h),o⟩
theorem CutJ.setC (J:CutJ w H wv ev s c) (c2:Int):CutTo w H wv ev s c2 (w.setCell ⟨H.pc,2,none⟩ (.int .i64 c2)):=by
 have set:=(Keeps.refl (·=H.pc) w).setCell (p:=⟨H.pc,2,none⟩) (.inl rfl) (.int .i64 c2)
 have ne:∀ {b:Nat} {l:List Value} {T:TypeId},Blk w b l T→T≠108→¬ b=H.pc:=fun hb hT=>hb.ne J.hc hT
 exact ⟨wv,ev,⟨set.blk J.hp (ne J.hp (by decide)),J.ha.keep set (ne J.ha.hp (by decide)) (ne J.ha.hg (by decide)),by simpa using J.hc.setSame 2 (.int .i64 c2),J.hw.keep set (fun b hb=>by obtain ⟨_,l,h⟩:=J.hw.own hb;exact ne h (by decide)),
  J.he.keep set (fun b hb=>by obtain ⟨_,l,h⟩:=J.he.own hb;exact ne h (by decide)),J.ap⟩,set.mono (fun k _ hk=>.inr (.inr (.inr (.inl hk)))),fun k hk=>.inl hk⟩
def mLivV (pc:Nat):Value:=.agg #[.func (.func 92) #[.pointer (some ⟨pc,0,none⟩)] #[], .func (.func 60) #[.pointer (some ⟨pc,0,none⟩)] #[], .func (.func 94) #[.pointer (some ⟨pc,0,none⟩)] #[]]
theorem mLiving_c (J:CutJ w H wv ev s c) :
  Calls Try.prog 97 #[.pointer (some ⟨H.pc,0,none⟩)] w fun e w'=>e=.returned (mLivV H.pc)∧Keeps (fun _=>False) w w':=by
 have cl:=J.hc.lt
 clear J
 go_enter Try.func97,Try.ntmps97
 go_wp2_with fail
 go_wp2_with fail
 refine bodyPost_ret (v:=mLivV H.pc) (by simp [mLivV,results,Try.results97,go_sem]) rfl ⟨rfl,?_⟩
 exact (Keeps.refl _ _).alloc _
def mWakeL (H:CH) (wv ev:Value) (wk ep:List Int) (c:Int):Liv Try.prog H.ps Ar where
 J:=fun w A F=>CutJ w H wv ev ⟨A,wk,ep⟩ c∧F=H.Own wv ev
 D:=fun _ x=>R64 x
 DK:=fun _ x=>R64 x
 alive:=mAlive
 keep:=fun A q x=>((mKp A x).1,q,(mKp A x).2)
 now:=mNow
 fa:=92
 fk:=60
 fn:=94
 a1:=#[.pointer (some ⟨H.pc,0,none⟩)]
 a2:=#[]
 k1:=#[.pointer (some ⟨H.pc,0,none⟩)]
 k2:=#[]
 n1:=#[.pointer (some ⟨H.pc,0,none⟩)]
 n2:=#[]
 ea:=fun args w=>by kernel_rfl
 ek:=fun args w=>by kernel_rfl
 en:=fun args w=>by kernel_rfl
 J_keep:=fun h k hn=>⟨h.1.keep k (by rw [←h.2];exact hn),h.2⟩
 J_lt:=fun h hk=>h.1.own_lt (by rw [←h.2];exact hk)
 alive_c:=fun w t F x hJ _=>(mAlive_c x hJ.1).mono (by rintro e w' ⟨rfl,rfl⟩;exact ⟨rfl,Keeps.refl _ _⟩)
 now_c:=fun w t F x hJ _=>(mNow_c x hJ.1).mono (by rintro e w' ⟨rfl,rfl⟩;exact ⟨rfl,Keeps.refl _ _⟩)
 keep_c:=fun w t F rv qv regs wait x hJ hS hA hx _ _=>by
  obtain ⟨hJ,rfl⟩:=hJ
  refine (mBring_c x hJ).mono ?_
  rintro e w' ⟨rfl,t⟩
  obtain ⟨a,b,J2,k2,o2⟩:=hJ.arenaTo t
  exact ⟨rfl,H.Own wv ev,⟨hJ.arena t,rfl⟩,hS.keep k2 (fun b hb hk=>hA b ⟨hk,hb⟩),hA,k2.mono (fun _ _ h=>.inl h),fun k hk=>.inl hk⟩
 DK_D:=fun h=>h
 DK_keep:=fun _ h=>h
 D_keep:=fun _ h=>h
 D_new:=fun h=>mNow_R64 h
 D_wait:=fun _ h=>h
 keep_len:=rfl
def DrainIn (w:World) (H:CH) (wv ev rv qv:Value) (rg:List (Int × Int)) (d:Md) (m:Value) (wr:World):Prop:=
 (∃ (n:Nat) (d1:Md),m=.bool true∧CSTo w H wv ev rv qv rg d1 wr∧mDrain 2000 d=mDrain (n+1) d1∧1998≤n+d1.c∧(n=1999∨d1.c<d1.s.A.grn)) ∨
  (m=.bool false∧CSTo w H wv ev rv qv rg (mDrain 2000 d) wr)
def drainMu (H:CH) (m:Value) (wr:World):Nat:=(4000-cellI wr H.pc 2-cellI wr H.pa 3).toNat+match m with | .bool true=>1 | _=>0
theorem drainMu_of (C:CS w H wv ev rv qv rg d) (b:Bool):drainMu H (.bool b) w=(4000-d.c-d.s.A.grn).toNat+if b then 1 else 0:=by
 unfold drainMu
 rw [cellI_of C.J.cells.2.2.1,cellI_of C.J.ha.cells.2.2.2]
 cases b <;> simp
def ScanI (w:World) (H:CH) (wv ev rv qv:Value) (rg:List (Int × Int)) (d:Md) (wr:World):Prop:=
 ∃ (n:Nat) (s:Ms) (c:Int),CSTo w H wv ev rv qv rg ⟨s,c,d.q⟩ wr∧mScan 2000 d.s d.c=mScan n s c∧1300≤n+c
theorem mDrain_c (C:CS w H wv ev rv qv rg d) :
  Calls Try.prog 63 #[.pointer (some ⟨H.pc,0,none⟩)] w fun e w'=>e=.returned (.tuple #[])∧CSTo w H wv ev rv qv rg (mDrain 2000 d) w':=by
 have HC:=Hz C
 clear C
 go_enter Try.func63,Try.ntmps63
 go_wp2_with fail
 go_loopw [2] (fun m wr=>DrainIn w H wv ev rv qv rg d m wr) (fun m wr=>drainMu H m wr)
 case atStart=>exact .inl ⟨1999,d,rfl,CSTo.refl HC.out (Keeps.refl _ _),rfl,by have:=HC.out.ok.c0;omega, .inl rfl⟩
 case round=>
  rcases hrel with ⟨n,d1,rfl,ht,he,hn,hg⟩ | ⟨rfl,ht⟩
  ·obtain ⟨wv1,ev1,C1,k1,o1⟩:=ht
   have HMU:=Hz (drainMu_of C1 true)
   have HC1:=Hz C1;have K1:=Hz k1;have O1:=Hz o1;have HE:=Hz he;have HN:=Hz hn;have HGR:=Hz hg
   clear C1 k1 o1 he hn hg
   obtain ⟨w1,rfl⟩:∃ x:World,x=wr:=⟨wr,rfl⟩
   go_wp2_with fail
   go_loopw [12] (fun _ wr=>ScanI w1 H wv1 ev1 rv qv rg d1 wr) (fun _ wr=>(3000-cellI wr H.pc 2).toNat)
   case atStart=>exact ⟨2000,d1.s,d1.c,CSTo.refl HC1.out (Keeps.refl _ _),rfl,by have:=HC1.out.ok.c0;omega⟩
   case round=>
    obtain ⟨m,s2,c2,⟨wv2,ev2,C2,k2,o2⟩,he2,hm2⟩:=hrel
    have HC2:=Hz C2;have K2:=Hz k2;have O2:=Hz o2;have HE2:=Hz he2;have HM2:=Hz hm2
    have q2:=C2.J.cells.2.2.1
    have HQ:=Hz (cellI_of q2)
    have cl:=C2.J.hc.lt
    have b0:=C2.ok.c0;have b1:=C2.ok.c1;have g3:=C2.ok.ok.h3;have g4:=C2.ok.ok.h4
    dsimp only at q2 b0 b1 g3 g4 HQ
    clear C2 k2 o2 he2 hm2
    by_cases hlt:c2<s2.A.grn
    ·have hd:decide (c2<(s2.A.grn:Int))=true:=by simpa using hlt
     have HLT:=Hz hlt
     have hf:=s2.A.thing_fields c2
     have hsum:IntKind.i64.wrap (c2+(1+(s2.A.thing c2).2.1))=c2+(1+(s2.A.thing c2).2.1):=IntWalk.i64_in _ (by omega)
     have HF:=Hz hf
     clear hlt hf
     go_wp2_with fail
     refine wp_region_ro (.free 0 (.free 1 (.free 2 (.free 4 (.pure 3 (.run 5 (.free 6 (.fin)))))))) [] (fun w'=>w'.cell? ⟨H.pc,2,none⟩=some (.int .i64 c2)) (by kernel_rfl) (by kernel_rfl) q2 ?_
     iterate 5 first | (refine wpRO_free rfl rfl _ (fun w'=>by go_simp;exact Gives.mk _ _) (fun K hK=>?_);go_simp;refine hK _ ?_;clear hK K) | (refine wpRO_skipF rfl rfl (fun K hK=>?_);go_simp;refine hK _ ?_;clear hK K) | (refine wpRO_pure rfl rfl _ (fun w' hG=>by obtain g0:=hG;exact gives_agg2 rfl (by decide +kernel) rfl (by assumption) (by assumption)) (fun K hK=>?_);go_simp;refine hK _ ?_;clear hK K) | (refine wpRO_pure rfl rfl _ (fun w' hG=>by obtain g0:=hG;go_simp;exact Gives.mk _ _) (fun K hK=>?_);go_simp;refine hK _ ?_;clear hK K) | (refine wpRO_skip rfl rfl (fun K hK=>?_);go_simp;refine hK _ ?_;clear hK K)
     refine wpRO_run rfl rfl (fun K hK=>?_);unfold gRun;go_simp
     refine (mTop_c (HC2.out.same ((Kz wr).drew)).J HC2.out.nb).mono ?_
     rintro e w3 ⟨rfl,hk⟩
     have HC3:=Hz (HC2.out.same ((Kz wr).drew.trans hk))
     have K3:=Hz (K2.out.trans (((Kz wr).drew.trans hk).mono (fun _ _ h=>h.elim)))
     refine hK _ _ (fun _=>HC3.out.J.cells.2.2.1) ?_
     clear hK K hk q2 cl
     iterate 1 first | (refine wpRO_free rfl rfl _ (fun w'=>by go_simp;exact Gives.mk _ _) (fun K hK=>?_);go_simp;refine hK _ ?_;clear hK K) | (refine wpRO_skipF rfl rfl (fun K hK=>?_);go_simp;refine hK _ ?_;clear hK K)
     refine wpRO_fin ?_
     have q2:=HC3.out.J.cells.2.2.1;have cl:=HC3.out.J.hc.lt
     dsimp only at q2
     go_wp2_with fail
     refine wp_region_ro (.free 0 (.free 1 (.free 2 (.free 4 (.free 5 (.free 6 (.free 7 (.pure 3 (.pure 8 (.run 9 (.free 10 (.free 11 (.free 12 (.run 13 (.swi [] (.fin)))))))))))))))) [13] (fun w'=>w'.cell? ⟨H.pc,2,none⟩=some (.int .i64 c2)) (by kernel_rfl) (by kernel_rfl) q2 ?_
     iterate 9 first | (refine wpRO_free rfl rfl _ (fun w'=>by go_simp;exact Gives.mk _ _) (fun K hK=>?_);go_simp;refine hK _ ?_;clear hK K) | (refine wpRO_skipF rfl rfl (fun K hK=>?_);go_simp;refine hK _ ?_;clear hK K) | (refine wpRO_pure rfl rfl _ (fun w' hG=>by obtain g0:=hG;exact gives_agg2 rfl (by decide +kernel) rfl (by assumption) (by assumption)) (fun K hK=>?_);go_simp;refine hK _ ?_;clear hK K) | (refine wpRO_pure rfl rfl _ (fun w' hG=>by obtain g0:=hG;go_simp;exact Gives.mk _ _) (fun K hK=>?_);go_simp;refine hK _ ?_;clear hK K) | (refine wpRO_skip rfl rfl (fun K hK=>?_);go_simp;refine hK _ ?_;clear hK K)
     refine wpRO_run rfl rfl (fun K hK=>?_);unfold gRun;go_simp
     have HC4:=Hz (HC3.out.same ((Kz w3).drew))
     have K4:=Hz (K3.out.trans ((Kz w3).drew.mono (fun _ _ h=>h.elim)))
     refine (mLook_c c2 HC4.out.J b0 b1 (by have:=HC4.out.ok.ms.len;dsimp only at this ⊢;omega)).mono ?_
     rintro e w5 ⟨rfl,t⟩
     obtain ⟨wv5,ev5,J5,k5,o5⟩:=t
     have HJ5:=Hz J5
     have K5:=Hz k5;have O5:=Hz o5
     refine hK _ _ (fun _=>J5.cells.2.2.1) ?_
     clear hK K J5 k5 o5 q2 cl
     have q2:=HJ5.out.cells.2.2.1;have cl:=HJ5.out.hc.lt;have fz:=HJ5.out.hc.free 2
     iterate 3 first | (refine wpRO_free rfl rfl _ (fun w'=>by go_simp;exact Gives.mk _ _) (fun K hK=>?_);go_simp;refine hK _ ?_;clear hK K) | (refine wpRO_skipF rfl rfl (fun K hK=>?_);go_simp;refine hK _ ?_;clear hK K)
     refine wpRO_chg rfl rfl rfl (fun K hK=>?_);unfold gRun;go_simp
     refine hK _ _ ?_
     clear hK K
     refine wpRO_swi (fun _=>True) trivial (wpRO_fin ?_)
     clear q2 cl fz
     have T6:=Hz (CutTo.join K5.out O5.out (HJ5.out.setC (c2+(1+(s2.A.thing c2).2.1))))
     have T7:=Hz (CSTo.join K4.out O2.out (HC4.out.cut T6.out (HC4.out.ok.look HLT.out) (Sm.look HC4.out.ok.ok c2).nur))
     obtain ⟨wv7,ev7,C7,-,-⟩:=T7.out
     have HC7:=Hz (cellI_of C7.J.cells.2.2.1)
     clear C7
     go_wp2_with fail
     go_roundw
     case rel=>
      refine ⟨m-1,_,_,T7.out,?_,?_⟩
      ·rw [HE2.out]
       obtain ⟨m,rfl⟩:∃ k,m=k+1:=⟨m-1,by have:=HM2.out;have:=HLT.out;omega⟩
       exact mScan_step m HLT.out
      ·have:=HM2.out;have:=HF.out;have:=HLT.out;omega
     case measure=>
      have h1:=HQ.out;have h2:=HC7.out;have h3:=HF.out
      try dsimp only at h2
      rw [h1,h2];omega
    ·have hstop:=mScan_stop m hlt
     have hd:decide (c2<(s2.A.grn:Int))=false:=by simpa using hlt
     have HSC:=Hz (HE2.out.trans hstop)
     have HLT:=Hz hlt
     clear hlt hstop HQ HE2 HM2
     go_wp2_with fail
     refine wp_region_ro (.free 0 (.free 1 (.free 2 (.free 4 (.pure 3 (.run 5 (.free 6 (.fin)))))))) [] (fun w'=>w'.cell? ⟨H.pc,2,none⟩=some (.int .i64 c2)) (by kernel_rfl) (by kernel_rfl) q2 ?_
     iterate 5 first | (refine wpRO_free rfl rfl _ (fun w'=>by go_simp;exact Gives.mk _ _) (fun K hK=>?_);go_simp;refine hK _ ?_;clear hK K) | (refine wpRO_skipF rfl rfl (fun K hK=>?_);go_simp;refine hK _ ?_;clear hK K) | (refine wpRO_pure rfl rfl _ (fun w' hG=>by obtain g0:=hG;exact gives_agg2 rfl (by decide +kernel) rfl (by assumption) (by assumption)) (fun K hK=>?_);go_simp;refine hK _ ?_;clear hK K) | (refine wpRO_pure rfl rfl _ (fun w' hG=>by obtain g0:=hG;go_simp;exact Gives.mk _ _) (fun K hK=>?_);go_simp;refine hK _ ?_;clear hK K) | (refine wpRO_skip rfl rfl (fun K hK=>?_);go_simp;refine hK _ ?_;clear hK K)
     refine wpRO_run rfl rfl (fun K hK=>?_);unfold gRun;go_simp
     refine (mTop_c (HC2.out.same ((Kz wr).drew)).J HC2.out.nb).mono ?_
     rintro e w3 ⟨rfl,hk⟩
     have HC3:=Hz (HC2.out.same ((Kz wr).drew.trans hk))
     have K3:=Hz (K2.out.trans (((Kz wr).drew.trans hk).mono (fun _ _ h=>h.elim)))
     refine hK _ _ (fun _=>HC3.out.J.cells.2.2.1) ?_
     clear hK K hk q2 cl
     iterate 1 first | (refine wpRO_free rfl rfl _ (fun w'=>by go_simp;exact Gives.mk _ _) (fun K hK=>?_);go_simp;refine hK _ ?_;clear hK K) | (refine wpRO_skipF rfl rfl (fun K hK=>?_);go_simp;refine hK _ ?_;clear hK K)
     refine wpRO_fin ?_
     clear HC2 K2
     obtain ⟨eo,ec,hev,-,-,-⟩:=HC3.out.J.he.rd
     dsimp only at hev
     subst hev
     have q4:=HC3.out.J.cells.2.2.2.2.1;have cl:=HC3.out.J.hc.lt
     try dsimp only at q4
     have heb:=HC3.out.ok.ms.eb;have hel:=HC3.out.ok.ms.len
     try dsimp only at heb hel
     have HEB:=Hz heb
     clear heb
     go_wp2_with fail
     go_loopw [31] (fun u wr=>∃ k:Nat,k≤s2.ep.length∧u=.int .i64 k∧ArenaTo w3 H.pa H.g wr (mEph s2.A (s2.ep.take k))) (fun u _=>s2.ep.length-(intOf u).toNat)
     case atStart=>exact ⟨0,Nat.zero_le _,rfl,ArenaTo.refl HC3.out.J.ha (Keeps.refl _ _)⟩
     case round=>
      clear q4 cl
      obtain ⟨k,hk,rfl,t⟩:=hrel
      have T:=Hz t
      have JR:=Hz (HC3.out.J.arena t)
      clear t
      by_cases hlt:k<s2.ep.length
      ·obtain ⟨_,_,e',rd,-,-⟩:=JR.out.he.rd
       cases e'
       obtain ⟨ge,oe,rfl,d0⟩:=rd.int k hlt
       have hgl:=(JR.out.he.own rfl).1
       have hin:=HEB.out (s2.ep.getD k 0) (by rw [List.getD_eq_getElem?_getD,List.getElem?_eq_getElem hlt];exact List.getElem_mem hlt)
       have HTK:=Hz (show mEph s2.A (s2.ep.take (k+1))=mEph1 (mEph s2.A (s2.ep.take k)) (s2.ep.getD k 0) by
        unfold mEph
        rw [←List.take_append_getElem hlt,List.foldl_append,List.getD_eq_getElem?_getD,List.getElem?_eq_getElem hlt];rfl)
       generalize s2.ep.getD k 0=i at *
       generalize mEph s2.A (s2.ep.take k)=B at *
       have hi1:IntKind.i64.wrap (i+1)=i+1:=IntWalk.i64_in _ (by omega)
       have hi2:IntKind.i64.wrap (i+2)=i+2:=IntWalk.i64_in _ (by omega)
       have c0:=JR.out.cells.1;have p0:=JR.out.cells.2.2.2.2.2.1;have pl:=JR.out.hp.lt;have cl:=JR.out.hc.lt
       clear rd
       go_wp2_with fail
       refine (Load_c (i+1) _ JR.out.ha).mono ?_
       rintro e w4 ⟨rfl,rfl⟩
       go_wp2_with fail
       refine (mAlive_c (B.load (i+1)) JR.out).mono ?_
       rintro e w4 ⟨rfl,rfl⟩
       clear c0 p0 pl cl d0
       cases hal:mAlive B (B.load (i+1))
       ·have HAL:=Hz hal
        clear hal
        go_wp2_with fail
        go_roundw
        case rel=>exact ⟨k+1,hlt,by go_num,by rw [HTK.out,mEph1,if_neg (by rw [HAL.out];decide)];exact T.out⟩
        case measure=>simp [intOf];omega
       ·have HAL:=Hz hal
        clear hal
        go_wp2_with fail
        refine (mField_c (i+1) JR.out).mono ?_
        rintro e w4 ⟨rfl,t⟩
        have T4:=Hz t
        have J4:=Hz (JR.out.arena t)
        clear t
        go_wp2_with fail
        refine (mField_c (i+2) J4.out).mono ?_
        rintro e w5 ⟨rfl,t⟩
        have T5:=Hz (T.out.trans (T4.out.trans t))
        clear t
        go_wp2_with fail
        go_roundw
        case rel=>exact ⟨k+1,hlt,by go_num,by rw [HTK.out,mEph1,if_pos HAL.out];exact T5.out⟩
        case measure=>simp [intOf];omega
      ·obtain rfl:k=s2.ep.length:=by omega
       rw [List.take_length] at T JR
       have hsm:=Sm.eph s2.ep HC3.out.ok.ok
       have C4:=Hz (show CS wr H wv2 (.slice eo s2.ep.length ec) rv qv rg ⟨{ s2 with A:=mEph s2.A s2.ep },c2,d1.q⟩ from by
        obtain ⟨a,b,J4,k4,o4⟩:=HC3.out.J.arenaTo T.out
        exact ⟨JR.out,HC3.out.S.keep k4 (fun b hb hk=>HC3.out.J.side_apart HC3.out.S hk hb),HC3.out.ok.arena hsm.ok,HC3.out.q,by rw [HC3.out.nb];exact congrArg (fun x:Nat=>(x:Int)) hsm.nur.symm,HC3.out.ql⟩)
       have KA:=Hz (show Keeps (H.Own wv2 (.slice eo s2.ep.length ec)) w3 wr from T.out.k.mono (fun k _ hk=>hk.elim (fun h=>.inr (.inl h)) (fun h=>.inr (.inr (.inl h)))))
       clear T JR hsm
       generalize hA2:mEph s2.A s2.ep=A2 at C4
       have HA2:=Hz hA2
       clear hA2
       have c0:=C4.out.J.cells.1;have p2:=C4.out.J.cells.2.2.2.2.2.2.2.1;have pl:=C4.out.J.hp.lt;have cl:=C4.out.J.hc.lt
       go_wp2_with fail
       refine wp_region_ro (.free 0 (.free 1 (.free 2 (.free 7 (.pure 3 (.free 4 (.free 5 (.pure 6 (.run 8 (.run 9 (.swi [] (.fin)))))))))))) [9] (fun w'=>w'.cell? ⟨H.pc,0,none⟩=some (.pointer (some ⟨H.p,0,none⟩))∧w'.cell? ⟨H.p,2,none⟩=some (.pointer (some ⟨H.ps,0,none⟩))) (by kernel_rfl) (by kernel_rfl) ⟨c0,p2⟩ ?_
       iterate 8 first | (refine wpRO_free rfl rfl _ (fun w'=>by go_simp;exact Gives.mk _ _) (fun K hK=>?_);go_simp;refine hK _ ?_;clear hK K) | (refine wpRO_skipF rfl rfl (fun K hK=>?_);go_simp;refine hK _ ?_;clear hK K) | (refine wpRO_pure rfl rfl _ (fun w' hG=>by obtain ⟨g0,g1⟩:=hG;exact gives_agg2 rfl (by decide +kernel) rfl (by assumption) (by assumption)) (fun K hK=>?_);go_simp;refine hK _ ?_;clear hK K) | (refine wpRO_pure rfl rfl _ (fun w' hG=>by obtain ⟨g0,g1⟩:=hG;go_simp;exact Gives.mk _ _) (fun K hK=>?_);go_simp;refine hK _ ?_;clear hK K) | (refine wpRO_skip rfl rfl (fun K hK=>?_);go_simp;refine hK _ ?_;clear hK K)
       refine wpRO_run rfl rfl (fun K hK=>?_);unfold gRun;go_simp
       refine (mLiving_c (C4.out.J.same ((Kz wr).drew))).mono ?_
       rintro e w4 ⟨rfl,hk⟩
       have C5:=Hz (C4.out.same ((Kz wr).drew.trans hk))
       have K5:=Hz ((Kz wr).drew.trans hk)
       refine hK _ _ (fun _=>⟨C5.out.J.cells.1,C5.out.J.cells.2.2.2.2.2.2.2.1⟩) ?_
       clear hK K hk c0 p2 pl cl C4
       skip
       refine wpRO_chg rfl rfl rfl (fun K hK=>?_);unfold gRun;go_simp
       refine (Wake_c H.ps (mWakeL H wv2 (.slice eo s2.ep.length ec) s2.wk s2.ep c2) mKp (fun _ _ _=>rfl) A2 (H.Own wv2 (.slice eo s2.ep.length ec)) rv qv rg d1.q w4 (fun _ _ h _=>h) ⟨C5.out.J,rfl⟩ C5.out.S (fun k hk=>C5.out.J.side_apart C5.out.S hk.1 hk.2) C5.out.ql (fun e he=>C5.out.q e he)).mono ?_
       rintro e w6 ⟨rfl,F6,hJ6,hS6,-,hk6,-,-⟩
       refine hK _ _ ?_
       clear hK K
       refine wpRO_swi (fun _=>True) trivial (wpRO_fin ?_)
       obtain ⟨⟨A3,q3,b3⟩,hW⟩:∃ t,wakeM mAlive mKp A2 d1.q=t:=⟨_,rfl⟩
       have hsw:=Sm.wake d1.q C5.out.ok.ok
       have hqw:=QOk.wake d1.q (A:=A2) C5.out.q
       have hlw:=wakeM_len mAlive mKp d1.q A2
       dsimp only at hsw hqw hlw
       replace hJ6:CutJ w6 H wv2 (.slice eo s2.ep.length ec) ⟨(wakeM mAlive mKp A2 d1.q).1,s2.wk,s2.ep⟩ c2:=hJ6.1
       replace hS6:SideAt w6 H.ps rv qv rg (wakeM mAlive mKp A2 d1.q).2.1:=hS6
       replace hk6:Keeps (fun b=>H.Own wv2 (.slice eo s2.ep.length ec) b∨SideFp H.ps rv qv b) w4 w6:=hk6
       rw [hW] at hsw hqw hlw hJ6 hS6
       dsimp only at hsw hqw hlw hJ6 hS6
       have HRD:=Hz (mRound_of HSC.out HA2.out hW)
       have C6:=Hz (show CS w6 H wv2 (.slice eo s2.ep.length ec) rv qv rg (mRound d1) by
        rw [HRD.out]
        exact ⟨hJ6,hS6,C5.out.ok.arena hsw.ok,hqw,by rw [hsw.nur];exact C5.out.nb,by dsimp only;rw [hlw];exact C5.out.ql⟩)
       have T6:=Hz (show CSTo w H wv ev rv qv rg (mRound d1) w6 from CSTo.join K1.out O1.out ⟨wv2,_,C6.out,by
        have k1:Keeps (fun k=>H.Own wv1 ev1 k∨SideFp H.ps rv qv k) w1 w3:=K3.out
        have k2:Keeps (fun k=>H.Own wv2 (.slice eo s2.ep.length ec) k∨SideFp H.ps rv qv k) w3 w6:=((KA.out.mono (fun _ _ h=>.inl h)).trans (K5.out.mono (fun _ _ h=>h.elim))).trans hk6
        exact k1.then k2 (fun k hk=>by
         rcases hk with hk | hk
         ·exact (O2.out k hk).imp .inl id
         ·exact .inl (.inr hk)),O2.out⟩)
       have HG:=Hz (show (mRound d1).s.A.grn=A3.grn∧(mRound d1).c=c2 by rw [HRD.out];exact ⟨rfl,rfl⟩)
       clear hW hsw hqw hlw hJ6 hS6 hk6 C5 K5 KA HA2 HSC HRD hel
       have q2:=C6.out.J.cells.2.2.1;have cl:=C6.out.J.hc.lt
       rw [HG.out.2] at q2
       go_wp2_with fail
       refine wp_region_ro (.free 0 (.free 1 (.free 2 (.free 4 (.pure 3 (.run 5 (.free 6 (.free 7 (.fin))))))))) [] (fun w'=>w'.cell? ⟨H.pc,2,none⟩=some (.int .i64 c2)) (by kernel_rfl) (by kernel_rfl) q2 ?_
       iterate 5 first | (refine wpRO_free rfl rfl _ (fun w'=>by go_simp;exact Gives.mk _ _) (fun K hK=>?_);go_simp;refine hK _ ?_;clear hK K) | (refine wpRO_skipF rfl rfl (fun K hK=>?_);go_simp;refine hK _ ?_;clear hK K) | (refine wpRO_pure rfl rfl _ (fun w' hG=>by obtain g0:=hG;exact gives_agg2 rfl (by decide +kernel) rfl (by assumption) (by assumption)) (fun K hK=>?_);go_simp;refine hK _ ?_;clear hK K) | (refine wpRO_pure rfl rfl _ (fun w' hG=>by obtain g0:=hG;go_simp;exact Gives.mk _ _) (fun K hK=>?_);go_simp;refine hK _ ?_;clear hK K) | (refine wpRO_skip rfl rfl (fun K hK=>?_);go_simp;refine hK _ ?_;clear hK K)
       refine wpRO_run rfl rfl (fun K hK=>?_);unfold gRun;go_simp
       refine (mTop_c (C6.out.same ((Kz w6).drew)).J C6.out.nb).mono ?_
       rintro e w7 ⟨rfl,hk⟩
       have K7:=Hz ((Kz w6).drew.trans hk)
       have C7:=Hz (C6.out.same K7.out)
       refine hK _ _ (fun _=>by have:=C7.out.J.cells.2.2.1;rw [HG.out.2] at this;exact this) ?_
       clear hK K hk q2 cl
       rw [HG.out.1]
       have T7:=Hz (show CSTo w H wv ev rv qv rg (mRound d1) w7 by
        obtain ⟨a,b,c,k,o⟩:=T6.out
        exact ⟨a,b,c.same K7.out,k.trans (K7.out.mono (fun _ _ h=>h.elim)),o⟩)
       have HRO:=Hz (ScOk.round HC1.out.ok);have HSR:=Hz (Sm.round d1 HC1.out.ok.ok).grn
       have HD1:=Hz (And.intro HC1.out.ok.c1 (And.intro HC1.out.ok.ok.h3 HC1.out.ok.ok.h4))
       have HD2:=Hz (And.intro C7.out.ok.c1 (And.intro C7.out.ok.ok.h3 C7.out.ok.ok.h4))
       by_cases hmore:c2<A3.grn
       ·have hd:decide (c2<(A3.grn:Int))=true:=by simpa using hmore
        have HM:=Hz (show (mRound d1).c<(mRound d1).s.A.grn by rw [HG.out.1,HG.out.2];exact hmore)
        have HMU7:=Hz (drainMu_of C7.out true)
        clear hmore
        iterate 2 first | (refine wpRO_free rfl rfl _ (fun w'=>by go_simp;exact Gives.mk _ _) (fun K hK=>?_);go_simp;refine hK _ ?_;clear hK K) | (refine wpRO_skipF rfl rfl (fun K hK=>?_);go_simp;refine hK _ ?_;clear hK K)
        refine wpRO_fin ?_
        go_wp2_with fail
        go_roundw
        case rel=>
         refine .inl ⟨n-1,mRound d1,rfl,T7.out,?_,?_, .inr HM.out⟩
         ·rw [HE.out]
          obtain ⟨n,rfl⟩:∃ k,n=k+1:=⟨n-1,by have:=HN.out;have:=HD1.out;omega⟩
          exact mDrain_more _ HM.out
         ·have h1:=HN.out;have h2:=HRO.out;have h3:=HGR.out;have h4:=HD1.out
          rcases h3 with h3 | h3
          ·have:=h2.1.c0;omega
          ·have:=h2.2.2 h3;omega
        case measure=>
         have h1:=HMU.out;have h2:=HMU7.out;have h3:=HRO.out;have h4:=HSR.out;have h5:=HM.out;have h6:=HD1.out;have h7:=HD2.out
         rw [h1,h2]
         have:=h3.2.1
         by_cases hq:d1.c<d1.s.A.grn
         ·have:=h3.2.2 hq;simp only [if_true];omega
         ·simp only [if_true];omega
       ·have hd:decide (c2<(A3.grn:Int))=false:=by simpa using hmore
        have HM:=Hz (show ¬ (mRound d1).c<(mRound d1).s.A.grn by rw [HG.out.1,HG.out.2];exact hmore)
        have HMU7:=Hz (drainMu_of C7.out false)
        clear hmore
        iterate 2 first | (refine wpRO_free rfl rfl _ (fun w'=>by go_simp;exact Gives.mk _ _) (fun K hK=>?_);go_simp;refine hK _ ?_;clear hK K) | (refine wpRO_skipF rfl rfl (fun K hK=>?_);go_simp;refine hK _ ?_;clear hK K)
        refine wpRO_fin ?_
        go_wp2_with fail
        go_roundw
        case rel=>exact .inr ⟨rfl,by rw [HE.out,mDrain_last _ HM.out];exact T7.out⟩
        case measure=>
         have h1:=HMU.out;have h2:=HMU7.out;have h3:=HRO.out;have h4:=HSR.out;have h6:=HD1.out;have h7:=HD2.out
         rw [h1,h2]
         have:=h3.2.1
         simp only [if_true,Bool.false_eq_true,if_false];omega
  ·have HT:=Hz ht
   clear ht
   go_wp2_with fail
   go_end0
   exact ⟨rfl,HT.out⟩
end
end
section
open Go.RowKit
section
variable {w w':World} {H:CH} {wv ev rv qv:Value} {rg:List (Int × Int)} {d:Md} {s:Ms} {c:Int}
abbrev PcAt (w:World) (b:Nat) (H:CH):Prop:=Blk w b [.pointer (some ⟨H.pc,0,none⟩)] 106
def SavedRet (w:World) (H:CH) (e:Ending) (w':World):Prop:=
 ∃ b,e=.returned (.agg #[.func (.func 92) #[.pointer (some ⟨H.pc,0,none⟩)] #[], .func (.func 98) #[] #[.pointer (some ⟨b,0,none⟩)], .func (.func 94) #[.pointer (some ⟨H.pc,0,none⟩)] #[]]) ∧
  PcAt w' b H∧Keeps (fun _=>False) w w'∧w.heap.size≤b
theorem mSaved_c (J:CutJ w H wv ev s c) :
  Calls Try.prog 65 #[.pointer (some ⟨H.pc,0,none⟩)] w (SavedRet w H):=by
 have HJ:=Hz J
 clear J
 go_enter Try.func65,Try.ntmps65
 go_wp2_with fail
 generalize hwa:(w.alloc (.cells #[.pointer (some ⟨H.pc,0,none⟩)] 106)).alloc (.cells #[.nilFunc, .nilFunc, .nilFunc] 116)=wa
 have HB:=Hz (show PcAt wa w.heap.size H by rw [←hwa];exact Blk.alloc (Blk.newAt _ rfl rfl) _)
 have HR:=Hz (show Blk wa (w.heap.size+1) [.nilFunc, .nilFunc, .nilFunc] 116 by rw [←hwa];exact Blk.newAt _ (by simp) rfl)
 have HK:=Hz (show Keeps (fun _=>False) w wa by rw [←hwa];exact ((Keeps.refl _ _).alloc _).alloc _)
 clear hwa
 refine (mLiving_c (HJ.out.same HK.out)).mono ?_
 rintro e w1 ⟨rfl,hk⟩
 have HB1:=Hz (hk.blk HB.out (fun h=>h));have HR1:=Hz (hk.blk HR.out (fun h=>h));have HK1:=Hz (HK.out.trans hk)
 clear hk HB HR HK
 unfold mLivV
 have r0:=HR1.out.cell 0;have r1:=HR1.out.cell 1;have r2:=HR1.out.cell 2;have rl:=HR1.out.lt;have f0:=HR1.out.free 0;have f1:=HR1.out.free 1;have f2:=HR1.out.free 2
 simp only [List.getElem?_cons_zero,List.getElem?_cons_succ] at r0 r1 r2
 go_wp2_with fail
 have hb3:=(((HR1.out.setSame 0 (.func (.func 92) #[.pointer (some ⟨H.pc,0,none⟩)] #[])).setSame 1 (.func (.func 98) #[] #[.pointer (some ⟨w.heap.size,0,none⟩)])).setSame 2 (.func (.func 94) #[.pointer (some ⟨H.pc,0,none⟩)] #[])).alloc (.cells #[.func (.func 92) #[.pointer (some ⟨H.pc,0,none⟩)] #[], .func (.func 98) #[] #[.pointer (some ⟨w.heap.size,0,none⟩)], .func (.func 94) #[.pointer (some ⟨H.pc,0,none⟩)] #[]] 116)
 have hk3:=((((Keeps.refl (·=w.heap.size+1) w1).setCell (p:=⟨w.heap.size+1,0,none⟩) (.inl rfl) (.func (.func 92) #[.pointer (some ⟨H.pc,0,none⟩)] #[])).setCell (p:=⟨w.heap.size+1,1,none⟩) (.inl rfl) (.func (.func 98) #[] #[.pointer (some ⟨w.heap.size,0,none⟩)])).setCell (p:=⟨w.heap.size+1,2,none⟩) (.inl rfl) (.func (.func 94) #[.pointer (some ⟨H.pc,0,none⟩)] #[])).alloc (.cells #[.func (.func 92) #[.pointer (some ⟨H.pc,0,none⟩)] #[], .func (.func 98) #[] #[.pointer (some ⟨w.heap.size,0,none⟩)], .func (.func 94) #[.pointer (some ⟨H.pc,0,none⟩)] #[]] 116)
 have l0:=hb3.cell 0;have l1:=hb3.cell 1;have l2:=hb3.cell 2
 simp only [List.getElem?_cons_zero,List.getElem?_cons_succ,List.set_cons_zero,List.set_cons_succ] at l0 l1 l2
 refine bodyPost_ret (v:=.agg #[.func (.func 92) #[.pointer (some ⟨H.pc,0,none⟩)] #[], .func (.func 98) #[] #[.pointer (some ⟨w.heap.size,0,none⟩)], .func (.func 94) #[.pointer (some ⟨H.pc,0,none⟩)] #[]]) (by simp [results,Try.results65,go_sem,l0,l1,l2]) rfl ⟨w.heap.size,rfl,hk3.blk HB1.out (by omega),HK1.out.then hk3 (fun k hk=>.inr (by omega)),Nat.le_refl _⟩
theorem mSaved1_c (x:Int) (b:Nat) (C:CS w H wv ev rv qv rg d) (hb:PcAt w b H) :
  Calls Try.prog 98 #[.int .i64 x, .pointer (some ⟨b,0,none⟩)] w fun e w'=>e=.returned (.int .i64 (mNow (mBring d.s.A x) x))∧CSTo w H wv ev rv qv rg (mDrain 2000 ⟨{ d.s with A:=mBring d.s.A x },d.c,d.q⟩) w':=by
 have HC:=Hz C;have HB:=Hz hb
 have b0:=hb.cell 0;have bl:=hb.lt
 simp only [List.getElem?_cons_zero] at b0
 clear C hb
 go_enter Try.func98,Try.ntmps98
 go_wp2_with fail
 refine (mBring_c x HC.out.J).mono ?_
 rintro e w1 ⟨rfl,t⟩
 have hsm:=Sm.bring HC.out.ok.ok x
 obtain ⟨a1,b1,J1,k1,o1⟩:=HC.out.J.arenaTo t
 have C1:=Hz (show CS w1 H wv ev rv qv rg ⟨{ d.s with A:=mBring d.s.A x },d.c,d.q⟩ from
  ⟨HC.out.J.arena t,HC.out.S.keep k1 (fun b hb hk=>HC.out.J.side_apart HC.out.S hk hb),HC.out.ok.arena hsm.ok,HC.out.q,by rw [HC.out.nb];exact congrArg (fun x:Nat=>(x:Int)) hsm.nur.symm,HC.out.ql⟩)
 have K1:=Hz (show Keeps (H.Own wv ev) w w1 from k1)
 have HB1:=Hz (show PcAt w1 b H from k1.blk HB.out (fun h=>by
  obtain ⟨_,T,h',hT⟩:=HC.out.J.own_type h
  refine HB.out.ne h' ?_ rfl
  rcases hT with rfl | rfl | rfl | rfl | rfl <;> decide))
 clear b0 bl t hsm J1 k1 o1
 have b0:=HB1.out.cell 0;have bl:=HB1.out.lt
 simp only [List.getElem?_cons_zero] at b0
 go_wp2_with fail
 refine (mDrain_c C1.out).mono ?_
 rintro e w2 ⟨rfl,t⟩
 have T2:=Hz (CSTo.join (K1.out.mono (fun _ _ h=>.inl h)) (fun k hk=>.inl hk) t)
 clear t b0 bl
 go_wp2_with fail
 go_ret
 exact ⟨rfl,T2.out⟩
def mSettleL (H:CH) (b:Nat):Liv Try.prog H.ps Mt where
 J:=fun w t F=>∃ wv ev,CutJ w H wv ev t.1 t.2∧ScOk t.1 t.2∧H.base=t.1.A.nur∧PcAt w b H∧F=fun k=>H.Own wv ev k∨k=b
 D:=fun _ x=>R64 x
 DK:=fun _ x=>R64 x
 alive:=mtAlive
 keep:=mtKeep
 now:=mtNow
 fa:=92
 fk:=98
 fn:=94
 a1:=#[.pointer (some ⟨H.pc,0,none⟩)]
 a2:=#[]
 k1:=#[]
 k2:=#[.pointer (some ⟨b,0,none⟩)]
 n1:=#[.pointer (some ⟨H.pc,0,none⟩)]
 n2:=#[]
 ea:=fun args w=>by kernel_rfl
 ek:=fun args w=>by kernel_rfl
 en:=fun args w=>by kernel_rfl
 J_keep:=fun h k hn=>by
  obtain ⟨wv,ev,h1,h2,h3,h4,rfl⟩:=h
  exact ⟨wv,ev,h1.keep k (fun b hb=>hn b (.inl hb)),h2,h3,k.blk h4 (hn _ (.inr rfl)),rfl⟩
 J_lt:=fun h hk=>by
  obtain ⟨wv,ev,h1,h2,h3,h4,rfl⟩:=h
  rcases hk with hk | rfl
  ·exact h1.own_lt hk
  ·exact h4.lt
 alive_c:=fun w t F x hJ _=>by
  obtain ⟨wv,ev,h1,-⟩:=hJ
  exact (mAlive_c x h1).mono (by rintro e w' ⟨rfl,rfl⟩;exact ⟨rfl,Keeps.refl _ _⟩)
 now_c:=fun w t F x hJ _=>by
  obtain ⟨wv,ev,h1,-⟩:=hJ
  exact (mNow_c x h1).mono (by rintro e w' ⟨rfl,rfl⟩;exact ⟨rfl,Keeps.refl _ _⟩)
 keep_c:=fun w t F rv qv regs wait x hJ hS hA hx hq hl=>by
  obtain ⟨wv,ev,h1,h2,h3,h4,rfl⟩:=hJ
  refine (mSaved1_c (d:=⟨t.1,t.2,wait⟩) x b ⟨h1,hS,h2,fun e he=>hq e he,h3,hl⟩ h4).mono ?_
  rintro e w' ⟨rfl,wv',ev',C',k',o'⟩
  refine ⟨rfl,_,⟨wv',ev',C'.J,C'.ok,C'.nb,k'.blk h4 (fun h=>?_),rfl⟩,C'.S,fun k hk=>?_,k'.mono (fun k _ hk=>hk.elim (fun h=>.inl (.inl h)) .inr),fun k hk=>?_⟩
  ·rcases h with h | h
   ·obtain ⟨_,T,h',hT⟩:=h1.own_type h
    refine h4.ne h' ?_ rfl
    rcases hT with rfl | rfl | rfl | rfl | rfl <;> decide
   ·exact hA b ⟨.inr rfl,h⟩
  ·rcases hk with ⟨hk | hk,hs⟩
   ·exact C'.J.side_apart C'.S hk hs
   ·exact hA k ⟨.inr hk,hs⟩
  ·rcases hk with hk | hk
   ·exact (o' k hk).imp .inl id
   ·exact .inl (.inr hk)
 DK_D:=fun h=>h
 DK_keep:=fun _ h=>h
 D_keep:=fun _ h=>h
 D_new:=fun h=>mNow_R64 h
 D_wait:=fun {t wait x} _ h=>QOk.drain 2000 (d:=⟨{ t.1 with A:=mBring t.1.A x },t.2,wait⟩) h
 keep_len:=mDrain_len _ _
theorem mFix_c (i:Int) (q:Bool) (b:Nat) (J:CutJ w H wv ev s c) (hb:PcAt w b H) :
  Calls Try.prog 99 #[.int .i64 i, .bool q, .pointer (some ⟨b,0,none⟩)] w fun e w'=>e=.returned (.tuple #[])∧ArenaTo w H.pa H.g w' (mFix s.A i q):=by
 have HJ:=Hz J;have HB:=Hz hb
 have b0:=hb.cell 0;have bl:=hb.lt
 simp only [List.getElem?_cons_zero] at b0
 clear J hb
 obtain ⟨c0,-,-,-,-,p0,-,-,-⟩:=HJ.out.cells
 have pl:=HJ.out.hp.lt;have cl:=HJ.out.hc.lt
 have HD:=Hz (HJ.out.same ((Kz w).drew))
 cases q
 ·go_enter Try.func99,Try.ntmps99
  go_wp2_with fail
  refine wp_region_ro (.free 7 (.free 16 (.pure 0 (.free 1 (.free 2 (.pure 3 (.free 4 (.free 5 (.pure 6 (.pure 8 (.pure 9 (.free 10 (.free 11 (.pure 12 (.free 13 (.free 14 (.pure 15 (.run 17 (.run 18 (.run 19 (.swi [] (.fin)))))))))))))))))))))) [19] (fun w'=>w'.cell? ⟨b,0,none⟩=some (.pointer (some ⟨H.pc,0,none⟩))∧w'.cell? ⟨H.pc,0,none⟩=some (.pointer (some ⟨H.p,0,none⟩))∧w'.cell? ⟨H.p,0,none⟩=some (.pointer (some ⟨H.pa,0,none⟩))) (by kernel_rfl) (by kernel_rfl) ⟨b0,c0,p0⟩ ?_
  iterate 17 first | (refine wpRO_free rfl rfl _ (fun w'=>by go_simp;exact Gives.mk _ _) (fun K hK=>?_);go_simp;refine hK _ ?_;clear hK K) | (refine wpRO_skipF rfl rfl (fun K hK=>?_);go_simp;refine hK _ ?_;clear hK K) | (refine wpRO_pure rfl rfl _ (fun w' hG=>by obtain ⟨g0,g1,g2⟩:=hG;exact gives_agg2 rfl (by decide +kernel) rfl (by assumption) (by assumption)) (fun K hK=>?_);go_simp;refine hK _ ?_;clear hK K) | (refine wpRO_pure rfl rfl _ (fun w' hG=>by obtain ⟨g0,g1,g2⟩:=hG;go_simp;exact Gives.mk _ _) (fun K hK=>?_);go_simp;refine hK _ ?_;clear hK K) | (refine wpRO_skip rfl rfl (fun K hK=>?_);go_simp;refine hK _ ?_;clear hK K)
  refine wpRO_run rfl rfl (fun K hK=>?_);unfold gRun;go_simp
  refine (Load_c i _ HD.out.ha).mono ?_
  rintro e w1 ⟨rfl,rfl⟩
  refine hK _ _ (fun h=>h) ?_
  clear hK K
  refine wpRO_run rfl rfl (fun K hK=>?_);unfold gRun;go_simp
  refine (mNow_c (s.A.load i) HD.out).mono ?_
  rintro e w1 ⟨rfl,rfl⟩
  refine hK _ _ (fun h=>h) ?_
  clear hK K
  skip
  refine wpRO_chg rfl rfl rfl (fun K hK=>?_);unfold gRun;go_simp
  have HR:=Hz (mNow_R64 (A:=s.A) (HD.out.ha.ok.load i))
  refine (Store_c i _ _ HD.out.ha HR.out).mono ?_
  rintro e w3 ⟨rfl,t⟩
  have T2:=Hz (ArenaTo.from_same (w:=w) ((Kz w).drew) t)
  clear t
  refine hK _ _ ?_
  clear hK K c0 p0 pl cl
  refine wpRO_swi (fun _=>True) trivial (wpRO_fin ?_)
  go_wp2_with fail
  go_end0
  exact ⟨rfl,T2.out⟩
 ·go_enter Try.func99,Try.ntmps99
  go_wp2_with fail
  refine wp_region_ro (.free 7 (.pure 0 (.free 1 (.free 2 (.pure 3 (.free 4 (.free 5 (.pure 6 (.run 8 (.run 9 (.swi [] (.fin)))))))))))) [9] (fun w'=>w'.cell? ⟨b,0,none⟩=some (.pointer (some ⟨H.pc,0,none⟩))∧w'.cell? ⟨H.pc,0,none⟩=some (.pointer (some ⟨H.p,0,none⟩))∧w'.cell? ⟨H.p,0,none⟩=some (.pointer (some ⟨H.pa,0,none⟩))) (by kernel_rfl) (by kernel_rfl) ⟨b0,c0,p0⟩ ?_
  iterate 8 first | (refine wpRO_free rfl rfl _ (fun w'=>by go_simp;exact Gives.mk _ _) (fun K hK=>?_);go_simp;refine hK _ ?_;clear hK K) | (refine wpRO_skipF rfl rfl (fun K hK=>?_);go_simp;refine hK _ ?_;clear hK K) | (refine wpRO_pure rfl rfl _ (fun w' hG=>by obtain ⟨g0,g1,g2⟩:=hG;exact gives_agg2 rfl (by decide +kernel) rfl (by assumption) (by assumption)) (fun K hK=>?_);go_simp;refine hK _ ?_;clear hK K) | (refine wpRO_pure rfl rfl _ (fun w' hG=>by obtain ⟨g0,g1,g2⟩:=hG;go_simp;exact Gives.mk _ _) (fun K hK=>?_);go_simp;refine hK _ ?_;clear hK K) | (refine wpRO_skip rfl rfl (fun K hK=>?_);go_simp;refine hK _ ?_;clear hK K)
  refine wpRO_run rfl rfl (fun K hK=>?_);unfold gRun;go_simp
  refine (Gone_c _).mono ?_
  rintro e w1 ⟨rfl,rfl⟩
  refine hK _ _ (fun h=>h) ?_
  clear hK K
  skip
  refine wpRO_chg rfl rfl rfl (fun K hK=>?_);unfold gRun;go_simp
  refine (Store_c i 3 _ HD.out.ha (by unfold R64;omega)).mono ?_
  rintro e w3 ⟨rfl,t⟩
  have T2:=Hz (ArenaTo.from_same (w:=w) ((Kz w).drew) t)
  clear t
  refine hK _ _ ?_
  clear hK K c0 p0 pl cl
  refine wpRO_swi (fun _=>True) trivial (wpRO_fin ?_)
  go_wp2_with fail
  go_end0
  exact ⟨rfl,T2.out⟩
end
end
end Go.Proofs.Ytjifdalflepcoac
