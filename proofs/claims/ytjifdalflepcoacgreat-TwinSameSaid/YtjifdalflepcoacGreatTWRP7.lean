/-
  Parts of the proof, merged: what the functions do, and plain laws.
-/
import Derived.Lib.AppendZeros
import Derived.Test.YtjifdalflepcoacGreatTWRP5
set_option maxHeartbeats 16000000
set_option maxRecDepth 100000
set_option linter.unusedVariables false
set_option linter.unusedSimpArgs false
namespace Go.Proofs.YtjifdalflepcoacGreat
section
open Go.RowKit
theorem yQ (x:Int):bits .or .i64 (IntKind.i64.wrap (x*4)) 1=IntKind.i64.wrap (4*x+1):=by
 have h1:(BitVec.ofInt 64 1).toNat=1:=by decide
 have key:(BitVec.ofInt 64 (IntKind.i64.wrap (x*4)) ||| BitVec.ofInt 64 1).toNat=((4*x)%18446744073709551616).toNat+1:=by
  rw [BitVec.toNat_or,BitVec.toNat_ofInt,h1];have e:(IntKind.i64.wrap (x*4)%((2 ^ 64:Nat):Int)).toNat=(((4*x)%18446744073709551616).toNat/4) <<< 2:=by
   rw [IntKind.wrap_i64,Nat.shiftLeft_eq];omega
  rw [e,←Nat.shiftLeft_add_eq_or_of_lt (by decide:1<2 ^ 2),Nat.shiftLeft_eq];omega
 show IntKind.i64.wrap ((BitVec.ofInt 64 (IntKind.i64.wrap (x*4)) ||| BitVec.ofInt 64 1).toNat:Nat)=_
 rw [key,IntKind.wrap_i64,IntKind.wrap_i64];omega
theorem vu (x:Int) (w:World) :
  Calls Tryz.prog 24 #[.int .i64 x] w fun e w'=>e=.returned (.int .i64 (g8 x))∧w=w':=by
 have hor:bits .or .i64 (wrap64 (x*4)) 1=g8 x:=by rw [←IntWalk.i64_left];exact yQ x
 go_enter Tryz.func24,Tryz.ntmps24
 go_wp2
 go_ret;exact ⟨rfl,rfl⟩
theorem uE (x:Int):g8 (wrap64 x)=g8 x:=by
 unfold g8 wrap64;rw [IntKind.wrap_i64,IntKind.wrap_i64];omega
structure CH where
 p:Nat
 pa:Nat
 g:Nat
 cp:Nat
 ps:Nat
 ro:Value
 pc:Nat
 base:Int
def CH.Own (H:CH) (wv ev:Value) (k:Nat):Prop:=k=H.p∨k=H.pa∨k=H.g∨k=H.pc∨ak wv k∨ak ev k
structure cB (w:World) (H:CH) (wv ev:Value) (s:Ms) (c:Int):Prop where
 hp:aj w H.p [.pointer (some ⟨H.pa,0,none⟩), .pointer (some ⟨H.cp,0,none⟩), .pointer (some ⟨H.ps,0,none⟩),H.ro] 52
 ha:bC w H.pa H.g s.A
 hc:aj w H.pc [.pointer (some ⟨H.p,0,none⟩), .int .i64 H.base, .int .i64 c,wv,ev] 104
 hw:Sl w 3 1 wv s.wk.length (s.wk.map (Value.int .i64))
 he:Sl w 3 1 ev s.ep.length (s.ep.map (Value.int .i64))
 ap:∀ k,¬ (ak wv k∧ak ev k)
def gT (w:World) (H:CH) (wv ev:Value) (s:Ms) (c:Int) (w':World):Prop:=
 ∃ wv' ev',cB w' H wv' ev' s c∧aa (H.Own wv ev) w w'∧∀ k,H.Own wv' ev' k→H.Own wv ev k∨w.heap.size≤k
section
variable {w w':World} {H:CH} {wv ev:Value} {s:Ms} {c:Int}
theorem cB.bB (J:cB w H wv ev s c) {k:Nat} (hk:H.Own wv ev k):∃ l T,aj w k l T∧(T=52∨T=141∨T=2∨T=104∨T=3):=by
 rcases hk with rfl | rfl | rfl | rfl | hk | hk
 ·exact ⟨_,_,J.hp, .inl rfl⟩
 ·exact ⟨_,_,J.ha.hp, .inr (.inl rfl)⟩
 ·exact ⟨_,_,J.ha.hg, .inr (.inr (.inl rfl))⟩
 ·exact ⟨_,_,J.hc, .inr (.inr (.inr (.inl rfl)))⟩
 ·obtain ⟨_,l,h⟩:=J.hw.own hk;exact ⟨_,_,h, .inr (.inr (.inr (.inr rfl)))⟩
 ·obtain ⟨_,l,h⟩:=J.he.own hk;exact ⟨_,_,h, .inr (.inr (.inr (.inr rfl)))⟩
theorem cB.a5 (J:cB w H wv ev s c) {k:Nat} (hk:H.Own wv ev k):k<w.heap.size:=by
 obtain ⟨_,_,h,_⟩:=J.bB hk;exact h.lt
theorem cB.ab {S:Nat→Prop} (J:cB w H wv ev s c) (k:aa S w w') (hn:∀ b,H.Own wv ev b→¬ S b):cB w' H wv ev s c:=
 ⟨k.aq J.hp (hn _ (.inl rfl)),J.ha.ab k (hn _ (.inr (.inl rfl))) (hn _ (.inr (.inr (.inl rfl)))),k.aq J.hc (hn _ (.inr (.inr (.inr (.inl rfl))))),J.hw.ab k (fun b hb=>hn b (.inr (.inr (.inr (.inr (.inl hb)))))),
  J.he.ab k (fun b hb=>hn b (.inr (.inr (.inr (.inr (.inr hb)))))),J.ap⟩
theorem cB.same (J:cB w H wv ev s c) (k:aa (fun _=>False) w w'):cB w' H wv ev s c:=J.ab k (fun _ _ h=>h)
theorem gT.refl (J:cB w H wv ev s c):gT w H wv ev s c w:=⟨wv,ev,J,aa.refl _ _,fun _ h=>.inl h⟩
theorem cB.bT (J:cB w H wv ev s c) {A:Ar} (t:aT w H.pa H.g w' A):cB w' H wv ev { s with A:=A } c:=by
 have n1:∀ {b:Nat} {c:List Value} {T:TypeId},aj w b c T→T≠141→T≠2→¬ (b=H.pa∨b=H.g):=fun hb h1 h2 e=>by
  rcases e with e | e
  ·exact hb.ne J.ha.hp h1 e
  ·exact hb.ne J.ha.hg h2 e
 refine ⟨t.k.aq J.hp (n1 J.hp (by decide) (by decide)),t.at_,t.k.aq J.hc (n1 J.hc (by decide) (by decide)),J.hw.ab t.k (fun b hb=>?_),J.he.ab t.k (fun b hb=>?_),J.ap⟩
 ·obtain ⟨_,l,h⟩:=J.hw.own hb;exact n1 h (by decide) (by decide)
 ·obtain ⟨_,l,h⟩:=J.he.own hb;exact n1 h (by decide) (by decide)
theorem cB.iW (J:cB w H wv ev s c) {A:Ar} (t:aT w H.pa H.g w' A):gT w H wv ev { s with A:=A } c w':=
 ⟨wv,ev,J.bT t,t.k.mono (fun k _ hk=>hk.elim (fun h=>.inr (.inl h)) (fun h=>.inr (.inr (.inl h)))),fun k hk=>.inl hk⟩
theorem cB.cells (J:cB w H wv ev s c):w.cell? ⟨H.pc,0,none⟩=some (.pointer (some ⟨H.p,0,none⟩))∧w.cell? ⟨H.pc,1,none⟩=some (.int .i64 H.base)∧w.cell? ⟨H.pc,2,none⟩=some (.int .i64 c)∧w.cell? ⟨H.pc,3,none⟩=some wv∧w.cell? ⟨H.pc,4,none⟩=some ev ∧
  w.cell? ⟨H.p,0,none⟩=some (.pointer (some ⟨H.pa,0,none⟩))∧w.cell? ⟨H.p,1,none⟩=some (.pointer (some ⟨H.cp,0,none⟩))∧w.cell? ⟨H.p,2,none⟩=some (.pointer (some ⟨H.ps,0,none⟩))∧w.cell? ⟨H.p,3,none⟩=some H.ro:=
 ⟨J.hc.cell 0,J.hc.cell 1,J.hc.cell 2,J.hc.cell 3,J.hc.cell 4,J.hp.cell 0,J.hp.cell 1,J.hp.cell 2,J.hp.cell 3⟩
theorem iT (x:Int) (J:cB w H wv ev s c) :
  Calls Tryz.prog 119 #[.pointer (some ⟨H.pc,0,none⟩), .int .i64 x] w fun e w'=>e=.returned (.bool (aW s.A x))∧w=w':=by
 obtain ⟨c0,-,-,-,-,p0,-,-,-⟩:=J.cells;have pl:=J.hp.lt;have cl:=J.hc.lt;have HA:=Hz J.ha;clear J;by_cases hx:x%4=1
 ·have HX:=Hz hx;cases hy:s.A.az (x/4)
  ·have HE:=Hz (show aW s.A x=true by simp [aW,hy]);have HY:=Hz hy;clear hx hy;go_enter Tryz.func119,Tryz.ntmps119;go_wp2_with fail;refine (dz x _ HX.out).mono ?_;rintro e w1 ⟨rfl,rfl⟩;go_wp2_with fail;refine (cO (x/4) _ HA.out).mono ?_;rintro e w1 ⟨rfl,rfl⟩;rw [HY.out];go_wp2_with fail;go_ret;exact ⟨db HE.out.symm,rfl⟩
  ·have HE:=Hz (show aW s.A x=decide (s.A.load (x/4)<0) by simp [aW,hy,hx]);have HY:=Hz hy;clear hx hy;go_enter Tryz.func119,Tryz.ntmps119;go_wp2_with fail;refine (dz x _ HX.out).mono ?_;rintro e w1 ⟨rfl,rfl⟩;go_wp2_with fail;refine (cO (x/4) _ HA.out).mono ?_;rintro e w1 ⟨rfl,rfl⟩;rw [HY.out];go_wp2_with fail;refine (eM (x/4) _ HA.out).mono ?_;rintro e w1 ⟨rfl,rfl⟩;go_wp2_with fail;go_ret;exact ⟨db HE.out.symm,rfl⟩
 ·have HE:=Hz (show aW s.A x=true by simp [aW,hx]);have HX:=Hz hx;clear hx;go_enter Tryz.func119,Tryz.ntmps119;go_wp2_with fail;refine (lF x _ HX.out).mono ?_;rintro e w1 ⟨rfl,rfl⟩;go_wp2_with fail;go_ret;exact ⟨db HE.out.symm,rfl⟩
theorem oz (x:Int) (J:cB w H wv ev s c) :
  Calls Tryz.prog 121 #[.pointer (some ⟨H.pc,0,none⟩), .int .i64 x] w fun e w'=>e=.returned (.int .i64 (cQ s.A x))∧w=w':=by
 obtain ⟨c0,-,-,-,-,p0,-,-,-⟩:=J.cells;have pl:=J.hp.lt;have cl:=J.hc.lt;have HA:=Hz J.ha;have HR:=Hz (J.ha.ok.load (x/4));clear J;by_cases hx:x%4=1
 ·have HX:=Hz hx;cases hy:s.A.az (x/4)
  ·have HE:=Hz (show cQ s.A x=x by simp [cQ,hy]);have HY:=Hz hy;clear hx hy;go_enter Tryz.func121,Tryz.ntmps121;go_wp2_with fail;refine (dz x _ HX.out).mono ?_;rintro e w1 ⟨rfl,rfl⟩;go_wp2_with fail;refine (cO (x/4) _ HA.out).mono ?_;rintro e w1 ⟨rfl,rfl⟩;rw [HY.out];go_wp2_with fail;go_ret;exact ⟨cM HE.out.symm,rfl⟩
  ·have HY:=Hz hy;have HE:=Hz (show cQ s.A x=if s.A.load (x/4)<0 then g8 (-1-s.A.load (x/4)) else x by simp [cQ,hy,hx]);have HLd:=Hz (eM (x/4) w HA.out);generalize s.A.load (x/4)=u at HE HLd HR;clear hx hy;by_cases hu:u<0
   ·have hd:decide (u<0)=true:=by simpa using hu
    have hw:IntKind.i64.wrap (-1-u)=-1-u:=IntWalk.i64_in _ (by have:=HR.out;unfold a9 at this;omega);have HW:=Hz hw;have HU:=Hz hu;clear hu hw;go_enter Tryz.func121,Tryz.ntmps121;go_wp2_with fail;refine (dz x _ HX.out).mono ?_;rintro e w1 ⟨rfl,rfl⟩;go_wp2_with fail;refine (cO (x/4) _ HA.out).mono ?_;rintro e w1 ⟨rfl,rfl⟩;rw [HY.out];go_wp2_with fail;refine HLd.out.mono ?_;rintro e w1 ⟨rfl,rfl⟩;go_wp2_with fail;refine HLd.out.mono ?_;rintro e w1 ⟨rfl,rfl⟩;go_wp2_with fail;refine (vu _ _).mono ?_;rintro e w1 ⟨rfl,rfl⟩;go_wp2_with fail;go_ret;refine ⟨cM ?_,rfl⟩;rw [HE.out,if_pos HU.out]
    try rw [HW.out]
    try rw [uE]
   ·have hd:decide (u<0)=false:=by simpa using hu
    have HU:=Hz hu;clear hu;go_enter Tryz.func121,Tryz.ntmps121;go_wp2_with fail;refine (dz x _ HX.out).mono ?_;rintro e w1 ⟨rfl,rfl⟩;go_wp2_with fail;refine (cO (x/4) _ HA.out).mono ?_;rintro e w1 ⟨rfl,rfl⟩;rw [HY.out];go_wp2_with fail;refine HLd.out.mono ?_;rintro e w1 ⟨rfl,rfl⟩;go_wp2_with fail;go_ret;exact ⟨cM (by rw [HE.out,if_neg (by have:=HU.out;omega)]),rfl⟩
 ·have HE:=Hz (show cQ s.A x=x by simp [cQ,hx]);have HX:=Hz hx;clear hx;go_enter Tryz.func121,Tryz.ntmps121;go_wp2_with fail;refine (lF x _ HX.out).mono ?_;rintro e w1 ⟨rfl,rfl⟩;go_wp2_with fail;go_ret;exact ⟨cM HE.out.symm,rfl⟩
theorem Co {A:Ar} {x:Int} (h:aW A x=false):x%4=1∧A.az (x/4)=true∧¬ A.load (x/4)<0:=by
 simp [aW] at h;exact ⟨h.1.1,h.1.2,by omega⟩
def yR (w:World) (H:CH) (wv ev:Value) (s:Ms) (c x:Int) (e:Ending) (w':World):Prop:=
 e=.returned (.int .i64 (cQ (bD s.A x) x))∧aT w H.pa H.g w' (bD s.A x)
theorem aT.aK {w w1 w2:World} {p g:Nat} {A:Ar} (k:aa (fun _=>False) w w1) (t:aT w1 p g w2 A):aT w p g w2 A:=⟨t.at_,(k.mono fun _ _ h=>h.elim).trans t.k⟩
theorem ng (x:Int) (J:cB w H wv ev s c) :
  Calls Tryz.prog 56 #[.pointer (some ⟨H.pc,0,none⟩), .int .i64 x] w (yR w H wv ev s c x):=by
 have HJ:=Hz J;clear J;cases hal:aW s.A x
 ·obtain ⟨hx,-,-⟩:=Co hal;have HE:=Hz (show bD s.A x=(s.A.copy (x/4)).2.store (x/4) (-1-(s.A.copy (x/4)).1) by unfold bD;rw [hal];rfl);have HAL:=Hz hal;have HX:=Hz hx;have hcr:=Ar.qC HJ.out.ha.ok (x/4);have HCP:=Hz (fun w' h=>zL (p:=H.pa) (g:=H.g) (A:=s.A) (x/4) w' h);obtain ⟨⟨d,B⟩,hT⟩:∃ t,s.A.copy (x/4)=t:=⟨_,rfl⟩;rw [hT] at HE hcr HCP;dsimp only at HE hcr HCP;have hwr:IntKind.i64.wrap (-1-d)=-1-d:=IntWalk.i64_in _ (by omega);have HR:=Hz (show a9 (-1-d) by unfold a9;omega);have HW:=Hz hwr;clear hal hx hcr hT hwr;go_enter Tryz.func56,Tryz.ntmps56;go_wp2_with fail;refine (iT x HJ.out).mono ?_;rintro e w1 ⟨rfl,rfl⟩;rw [HAL.out];go_wp2_with fail;refine (dz x _ HX.out).mono ?_;rintro e w1 ⟨rfl,rfl⟩;obtain ⟨c0,-,-,-,-,p0,-,-,-⟩:=HJ.out.cells;have pl:=HJ.out.hp.lt;have cl:=HJ.out.hc.lt;go_wp2_with fail;refine a8 (.free 0 (.free 1 (.free 2 (.free 7 (.free 8 (.free 9 (.free 10 (.free 15 (.pure 3 (.free 4 (.free 5 (.pure 6 (.pure 11 (.free 12 (.free 13 (.pure 14 (.run 16 (.free 17 (.run 18 (.swi [] (.fin))))))))))))))))))))) [18] (Fz c0 (Fa p0)) ?_
  iterate 16 refine Wz ?_
  refine aM rfl rfl (fun K hK=>?_);unfold aw;go_simp;have HD:=Hz (HJ.out.same ((Kz w).drew));refine (HCP.out _ HD.out.ha).mono ?_;rintro e w1 ⟨rfl,t⟩;have T1:=Hz t;clear t;refine hK _ _ (fun _=>⟨((HD.out.bT T1.out).cells).1,(HD.out.bT T1.out).cells.2.2.2.2.2.1⟩) ?_;clear hK K;refine Wz ?_;refine aA rfl rfl rfl (fun K hK=>?_);unfold aw;go_simp;rw [HW.out];refine (gI (x/4) (-1-d) _ T1.out.at_ HR.out).mono ?_;rintro e w2 ⟨rfl,t⟩;have T2:=Hz (aT.aK (w:=w) ((Kz w).drew) (T1.out.trans t));clear t;refine hK _ _ ?_;clear hK K c0 p0 pl cl;refine aB (fun _=>True) trivial (av ?_);have HJ2:=Hz (HJ.out.bT T2.out);go_wp2_with fail;refine (oz x HJ2.out).mono ?_;rintro e w3 ⟨rfl,rfl⟩;go_wp2_with fail;go_ret;refine ⟨cM (by rw [HE.out]),?_⟩;rw [HE.out];exact T2.out
 ·have HE:=Hz (show bD s.A x=s.A by unfold bD;rw [hal];rfl);have HAL:=Hz hal;clear hal;go_enter Tryz.func56,Tryz.ntmps56;go_wp2_with fail;refine (iT x HJ.out).mono ?_;rintro e w1 ⟨rfl,rfl⟩;rw [HAL.out];go_wp2_with fail;refine (oz x HJ.out).mono ?_;rintro e w1 ⟨rfl,rfl⟩;go_wp2_with fail;go_ret;refine ⟨cM (by rw [HE.out]),?_⟩;rw [HE.out];exact aT.refl HJ.out.ha (aa.refl _ _)
theorem nh (i:Int) (J:cB w H wv ev s c) :
  Calls Tryz.prog 123 #[.pointer (some ⟨H.pc,0,none⟩), .int .i64 i] w fun e w'=>e=.returned (.tuple #[])∧aT w H.pa H.g w' (fA s.A i):=by
 have HJ:=Hz J;clear J;obtain ⟨c0,-,-,-,-,p0,-,-,-⟩:=HJ.out.cells;have pl:=HJ.out.hp.lt;have cl:=HJ.out.hc.lt;go_enter Tryz.func123,Tryz.ntmps123;go_wp2_with fail;refine a8 (.free 0 (.free 1 (.free 2 (.free 7 (.free 8 (.free 9 (.free 10 (.free 11 (.free 16 (.pure 3 (.free 4 (.free 5 (.pure 6 (.pure 12 (.free 13 (.free 14 (.pure 15 (.run 17 (.run 18 (.run 19 (.swi [] (.fin)))))))))))))))))))))) [19] (Fz c0 (Fa p0)) ?_
 iterate 17 refine Wz ?_
 refine aM rfl rfl (fun K hK=>?_);unfold aw;go_simp;have HD:=Hz (HJ.out.same ((Kz w).drew));refine (eM i _ HD.out.ha).mono ?_;rintro e w1 ⟨rfl,rfl⟩;refine hK _ _ (fun h=>h) ?_;clear hK K;refine aM rfl rfl (fun K hK=>?_);unfold aw;go_simp;refine (ng (s.A.load i) HD.out).mono ?_;rintro e w2 ⟨rfl,t⟩;have T1:=Hz t;clear t;refine hK _ _ (fun _=>⟨((HD.out.bT T1.out).cells).1,(HD.out.bT T1.out).cells.2.2.2.2.2.1⟩) ?_;clear hK K
 skip
 refine aA rfl rfl rfl (fun K hK=>?_);unfold aw;go_simp;have HR:=Hz (hH (A:=bD s.A (s.A.load i)) (HD.out.ha.ok.load i));refine (gI i _ _ T1.out.at_ HR.out).mono ?_;rintro e w3 ⟨rfl,t⟩;have T2:=Hz (aT.aK (w:=w) ((Kz w).drew) (T1.out.trans t));clear t;refine hK _ _ ?_;clear hK K c0 p0 pl cl;refine aB (fun _=>True) trivial (av ?_);go_wp2_with fail;go_end0;exact ⟨rfl,T2.out⟩
end
end
section
open Go.RowKit
theorem oA:∀ (n:Nat) (A:Ar) (i:Int),mFields (n+1) A i=fA (mFields n A i) (i+n)
 | 0,A,i=>by simp [mFields]
 | n+1,A,i=>by
  have:=oA n (fA A i) (i+1);rw [mFields,this,mFields];congr 1;omega
theorem xK:(Tryz.prog.info? 3).map (fun i=>(i.zero,i.size,i.bytes))=some (some (.int .i64 0),1,8):=by kernel_rfl
section
variable {w w':World} {H:CH} {wv ev:Value} {s:Ms} {c:Int}
theorem gT.join {w1:World} {wv1 ev1:Value} (k1:aa (H.Own wv ev) w w1) (o1:∀ k,H.Own wv1 ev1 k→H.Own wv ev k∨w.heap.size≤k) (t:gT w1 H wv1 ev1 s c w'):gT w H wv ev s c w':=by
 obtain ⟨a2,b2,J2,k2,o2⟩:=t;refine ⟨a2,b2,J2,k1.then k2 o1,fun k hk=>?_⟩;rcases o2 k hk with h | h
 ·exact o1 k h
 ·exact .inr (Nat.le_trans k1.size h)
theorem cB.CP {w1 w2:World} {v2:Value} {i:Int} (J:cB w H wv ev s c) (k1:aa (fun _=>False) w w1) (hs:Sl w2 3 1 v2 (s.wk.length+1) (s.wk.map (Value.int .i64) ++ [.int .i64 i])) (k2:aa (ak wv) w1 w2)
  (ho:∀ k,ak v2 k→ak wv k∨w1.heap.size≤k):gT w H wv ev { s with wk:=s.wk ++ [i] } c (w2.setCell ⟨H.pc,3,none⟩ v2):=by
 have J1:=J.same k1;have nw:∀ {b:Nat} {l:List Value} {T:TypeId},aj w1 b l T→T≠3→¬ ak wv b:=fun hb hT hv=>by
  obtain ⟨_,l',h⟩:=J1.hw.own hv;exact hb.ne h hT rfl
 have hp2:=k2.aq J1.hp (nw J1.hp (by decide));have hc2:=k2.aq J1.hc (nw J1.hc (by decide));have ha2:=J1.ha.ab k2 (nw J1.ha.hp (by decide)) (nw J1.ha.hg (by decide));have he2:=J1.he.ab k2 (fun b hb hv=>J.ap b ⟨hv,hb⟩);have set:=(aa.refl (·=H.pc) w2).setCell (p:=⟨H.pc,3,none⟩) (.inl rfl) v2;have ne:∀ {b:Nat} {l:List Value} {T:TypeId},aj w2 b l T→T≠104→¬ b=H.pc:=fun hb hT=>hb.ne hc2 hT;refine ⟨v2,ev,⟨set.aq hp2 (ne hp2 (by decide)),ha2.ab set (ne ha2.hp (by decide)) (ne ha2.hg (by decide)),by simpa using hc2.aG 3 v2,?_,he2.ab set (fun b hb=>by obtain ⟨_,l,h⟩:=he2.own hb;exact ne h (by decide)),?_⟩,?_,?_⟩
 ·have:({ s with wk:=s.wk ++ [i] }:Ms).wk.length=s.wk.length+1:=by simp
  rw [this];simpa using hs.ab set (fun b hb=>by obtain ⟨_,l,h⟩:=hs.own hb;exact ne h (by decide))
 ·rintro k ⟨h1,h2⟩;rcases ho k h1 with h | h
  ·exact J.ap k ⟨h,h2⟩
  ·have:=(J1.he.own h2).1;omega
 ·refine aa.setCell ?_ (p:=⟨H.pc,3,none⟩) (.inl (.inr (.inr (.inr (.inl rfl))))) v2;exact (k1.mono fun _ _ h=>h.elim).trans (k2.mono fun k _ hk=>.inr (.inr (.inr (.inr (.inl hk)))))
 ·rintro k (h | h | h | h | h | h)
  ·exact .inl (.inl h)
  ·exact .inl (.inr (.inl h))
  ·exact .inl (.inr (.inr (.inl h)))
  ·exact .inl (.inr (.inr (.inr (.inl h))))
  ·rcases ho k h with h | h
   ·exact .inl (.inr (.inr (.inr (.inr (.inl h)))))
   ·exact .inr (Nat.le_trans k1.size h)
  ·exact .inl (.inr (.inr (.inr (.inr (.inr h)))))
theorem cB.yS {w1 w2:World} {v2:Value} {i:Int} (J:cB w H wv ev s c) (k1:aa (fun _=>False) w w1) (hs:Sl w2 3 1 v2 (s.ep.length+1) (s.ep.map (Value.int .i64) ++ [.int .i64 i])) (k2:aa (ak ev) w1 w2)
  (ho:∀ k,ak v2 k→ak ev k∨w1.heap.size≤k):gT w H wv ev { s with ep:=s.ep ++ [i] } c (w2.setCell ⟨H.pc,4,none⟩ v2):=by
 have J1:=J.same k1;have nw:∀ {b:Nat} {l:List Value} {T:TypeId},aj w1 b l T→T≠3→¬ ak ev b:=fun hb hT hv=>by
  obtain ⟨_,l',h⟩:=J1.he.own hv;exact hb.ne h hT rfl
 have hp2:=k2.aq J1.hp (nw J1.hp (by decide));have hc2:=k2.aq J1.hc (nw J1.hc (by decide));have ha2:=J1.ha.ab k2 (nw J1.ha.hp (by decide)) (nw J1.ha.hg (by decide));have hw2:=J1.hw.ab k2 (fun b hb hv=>J.ap b ⟨hb,hv⟩);have set:=(aa.refl (·=H.pc) w2).setCell (p:=⟨H.pc,4,none⟩) (.inl rfl) v2;have ne:∀ {b:Nat} {l:List Value} {T:TypeId},aj w2 b l T→T≠104→¬ b=H.pc:=fun hb hT=>hb.ne hc2 hT;refine ⟨wv,v2,⟨set.aq hp2 (ne hp2 (by decide)),ha2.ab set (ne ha2.hp (by decide)) (ne ha2.hg (by decide)),by simpa using hc2.aG 4 v2,hw2.ab set (fun b hb=>by obtain ⟨_,l,h⟩:=hw2.own hb;exact ne h (by decide)),?_,?_⟩,?_,?_⟩
 ·have:({ s with ep:=s.ep ++ [i] }:Ms).ep.length=s.ep.length+1:=by simp
  rw [this];simpa using hs.ab set (fun b hb=>by obtain ⟨_,l,h⟩:=hs.own hb;exact ne h (by decide))
 ·rintro k ⟨h1,h2⟩;rcases ho k h2 with h | h
  ·exact J.ap k ⟨h1,h⟩
  ·have:=(J1.hw.own h1).1;omega
 ·refine aa.setCell ?_ (p:=⟨H.pc,4,none⟩) (.inl (.inr (.inr (.inr (.inl rfl))))) v2;exact (k1.mono fun _ _ h=>h.elim).trans (k2.mono fun k _ hk=>.inr (.inr (.inr (.inr (.inr hk)))))
 ·rintro k (h | h | h | h | h | h)
  ·exact .inl (.inl h)
  ·exact .inl (.inr (.inl h))
  ·exact .inl (.inr (.inr (.inl h)))
  ·exact .inl (.inr (.inr (.inr (.inl h))))
  ·exact .inl (.inr (.inr (.inr (.inr (.inl h)))))
  ·rcases ho k h with h | h
   ·exact .inl (.inr (.inr (.inr (.inr (.inr h)))))
   ·exact .inr (Nat.le_trans k1.size h)
def Am (w:World) (H:CH) (wv ev:Value) (s:Ms) (c i:Int) (e:Ending) (w':World):Prop:=
 e=.returned (.int .i64 (1+(s.A.ai i).2.1))∧gT w H wv ev (eu s i) c w'
theorem vv (i:Int) (J:cB w H wv ev s c) (h0:0≤i) (h1:i≤1300) (hl:(s.wk.length:Int)+s.ep.length≤1000000) :
  Calls Tryz.prog 58 #[.pointer (some ⟨H.pc,0,none⟩), .int .i64 i] w (Am w H wv ev s c i):=by
 have HJ:=Hz J;clear J;obtain ⟨c0,-,-,c3,c4,p0,-,-,-⟩:=HJ.out.cells;have pl:=HJ.out.hp.lt;have cl:=HJ.out.hc.lt;have HTH:=Hz (gJ i w HJ.out.ha);have hb:=s.A.aO i;obtain ⟨L,hLe⟩:∃ L,eu s i=L:=⟨_,rfl⟩;have HL:=Hz hLe;unfold eu at hLe;obtain ⟨⟨k,n,cd⟩,hT⟩:∃ t,s.A.ai i=t:=⟨_,rfl⟩;have HT:=Hz hT;rw [hT] at HTH hb hLe;dsimp only at HTH hb hLe;clear hT;have hwn:IntKind.i64.wrap (1+n)=1+n:=IntWalk.i64_in _ (by omega);by_cases k12:k=1∨k=2
 ·rw [if_pos k12] at hLe;have HE:=Hz hLe;clear hLe;obtain ⟨m,rfl⟩:∃ m:Nat,n=m:=⟨n.toNat,by omega⟩;have hi1:IntKind.i64.wrap (i+1)=i+1:=IntWalk.i64_in _ (by omega);rcases k12 with rfl | rfl
  all_goals
   go_enter Tryz.func58,Tryz.ntmps58;go_wp2_with fail;refine HTH.out.mono ?_;rintro e w1 ⟨rfl,rfl⟩;go_wp2_with fail;go_loopw [27] (fun u wr=>∃ q:Nat,q≤m∧u=.int .i64 q∧aT w H.pa H.g wr (mFields q s.A (i+1))) (fun u _=>m-(intOf u).toNat)
   case atStart=>exact ⟨0,Nat.zero_le _,rfl,aT.refl HJ.out.ha (aa.refl _ _)⟩
   case round=>
    obtain ⟨q,hq,rfl,t⟩:=hrel;have T:=Hz t;clear t;by_cases hlt:q<m
    ·have JR:=Hz (HJ.out.bT T.out);have hiq:IntKind.i64.wrap (i+1+q)=i+1+q:=IntWalk.i64_in _ (by omega);go_wp2_with fail;refine (nh (i+1+q) JR.out).mono ?_;rintro e w2 ⟨rfl,t⟩;have T2:=Hz (T.out.trans t);clear t;go_wp2_with fail;go_roundw
     case rel=>exact ⟨q+1,hlt,by go_num,by rw [oA];exact T2.out⟩
     case measure=>simp [intOf];omega
    ·obtain rfl:q=m:=by omega
     go_wp2_with fail;go_ret;refine ⟨cM (by rw [HT.out]),?_⟩;rw [HL.out,←HE.out];exact HJ.out.iW (by simpa using T.out)
 ·have k1:(k == 1)=false:=by simp;omega
  have k2:(k == 2)=false:=by simp;omega
  rw [if_neg k12] at hLe;clear k12;obtain ⟨i0,hi,hz0,hz1,hz2⟩:=info_parts xK;have Hi:=Hz hi;have Hz0:=Hz hz0;have Hz1:=Hz hz1;have Hz2:=Hz hz2;clear hi hz0 hz1 hz2;by_cases k3:k=3
  ·subst k3;rw [if_pos rfl] at hLe;have HE:=Hz hLe;clear hLe;have hi2:IntKind.i64.wrap (i+2)=i+2:=IntWalk.i64_in _ (by omega);obtain ⟨wo,wc,rfl,-,-,-⟩:=HJ.out.hw.rd;go_enter Tryz.func58,Tryz.ntmps58;go_wp2_with fail;refine HTH.out.mono ?_;rintro e w1 ⟨rfl,rfl⟩;go_wp2_with (at_builtin;refine da rfl (.tmp 43) (.tmp 45) 83 rfl 3 i0 (.int .i64 0) 1 8 Tryz.underlying83 Hi.out Hz0.out Hz1.out Hz2.out rfl (by decide) _ s.wk.length (s.wk.map (Value.int .i64)) rfl ?ha ⟨w.heap.size,0,none⟩ 1 1 [.int .i64 i] rfl rfl ?hb ?hc ?hd ?he ?hf)
   case ha=>exact HJ.out.hw.ab ((Kz w).alloc _) (fun _ _ h=>h)
   case hb=>exact bX w 3 _
   case hc=>intro u hu;simp at hu;subst hu;rfl
   case hd=>unfold maxLen;omega
   case he=>omega
   case hf=>
    intro v2 w2 hs2 hk2 ho2;obtain ⟨ao2,cap2,rfl,-,-,-⟩:=hs2.rd;have T2:=Hz (HJ.out.CP ((Kz w).alloc (.cells #[.int .i64 i] 3)) hs2 hk2 (by simpa using ho2));have K2:=Hz (((Kz w).alloc (.cells #[.int .i64 i] 3)).aq HJ.out.hc (fun h=>h));have K3:=Hz (hk2.aq K2.out (fun hv=>by
     obtain ⟨_,l,h⟩:=(HJ.out.hw.ab ((Kz w).alloc (.cells #[.int .i64 i] 3)) (fun _ _ h=>h)).own hv
     exact K2.out.ne h (by decide) rfl))
    clear hs2 hk2 ho2 K2;have x0:=K3.out.cell 3;have xl:=K3.out.lt;have xf:=K3.out.free 3;simp only [Lz,aC] at x0;clear c0 c3 c4 p0 pl cl;go_wp2_with fail;obtain ⟨wv3,ev3,J3,k3,o3⟩:=T2.out;have J3':=Hz J3;have K4:=Hz k3;have O3:=Hz o3;clear J3 k3 o3;refine (nh (i+2) J3'.out).mono ?_;rintro e w4 ⟨rfl,t⟩;have T4:=Hz t;clear t x0 xl xf;go_wp2_with fail;go_ret;refine ⟨cM (by rw [HT.out]),?_⟩;rw [HL.out,←HE.out];exact gT.join K4.out O3.out (J3'.out.iW T4.out)
  ·have k3':(k == 3)=false:=by simpa using k3
   rw [if_neg k3] at hLe;clear k3;by_cases k4:k=4
   ·subst k4;rw [if_pos rfl] at hLe;have HE:=Hz hLe;clear hLe;obtain ⟨eo,ec,rfl,-,-,-⟩:=HJ.out.he.rd;go_enter Tryz.func58,Tryz.ntmps58;go_wp2_with fail;refine HTH.out.mono ?_;rintro e w1 ⟨rfl,rfl⟩;go_wp2_with (at_builtin;refine da rfl (.tmp 59) (.tmp 61) 83 rfl 3 i0 (.int .i64 0) 1 8 Tryz.underlying83 Hi.out Hz0.out Hz1.out Hz2.out rfl (by decide) _ s.ep.length (s.ep.map (Value.int .i64)) rfl ?ha ⟨w.heap.size,0,none⟩ 1 1 [.int .i64 i] rfl rfl ?hb ?hc ?hd ?he ?hf)
    case ha=>exact HJ.out.he.ab ((Kz w).alloc _) (fun _ _ h=>h)
    case hb=>exact bX w 3 _
    case hc=>intro u hu;simp at hu;subst hu;rfl
    case hd=>unfold maxLen;omega
    case he=>omega
    case hf=>
     intro v2 w2 hs2 hk2 ho2;obtain ⟨ao2,cap2,rfl,-,-,-⟩:=hs2.rd;have T2:=Hz (HJ.out.yS ((Kz w).alloc (.cells #[.int .i64 i] 3)) hs2 hk2 (by simpa using ho2));have K2:=Hz (((Kz w).alloc (.cells #[.int .i64 i] 3)).aq HJ.out.hc (fun h=>h));have K3:=Hz (hk2.aq K2.out (fun hv=>by
      obtain ⟨_,l,h⟩:=(HJ.out.he.ab ((Kz w).alloc (.cells #[.int .i64 i] 3)) (fun _ _ h=>h)).own hv
      exact K2.out.ne h (by decide) rfl))
     clear hs2 hk2 ho2 K2;have x0:=K3.out.cell 4;have xl:=K3.out.lt;have xf:=K3.out.free 4;simp only [Lz,aC] at x0;clear c0 c3 c4 p0 pl cl;go_wp2_with fail;go_ret;refine ⟨cM (by rw [HT.out]),?_⟩;rw [HL.out,←HE.out];exact T2.out
   ·have k4':(k == 4)=false:=by simpa using k4
    rw [if_neg k4] at hLe;have HE:=Hz hLe;clear hLe k4;go_enter Tryz.func58,Tryz.ntmps58;go_wp2_with fail;refine HTH.out.mono ?_;rintro e w1 ⟨rfl,rfl⟩;go_wp2_with fail;go_ret;refine ⟨cM (by rw [HT.out]),?_⟩;rw [HL.out,←HE.out];exact gT.refl HJ.out
theorem qV (J:cB w H wv ev s c) (hb:H.base=s.A.nur) :
  Calls Tryz.prog 55 #[.pointer (some ⟨H.pc,0,none⟩)] w fun e w'=>e=.returned (.int .i64 s.A.grn)∧aa (fun _=>False) w w':=by
 have HJ:=Hz J;clear J;obtain ⟨c0,c1,-,-,-,p0,-,-,-⟩:=HJ.out.cells;have pl:=HJ.out.hp.lt;have cl:=HJ.out.hc.lt;rw [hb] at c1;have o2:=HJ.out.ha.ok.h2;have o3:=HJ.out.ha.ok.h3;have o4:=HJ.out.ha.ok.h4;have HB:=Hz hb;clear hb;go_enter Tryz.func55,Tryz.ntmps55;go_wp2_with fail;refine (kT w HJ.out.ha).mono ?_;rintro e w1 ⟨rfl,hk⟩;have J1:=Hz (HJ.out.same hk);have K1:=Hz hk;clear c0 c1 p0 pl cl hk;obtain ⟨c0,c1,-,-,-,p0,-,-,-⟩:=J1.out.cells;rw [HB.out] at c1;have cl:=J1.out.hc.lt;have hs:IntKind.i64.wrap ((s.A.nur:Int)+((s.A.grn-s.A.nur:Nat):Int))=s.A.grn:=by
  rw [IntWalk.i64_in _ (by omega)];omega
 go_wp2_with fail;go_ret;exact ⟨by first | rfl | exact cM (by omega),K1.out⟩
end
end
section
open Go.RowKit
structure CS (w:World) (H:CH) (wv ev rv qv:Value) (rg:List (Int × Int)) (d:Md):Prop where
 J:cB w H wv ev d.s d.c
 S:aZ w H.ps rv qv rg d.q
 ok:gu d.s d.c
 q:j6 d.q
 nb:H.base=d.s.A.nur
 ql:d.q.length≤1000000
def gz (w:World) (H:CH) (wv ev rv qv:Value) (rg:List (Int × Int)) (d:Md) (w':World):Prop:=
 ∃ wv' ev',CS w' H wv' ev' rv qv rg d∧aa (fun k=>H.Own wv ev k∨aF H.ps rv qv k) w w'∧∀ k,H.Own wv' ev' k→H.Own wv ev k∨w.heap.size≤k
def qW (w:World) (b i:Nat):Int:=match w.cell? ⟨b,i,none⟩ with | some (.int _ n)=>n | _=>0
theorem nk {w:World} {b i:Nat} {k:IntKind} {n:Int} (h:w.cell? ⟨b,i,none⟩=some (.int k n)):qW w b i=n:=by unfold qW;rw [h]
section
variable {w w':World} {H:CH} {wv ev rv qv:Value} {rg:List (Int × Int)} {d:Md} {s:Ms} {c:Int}
theorem cB.cK {wt:List (Int × Int)} (J:cB w H wv ev s c) (S:aZ w H.ps rv qv rg wt) {k:Nat} (hk:H.Own wv ev k):¬ aF H.ps rv qv k:=fun hs=>by
 obtain ⟨_,T,h,hT⟩:=J.bB hk;obtain ⟨_,U,h',hU⟩:=S.cF hs;refine h.ne h' ?_ rfl;rcases hT with rfl | rfl | rfl | rfl | rfl <;> rcases hU with rfl | rfl <;> decide
theorem CS.ab {S:Nat→Prop} (C:CS w H wv ev rv qv rg d) (k:aa S w w') (h1:∀ b,H.Own wv ev b→¬ S b) (h2:∀ b,aF H.ps rv qv b→¬ S b):CS w' H wv ev rv qv rg d:=
 ⟨C.J.ab k h1,C.S.ab k h2,C.ok,C.q,C.nb,C.ql⟩
theorem CS.same (C:CS w H wv ev rv qv rg d) (k:aa (fun _=>False) w w'):CS w' H wv ev rv qv rg d:=C.ab k (fun _ _ h=>h) (fun _ _ h=>h)
theorem gz.refl (C:CS w H wv ev rv qv rg d) (k:aa (fun _=>False) w w'):gz w H wv ev rv qv rg d w':=⟨wv,ev,C.same k,k.mono (fun _ _ h=>h.elim),fun _ h=>.inl h⟩
theorem gz.join {w1:World} {wv1 ev1:Value} (k1:aa (fun k=>H.Own wv ev k∨aF H.ps rv qv k) w w1) (o1:∀ k,H.Own wv1 ev1 k→H.Own wv ev k∨w.heap.size≤k) (t:gz w1 H wv1 ev1 rv qv rg d w'):gz w H wv ev rv qv rg d w':=by
 obtain ⟨a2,b2,J2,k2,o2⟩:=t;refine ⟨a2,b2,J2,k1.then k2 (fun k hk=>?_),fun k hk=>?_⟩
 ·rcases hk with hk | hk
  ·exact (o1 k hk).imp .inl id
  ·exact .inl (.inr hk)
 ·rcases o2 k hk with h | h
  ·exact o1 k h
  ·exact .inr (Nat.le_trans k1.size h)
theorem CS.cut (C:CS w H wv ev rv qv rg d) (t:gT w H wv ev s c w') (h:gu s c) (hn:s.A.nur=d.s.A.nur):gz w H wv ev rv qv rg ⟨s,c,d.q⟩ w':=by
 obtain ⟨a,b,J,k,o⟩:=t;exact ⟨a,b,⟨J,C.S.ab k (fun b hb hk=>C.J.cK C.S hk hb),h,C.q,by rw [hn];exact C.nb,C.ql⟩,k.mono (fun _ _ h=>.inl h),o⟩
theorem cB.Bt (J:cB w H wv ev s c) (c2:Int):gT w H wv ev s c2 (w.setCell ⟨H.pc,2,none⟩ (.int .i64 c2)):=by
 have set:=(aa.refl (·=H.pc) w).setCell (p:=⟨H.pc,2,none⟩) (.inl rfl) (.int .i64 c2);have ne:∀ {b:Nat} {l:List Value} {T:TypeId},aj w b l T→T≠104→¬ b=H.pc:=fun hb hT=>hb.ne J.hc hT;exact ⟨wv,ev,⟨set.aq J.hp (ne J.hp (by decide)),J.ha.ab set (ne J.ha.hp (by decide)) (ne J.ha.hg (by decide)),by simpa using J.hc.aG 2 (.int .i64 c2),J.hw.ab set (fun b hb=>by obtain ⟨_,l,h⟩:=J.hw.own hb;exact ne h (by decide)),
  J.he.ab set (fun b hb=>by obtain ⟨_,l,h⟩:=J.he.own hb;exact ne h (by decide)),J.ap⟩,set.mono (fun k _ hk=>.inr (.inr (.inr (.inl hk)))),fun k hk=>.inl hk⟩
def sD (pc:Nat):Value:=.agg #[.func (.func 119) #[.pointer (some ⟨pc,0,none⟩)] #[], .func (.func 56) #[.pointer (some ⟨pc,0,none⟩)] #[], .func (.func 121) #[.pointer (some ⟨pc,0,none⟩)] #[]]
theorem sg (J:cB w H wv ev s c) :
  Calls Tryz.prog 125 #[.pointer (some ⟨H.pc,0,none⟩)] w fun e w'=>e=.returned (sD H.pc)∧aa (fun _=>False) w w':=by
 have cl:=J.hc.lt;clear J;go_enter Tryz.func125,Tryz.ntmps125;go_wp2_with fail;go_wp2_with fail;refine bodyPost_ret (v:=sD H.pc) (by simp [sD,results,Tryz.results125,go_sem]) rfl ⟨rfl,?_⟩;exact (aa.refl _ _).alloc _
def Bu (H:CH) (wv ev:Value) (wk ep:List Int) (c:Int):eH Tryz.prog H.ps Ar where
 J:=fun w A F=>cB w H wv ev ⟨A,wk,ep⟩ c∧F=H.Own wv ev
 D:=fun _ x=>a9 x
 DK:=fun _ x=>a9 x
 alive:=aW
 ab:=fun A q x=>((i3 A x).1,q,(i3 A x).2)
 now:=cQ
 fa:=119
 fk:=56
 fn:=121
 a1:=#[.pointer (some ⟨H.pc,0,none⟩)]
 a2:=#[]
 k1:=#[.pointer (some ⟨H.pc,0,none⟩)]
 k2:=#[]
 n1:=#[.pointer (some ⟨H.pc,0,none⟩)]
 n2:=#[]
 ea:=fun args w=>by kernel_rfl
 ek:=fun args w=>by kernel_rfl
 en:=fun args w=>by kernel_rfl
 J_keep:=fun h k hn=>⟨h.1.ab k (by rw [←h.2];exact hn),h.2⟩
 J_lt:=fun h hk=>h.1.a5 (by rw [←h.2];exact hk)
 cS:=fun w t F x hJ _=>(iT x hJ.1).mono (by rintro e w' ⟨rfl,rfl⟩;exact ⟨rfl,aa.refl _ _⟩)
 now_c:=fun w t F x hJ _=>(oz x hJ.1).mono (by rintro e w' ⟨rfl,rfl⟩;exact ⟨rfl,aa.refl _ _⟩)
 keep_c:=fun w t F rv qv ah wait x hJ hS hA hx _ _=>by
  obtain ⟨hJ,rfl⟩:=hJ;refine (ng x hJ).mono ?_;rintro e w' ⟨rfl,t⟩;obtain ⟨a,b,J2,k2,o2⟩:=hJ.iW t;exact ⟨rfl,H.Own wv ev,⟨hJ.bT t,rfl⟩,hS.ab k2 (fun b hb hk=>hA b ⟨hk,hb⟩),hA,k2.mono (fun _ _ h=>.inl h),fun k hk=>.inl hk⟩
 DK_D:=fun h=>h
 DK_keep:=fun _ h=>h
 D_keep:=fun _ h=>h
 D_new:=fun h=>hH h
 D_wait:=fun _ h=>h
 keep_len:=rfl
def An (w:World) (H:CH) (wv ev rv qv:Value) (rg:List (Int × Int)) (d:Md) (m:Value) (wr:World):Prop:=
 (∃ (n:Nat) (d1:Md),m=.bool true∧gz w H wv ev rv qv rg d1 wr∧mDrain 2000 d=mDrain (n+1) d1∧1998≤n+d1.c∧(n=1999∨d1.c<d1.s.A.grn)) ∨
  (m=.bool false∧gz w H wv ev rv qv rg (mDrain 2000 d) wr)
def rF (H:CH) (m:Value) (wr:World):Nat:=(4000-qW wr H.pc 2-qW wr H.pa 3).toNat+match m with | .bool true=>1 | _=>0
theorem np (C:CS w H wv ev rv qv rg d) (b:Bool):rF H (.bool b) w=(4000-d.c-d.s.A.grn).toNat+if b then 1 else 0:=by
 unfold rF;rw [nk C.J.cells.2.2.1,nk C.J.ha.cells.2.2.2];cases b <;> simp
def Cp (w:World) (H:CH) (wv ev rv qv:Value) (rg:List (Int × Int)) (d:Md) (wr:World):Prop:=
 ∃ (n:Nat) (s:Ms) (c:Int),gz w H wv ev rv qv rg ⟨s,c,d.q⟩ wr∧mScan 2000 d.s d.c=mScan n s c∧1300≤n+c
theorem tQ (C:CS w H wv ev rv qv rg d) :
  Calls Tryz.prog 59 #[.pointer (some ⟨H.pc,0,none⟩)] w fun e w'=>e=.returned (.tuple #[])∧gz w H wv ev rv qv rg (mDrain 2000 d) w':=by
 have HC:=Hz C;clear C;go_enter Tryz.func59,Tryz.ntmps59;go_wp2_with fail;go_loopw [2] (fun m wr=>An w H wv ev rv qv rg d m wr) (fun m wr=>rF H m wr)
 case atStart=>exact .inl ⟨1999,d,rfl,gz.refl HC.out (aa.refl _ _),rfl,by have:=HC.out.ok.c0;omega, .inl rfl⟩
 case round=>
  rcases hrel with ⟨n,d1,rfl,ht,he,hn,hg⟩ | ⟨rfl,ht⟩
  ·obtain ⟨wv1,ev1,C1,k1,o1⟩:=ht;have HMU:=Hz (np C1 true);have HC1:=Hz C1;have K1:=Hz k1;have O1:=Hz o1;have HE:=Hz he;have HN:=Hz hn;have HGR:=Hz hg;clear C1 k1 o1 he hn hg;obtain ⟨w1,rfl⟩:∃ x:World,x=wr:=⟨wr,rfl⟩;go_wp2_with fail;go_loopw [12] (fun _ wr=>Cp w1 H wv1 ev1 rv qv rg d1 wr) (fun _ wr=>(3000-qW wr H.pc 2).toNat)
   case atStart=>exact ⟨2000,d1.s,d1.c,gz.refl HC1.out (aa.refl _ _),rfl,by have:=HC1.out.ok.c0;omega⟩
   case round=>
    obtain ⟨m,s2,c2,⟨wv2,ev2,C2,k2,o2⟩,he2,hm2⟩:=hrel;have HC2:=Hz C2;have K2:=Hz k2;have O2:=Hz o2;have HE2:=Hz he2;have HM2:=Hz hm2;have q2:=C2.J.cells.2.2.1;have HQ:=Hz (nk q2);have cl:=C2.J.hc.lt;have b0:=C2.ok.c0;have b1:=C2.ok.c1;have g3:=C2.ok.ok.h3;have g4:=C2.ok.ok.h4;dsimp only at q2 b0 b1 g3 g4 HQ;clear C2 k2 o2 he2 hm2;by_cases hlt:c2<s2.A.grn
    ·have hd:decide (c2<(s2.A.grn:Int))=true:=by simpa using hlt
     have HLT:=Hz hlt;have hf:=s2.A.aO c2;have hsum:IntKind.i64.wrap (c2+(1+(s2.A.ai c2).2.1))=c2+(1+(s2.A.ai c2).2.1):=IntWalk.i64_in _ (by omega);have HF:=Hz hf;clear hlt hf;go_wp2_with fail;refine a8 (.free 0 (.free 1 (.free 2 (.free 4 (.pure 3 (.run 5 (.free 6 (.fin)))))))) [] (Fa q2) ?_
     iterate 5 refine Wz ?_
     refine aM rfl rfl (fun K hK=>?_);unfold aw;go_simp;refine (qV (HC2.out.same ((Kz wr).drew)).J HC2.out.nb).mono ?_;rintro e w3 ⟨rfl,hk⟩;have HC3:=Hz (HC2.out.same ((Kz wr).drew.trans hk));have K3:=Hz (K2.out.trans (((Kz wr).drew.trans hk).mono (fun _ _ h=>h.elim)));refine hK _ _ (fun _=>HC3.out.J.cells.2.2.1) ?_;clear hK K hk q2 cl;refine Wz ?_;refine av ?_;have q2:=HC3.out.J.cells.2.2.1;have cl:=HC3.out.J.hc.lt;dsimp only at q2;go_wp2_with fail;refine a8 (.free 0 (.free 1 (.free 2 (.free 4 (.free 5 (.free 6 (.free 7 (.pure 3 (.pure 8 (.run 9 (.free 10 (.free 11 (.free 12 (.run 13 (.swi [] (.fin)))))))))))))))) [13] (Fa q2) ?_
     iterate 9 refine Wz ?_
     refine aM rfl rfl (fun K hK=>?_);unfold aw;go_simp;have HC4:=Hz (HC3.out.same ((Kz w3).drew));have K4:=Hz (K3.out.trans ((Kz w3).drew.mono (fun _ _ h=>h.elim)));refine (vv c2 HC4.out.J b0 b1 (by have:=HC4.out.ok.ms.len;dsimp only at this ⊢;omega)).mono ?_;rintro e w5 ⟨rfl,t⟩;obtain ⟨wv5,ev5,J5,k5,o5⟩:=t;have HJ5:=Hz J5;have K5:=Hz k5;have O5:=Hz o5;refine hK _ _ (fun _=>J5.cells.2.2.1) ?_;clear hK K J5 k5 o5 q2 cl;have q2:=HJ5.out.cells.2.2.1;have cl:=HJ5.out.hc.lt;have fz:=HJ5.out.hc.free 2
     iterate 3 refine Wz ?_
     refine aA rfl rfl rfl (fun K hK=>?_);unfold aw;go_simp;refine hK _ _ ?_;clear hK K;refine aB (fun _=>True) trivial (av ?_);clear q2 cl fz;have T6:=Hz (gT.join K5.out O5.out (HJ5.out.Bt (c2+(1+(s2.A.ai c2).2.1))));have T7:=Hz (gz.join K4.out O2.out (HC4.out.cut T6.out (HC4.out.ok.look HLT.out) (Sm.look HC4.out.ok.ok c2).nur));obtain ⟨wv7,ev7,C7,-,-⟩:=T7.out;have HC7:=Hz (nk C7.J.cells.2.2.1);clear C7;go_wp2_with fail;go_roundw
     case rel=>
      refine ⟨m-1,_,_,T7.out,?_,?_⟩
      ·rw [HE2.out];obtain ⟨m,rfl⟩:∃ k,m=k+1:=⟨m-1,by have:=HM2.out;have:=HLT.out;omega⟩;exact qL m HLT.out
      ·have:=HM2.out;have:=HF.out;have:=HLT.out;omega
     case measure=>
      have h1:=HQ.out;have h2:=HC7.out;have h3:=HF.out
      try dsimp only at h2
      rw [h1,h2];omega
    ·have hstop:=qK m hlt;have hd:decide (c2<(s2.A.grn:Int))=false:=by simpa using hlt
     have HSC:=Hz (HE2.out.trans hstop);have HLT:=Hz hlt;clear hlt hstop HQ HE2 HM2;go_wp2_with fail;refine a8 (.free 0 (.free 1 (.free 2 (.free 4 (.pure 3 (.run 5 (.free 6 (.fin)))))))) [] (Fa q2) ?_
     iterate 5 refine Wz ?_
     refine aM rfl rfl (fun K hK=>?_);unfold aw;go_simp;refine (qV (HC2.out.same ((Kz wr).drew)).J HC2.out.nb).mono ?_;rintro e w3 ⟨rfl,hk⟩;have HC3:=Hz (HC2.out.same ((Kz wr).drew.trans hk));have K3:=Hz (K2.out.trans (((Kz wr).drew.trans hk).mono (fun _ _ h=>h.elim)));refine hK _ _ (fun _=>HC3.out.J.cells.2.2.1) ?_;clear hK K hk q2 cl;refine Wz ?_;refine av ?_;clear HC2 K2;obtain ⟨eo,ec,hev,-,-,-⟩:=HC3.out.J.he.rd;dsimp only at hev;subst hev;have q4:=HC3.out.J.cells.2.2.2.2.1;have cl:=HC3.out.J.hc.lt
     try dsimp only at q4
     have heb:=HC3.out.ok.ms.eb;have hel:=HC3.out.ok.ms.len
     try dsimp only at heb hel
     have HEB:=Hz heb;clear heb;go_wp2_with fail;go_loopw [31] (fun u wr=>∃ k:Nat,k≤s2.ep.length∧u=.int .i64 k∧aT w3 H.pa H.g wr (gm s2.A (s2.ep.take k))) (fun u _=>s2.ep.length-(intOf u).toNat)
     case atStart=>exact ⟨0,Nat.zero_le _,rfl,aT.refl HC3.out.J.ha (aa.refl _ _)⟩
     case round=>
      clear q4 cl;obtain ⟨k,hk,rfl,t⟩:=hrel;have T:=Hz t;have JR:=Hz (HC3.out.J.bT t);clear t;by_cases hlt:k<s2.ep.length
      ·obtain ⟨_,_,e',rd,-,-⟩:=JR.out.he.rd;cases e';obtain ⟨ge,oe,rfl,d0⟩:=rd.int k hlt;have hgl:=(JR.out.he.own rfl).1;have hin:=HEB.out (s2.ep.getD k 0) (by rw [Ld,Le hlt];exact List.getElem_mem hlt);have HTK:=Hz (show gm s2.A (s2.ep.take (k+1))=jQ (gm s2.A (s2.ep.take k)) (s2.ep.getD k 0) by
        unfold gm
        rw [←List.take_append_getElem hlt,List.foldl_append,Ld,Le hlt];rfl)
       generalize s2.ep.getD k 0=i at *;generalize gm s2.A (s2.ep.take k)=B at *;have hi1:IntKind.i64.wrap (i+1)=i+1:=IntWalk.i64_in _ (by omega);have hi2:IntKind.i64.wrap (i+2)=i+2:=IntWalk.i64_in _ (by omega);have c0:=JR.out.cells.1;have p0:=JR.out.cells.2.2.2.2.2.1;have pl:=JR.out.hp.lt;have cl:=JR.out.hc.lt;clear rd;go_wp2_with fail;refine (eM (i+1) _ JR.out.ha).mono ?_;rintro e w4 ⟨rfl,rfl⟩;go_wp2_with fail;refine (iT (B.load (i+1)) JR.out).mono ?_;rintro e w4 ⟨rfl,rfl⟩;clear c0 p0 pl cl d0;cases hal:aW B (B.load (i+1))
       ·have HAL:=Hz hal;clear hal;go_wp2_with fail;go_roundw
        case rel=>exact ⟨k+1,hlt,by go_num,by rw [HTK.out,jQ,if_neg (by rw [HAL.out];decide)];exact T.out⟩
        case measure=>simp [intOf];omega
       ·have HAL:=Hz hal;clear hal;go_wp2_with fail;refine (nh (i+1) JR.out).mono ?_;rintro e w4 ⟨rfl,t⟩;have T4:=Hz t;have J4:=Hz (JR.out.bT t);clear t;go_wp2_with fail;refine (nh (i+2) J4.out).mono ?_;rintro e w5 ⟨rfl,t⟩;have T5:=Hz (T.out.trans (T4.out.trans t));clear t;go_wp2_with fail;go_roundw
        case rel=>exact ⟨k+1,hlt,by go_num,by rw [HTK.out,jQ,if_pos HAL.out];exact T5.out⟩
        case measure=>simp [intOf];omega
      ·obtain rfl:k=s2.ep.length:=by omega
       rw [List.take_length] at T JR;have hsm:=Sm.qD s2.ep HC3.out.ok.ok;have C4:=Hz (show CS wr H wv2 (.slice eo s2.ep.length ec) rv qv rg ⟨{ s2 with A:=gm s2.A s2.ep },c2,d1.q⟩ from by
        obtain ⟨a,b,J4,k4,o4⟩:=HC3.out.J.iW T.out
        exact ⟨JR.out,HC3.out.S.ab k4 (fun b hb hk=>HC3.out.J.cK HC3.out.S hk hb),HC3.out.ok.bT hsm.ok,HC3.out.q,by rw [HC3.out.nb];exact congrArg (fun x:Nat=>(x:Int)) hsm.nur.symm,HC3.out.ql⟩)
       have KA:=Hz (show aa (H.Own wv2 (.slice eo s2.ep.length ec)) w3 wr from T.out.k.mono (fun k _ hk=>hk.elim (fun h=>.inr (.inl h)) (fun h=>.inr (.inr (.inl h)))));clear T JR hsm;generalize hA2:gm s2.A s2.ep=A2 at C4;have HA2:=Hz hA2;clear hA2;have c0:=C4.out.J.cells.1;have p2:=C4.out.J.cells.2.2.2.2.2.2.2.1;have pl:=C4.out.J.hp.lt;have cl:=C4.out.J.hc.lt;go_wp2_with fail;refine a8 (.free 0 (.free 1 (.free 2 (.free 7 (.pure 3 (.free 4 (.free 5 (.pure 6 (.run 8 (.run 9 (.swi [] (.fin)))))))))))) [9] (Fz c0 (Fa p2)) ?_
       iterate 8 refine Wz ?_
       refine aM rfl rfl (fun K hK=>?_);unfold aw;go_simp;refine (sg (C4.out.J.same ((Kz wr).drew))).mono ?_;rintro e w4 ⟨rfl,hk⟩;have C5:=Hz (C4.out.same ((Kz wr).drew.trans hk));have K5:=Hz ((Kz wr).drew.trans hk);refine hK _ _ (fun _=>⟨C5.out.J.cells.1,C5.out.J.cells.2.2.2.2.2.2.2.1⟩) ?_;clear hK K hk c0 p2 pl cl C4
       skip
       refine aA rfl rfl rfl (fun K hK=>?_);unfold aw;go_simp;refine (Bh H.ps (Bu H wv2 (.slice eo s2.ep.length ec) s2.wk s2.ep c2) i3 (fun _ _ _=>rfl) A2 (H.Own wv2 (.slice eo s2.ep.length ec)) rv qv rg d1.q w4 (fun _ _ h _=>h) ⟨C5.out.J,rfl⟩ C5.out.S (fun k hk=>C5.out.J.cK C5.out.S hk.1 hk.2) C5.out.ql (fun e he=>C5.out.q e he)).mono ?_;rintro e w6 ⟨rfl,F6,hJ6,hS6,-,hk6,-,-⟩;refine hK _ _ ?_;clear hK K;refine aB (fun _=>True) trivial (av ?_);obtain ⟨⟨A3,q3,b3⟩,hW⟩:∃ t,wakeM aW i3 A2 d1.q=t:=⟨_,rfl⟩;have hsw:=Sm.e6 d1.q C5.out.ok.ok;have hqw:=j6.e6 d1.q (A:=A2) C5.out.q;have hlw:=lL aW i3 d1.q A2;dsimp only at hsw hqw hlw;replace hJ6:cB w6 H wv2 (.slice eo s2.ep.length ec) ⟨(wakeM aW i3 A2 d1.q).1,s2.wk,s2.ep⟩ c2:=hJ6.1;replace hS6:aZ w6 H.ps rv qv rg (wakeM aW i3 A2 d1.q).2.1:=hS6;replace hk6:aa (fun b=>H.Own wv2 (.slice eo s2.ep.length ec) b∨aF H.ps rv qv b) w4 w6:=hk6;rw [hW] at hsw hqw hlw hJ6 hS6;dsimp only at hsw hqw hlw hJ6 hS6;have HRD:=Hz (xB HSC.out HA2.out hW);have C6:=Hz (show CS w6 H wv2 (.slice eo s2.ep.length ec) rv qv rg (bE d1) by
        rw [HRD.out]
        exact ⟨hJ6,hS6,C5.out.ok.bT hsw.ok,hqw,by rw [hsw.nur];exact C5.out.nb,by dsimp only;rw [hlw];exact C5.out.ql⟩)
       have T6:=Hz (show gz w H wv ev rv qv rg (bE d1) w6 from gz.join K1.out O1.out ⟨wv2,_,C6.out,by
        have k1:aa (fun k=>H.Own wv1 ev1 k∨aF H.ps rv qv k) w1 w3:=K3.out;have k2:aa (fun k=>H.Own wv2 (.slice eo s2.ep.length ec) k∨aF H.ps rv qv k) w3 w6:=((KA.out.mono (fun _ _ h=>.inl h)).trans (K5.out.mono (fun _ _ h=>h.elim))).trans hk6;exact k1.then k2 (fun k hk=>by
         rcases hk with hk | hk
         ·exact (O2.out k hk).imp .inl id
         ·exact .inl (.inr hk)),O2.out⟩)
       have HG:=Hz (show (bE d1).s.A.grn=A3.grn∧(bE d1).c=c2 by rw [HRD.out];exact ⟨rfl,rfl⟩);clear hW hsw hqw hlw hJ6 hS6 hk6 C5 K5 KA HA2 HSC HRD hel;have q2:=C6.out.J.cells.2.2.1;have cl:=C6.out.J.hc.lt;rw [HG.out.2] at q2;go_wp2_with fail;refine a8 (.free 0 (.free 1 (.free 2 (.free 4 (.pure 3 (.run 5 (.free 6 (.free 7 (.fin))))))))) [] (Fa q2) ?_
       iterate 5 refine Wz ?_
       refine aM rfl rfl (fun K hK=>?_);unfold aw;go_simp;refine (qV (C6.out.same ((Kz w6).drew)).J C6.out.nb).mono ?_;rintro e w7 ⟨rfl,hk⟩;have K7:=Hz ((Kz w6).drew.trans hk);have C7:=Hz (C6.out.same K7.out);refine hK _ _ (fun _=>by have:=C7.out.J.cells.2.2.1;rw [HG.out.2] at this;exact this) ?_;clear hK K hk q2 cl;rw [HG.out.1];have T7:=Hz (show gz w H wv ev rv qv rg (bE d1) w7 by
        obtain ⟨a,b,c,k,o⟩:=T6.out
        exact ⟨a,b,c.same K7.out,k.trans (K7.out.mono (fun _ _ h=>h.elim)),o⟩)
       have HRO:=Hz (gu.round HC1.out.ok);have HSR:=Hz (Sm.round d1 HC1.out.ok.ok).grn;have HD1:=Hz (And.intro HC1.out.ok.c1 (And.intro HC1.out.ok.ok.h3 HC1.out.ok.ok.h4));have HD2:=Hz (And.intro C7.out.ok.c1 (And.intro C7.out.ok.ok.h3 C7.out.ok.ok.h4));by_cases hmore:c2<A3.grn
       ·have hd:decide (c2<(A3.grn:Int))=true:=by simpa using hmore
        have HM:=Hz (show (bE d1).c<(bE d1).s.A.grn by rw [HG.out.1,HG.out.2];exact hmore);have HMU7:=Hz (np C7.out true);clear hmore
        iterate 2 refine Wz ?_
        refine av ?_;go_wp2_with fail;go_roundw
        case rel=>
         refine .inl ⟨n-1,bE d1,rfl,T7.out,?_,?_, .inr HM.out⟩
         ·rw [HE.out];obtain ⟨n,rfl⟩:∃ k,n=k+1:=⟨n-1,by have:=HN.out;have:=HD1.out;omega⟩;exact uA _ HM.out
         ·have h1:=HN.out;have h2:=HRO.out;have h3:=HGR.out;have h4:=HD1.out;rcases h3 with h3 | h3
          ·have:=h2.1.c0;omega
          ·have:=h2.2.2 h3;omega
        case measure=>
         have h1:=HMU.out;have h2:=HMU7.out;have h3:=HRO.out;have h4:=HSR.out;have h5:=HM.out;have h6:=HD1.out;have h7:=HD2.out;rw [h1,h2];have:=h3.2.1;by_cases hq:d1.c<d1.s.A.grn
         ·have:=h3.2.2 hq;simp only [if_true];omega
         ·simp only [if_true];omega
       ·have hd:decide (c2<(A3.grn:Int))=false:=by simpa using hmore
        have HM:=Hz (show ¬ (bE d1).c<(bE d1).s.A.grn by rw [HG.out.1,HG.out.2];exact hmore);have HMU7:=Hz (np C7.out false);clear hmore
        iterate 2 refine Wz ?_
        refine av ?_;go_wp2_with fail;go_roundw
        case rel=>exact .inr ⟨rfl,by rw [HE.out,uB _ HM.out];exact T7.out⟩
        case measure=>
         have h1:=HMU.out;have h2:=HMU7.out;have h3:=HRO.out;have h4:=HSR.out;have h6:=HD1.out;have h7:=HD2.out;rw [h1,h2];have:=h3.2.1;simp only [if_true,Bool.false_eq_true,if_false];omega
  ·have HT:=Hz ht;clear ht;go_wp2_with fail;go_end0;exact ⟨rfl,HT.out⟩
end
end
section
open Go.RowKit
section
variable {w w':World} {H:CH} {wv ev rv qv:Value} {rg:List (Int × Int)} {d:Md} {s:Ms} {c:Int}
abbrev nr (w:World) (b:Nat) (H:CH):Prop:=aj w b [.pointer (some ⟨H.pc,0,none⟩)] 102
def yT (w:World) (H:CH) (e:Ending) (w':World):Prop:=
 ∃ b,e=.returned (.agg #[.func (.func 119) #[.pointer (some ⟨H.pc,0,none⟩)] #[], .func (.func 126) #[] #[.pointer (some ⟨b,0,none⟩)], .func (.func 121) #[.pointer (some ⟨H.pc,0,none⟩)] #[]]) ∧
  nr w' b H∧aa (fun _=>False) w w'∧w.heap.size≤b
theorem yU (J:cB w H wv ev s c) :
  Calls Tryz.prog 61 #[.pointer (some ⟨H.pc,0,none⟩)] w (yT w H):=by
 have HJ:=Hz J;clear J;go_enter Tryz.func61,Tryz.ntmps61;go_wp2_with fail;generalize hwa:(w.alloc (.cells #[.pointer (some ⟨H.pc,0,none⟩)] 102)).alloc (.cells #[.nilFunc, .nilFunc, .nilFunc] 113)=wa;have HB:=Hz (show nr wa w.heap.size H by rw [←hwa];exact aj.alloc (aj.newAt _ rfl rfl) _);have HR:=Hz (show aj wa (w.heap.size+1) [.nilFunc, .nilFunc, .nilFunc] 113 by rw [←hwa];exact aj.newAt _ (by simp) rfl);have HK:=Hz (show aa (fun _=>False) w wa by rw [←hwa];exact ((aa.refl _ _).alloc _).alloc _);clear hwa;refine (sg (HJ.out.same HK.out)).mono ?_;rintro e w1 ⟨rfl,hk⟩;have HB1:=Hz (hk.aq HB.out (fun h=>h));have HR1:=Hz (hk.aq HR.out (fun h=>h));have HK1:=Hz (HK.out.trans hk);clear hk HB HR HK;unfold sD;have r0:=HR1.out.cell 0;have r1:=HR1.out.cell 1;have r2:=HR1.out.cell 2;have rl:=HR1.out.lt;have f0:=HR1.out.free 0;have f1:=HR1.out.free 1;have f2:=HR1.out.free 2;simp only [Lz,aC] at r0 r1 r2;go_wp2_with fail;have dX:=(((HR1.out.aG 0 (.func (.func 119) #[.pointer (some ⟨H.pc,0,none⟩)] #[])).aG 1 (.func (.func 126) #[] #[.pointer (some ⟨w.heap.size,0,none⟩)])).aG 2 (.func (.func 121) #[.pointer (some ⟨H.pc,0,none⟩)] #[])).alloc (.cells #[.func (.func 119) #[.pointer (some ⟨H.pc,0,none⟩)] #[], .func (.func 126) #[] #[.pointer (some ⟨w.heap.size,0,none⟩)], .func (.func 121) #[.pointer (some ⟨H.pc,0,none⟩)] #[]] 113);have hk3:=((((aa.refl (·=w.heap.size+1) w1).setCell (p:=⟨w.heap.size+1,0,none⟩) (.inl rfl) (.func (.func 119) #[.pointer (some ⟨H.pc,0,none⟩)] #[])).setCell (p:=⟨w.heap.size+1,1,none⟩) (.inl rfl) (.func (.func 126) #[] #[.pointer (some ⟨w.heap.size,0,none⟩)])).setCell (p:=⟨w.heap.size+1,2,none⟩) (.inl rfl) (.func (.func 121) #[.pointer (some ⟨H.pc,0,none⟩)] #[])).alloc (.cells #[.func (.func 119) #[.pointer (some ⟨H.pc,0,none⟩)] #[], .func (.func 126) #[] #[.pointer (some ⟨w.heap.size,0,none⟩)], .func (.func 121) #[.pointer (some ⟨H.pc,0,none⟩)] #[]] 113);have l0:=dX.cell 0;have l1:=dX.cell 1;have l2:=dX.cell 2;simp only [Lz,aC,List.set_cons_zero,List.set_cons_succ] at l0 l1 l2;refine bodyPost_ret (v:=.agg #[.func (.func 119) #[.pointer (some ⟨H.pc,0,none⟩)] #[], .func (.func 126) #[] #[.pointer (some ⟨w.heap.size,0,none⟩)], .func (.func 121) #[.pointer (some ⟨H.pc,0,none⟩)] #[]]) (by simp [results,Tryz.results61,go_sem,l0,l1,l2]) rfl ⟨w.heap.size,rfl,hk3.aq HB1.out (by omega),HK1.out.then hk3 (fun k hk=>.inr (by omega)),Nat.le_refl _⟩
theorem xL (x:Int) (b:Nat) (C:CS w H wv ev rv qv rg d) (hb:nr w b H) :
  Calls Tryz.prog 126 #[.int .i64 x, .pointer (some ⟨b,0,none⟩)] w fun e w'=>e=.returned (.int .i64 (cQ (bD d.s.A x) x))∧gz w H wv ev rv qv rg (mDrain 2000 ⟨{ d.s with A:=bD d.s.A x },d.c,d.q⟩) w':=by
 have HC:=Hz C;have HB:=Hz hb;have b0:=hb.cell 0;have bl:=hb.lt;simp only [Lz] at b0;clear C hb;go_enter Tryz.func126,Tryz.ntmps126;go_wp2_with fail;refine (ng x HC.out.J).mono ?_;rintro e w1 ⟨rfl,t⟩;have hsm:=Sm.iI HC.out.ok.ok x;obtain ⟨a1,b1,J1,k1,o1⟩:=HC.out.J.iW t;have C1:=Hz (show CS w1 H wv ev rv qv rg ⟨{ d.s with A:=bD d.s.A x },d.c,d.q⟩ from
  ⟨HC.out.J.bT t,HC.out.S.ab k1 (fun b hb hk=>HC.out.J.cK HC.out.S hk hb),HC.out.ok.bT hsm.ok,HC.out.q,by rw [HC.out.nb];exact congrArg (fun x:Nat=>(x:Int)) hsm.nur.symm,HC.out.ql⟩)
 have K1:=Hz (show aa (H.Own wv ev) w w1 from k1);have HB1:=Hz (show nr w1 b H from k1.aq HB.out (fun h=>by
  obtain ⟨_,T,h',hT⟩:=HC.out.J.bB h;refine HB.out.ne h' ?_ rfl
  rcases hT with rfl | rfl | rfl | rfl | rfl <;> decide))
 clear b0 bl t hsm J1 k1 o1;have b0:=HB1.out.cell 0;have bl:=HB1.out.lt;simp only [Lz] at b0;go_wp2_with fail;refine (tQ C1.out).mono ?_;rintro e w2 ⟨rfl,t⟩;have T2:=Hz (gz.join (K1.out.mono (fun _ _ h=>.inl h)) (fun k hk=>.inl hk) t);clear t b0 bl;go_wp2_with fail;go_ret;exact ⟨rfl,T2.out⟩
def pQ (H:CH) (b:Nat):eH Tryz.prog H.ps Mt where
 J:=fun w t F=>∃ wv ev,cB w H wv ev t.1 t.2∧gu t.1 t.2∧H.base=t.1.A.nur∧nr w b H∧F=fun k=>H.Own wv ev k∨k=b
 D:=fun _ x=>a9 x
 DK:=fun _ x=>a9 x
 alive:=bL
 ab:=gE
 now:=fh
 fa:=119
 fk:=126
 fn:=121
 a1:=#[.pointer (some ⟨H.pc,0,none⟩)]
 a2:=#[]
 k1:=#[]
 k2:=#[.pointer (some ⟨b,0,none⟩)]
 n1:=#[.pointer (some ⟨H.pc,0,none⟩)]
 n2:=#[]
 ea:=fun args w=>by kernel_rfl
 ek:=fun args w=>by kernel_rfl
 en:=fun args w=>by kernel_rfl
 J_keep:=fun h k hn=>by
  obtain ⟨wv,ev,h1,h2,h3,h4,rfl⟩:=h;exact ⟨wv,ev,h1.ab k (fun b hb=>hn b (.inl hb)),h2,h3,k.aq h4 (hn _ (.inr rfl)),rfl⟩
 J_lt:=fun h hk=>by
  obtain ⟨wv,ev,h1,h2,h3,h4,rfl⟩:=h;rcases hk with hk | rfl
  ·exact h1.a5 hk
  ·exact h4.lt
 cS:=fun w t F x hJ _=>by
  obtain ⟨wv,ev,h1,-⟩:=hJ;exact (iT x h1).mono (by rintro e w' ⟨rfl,rfl⟩;exact ⟨rfl,aa.refl _ _⟩)
 now_c:=fun w t F x hJ _=>by
  obtain ⟨wv,ev,h1,-⟩:=hJ;exact (oz x h1).mono (by rintro e w' ⟨rfl,rfl⟩;exact ⟨rfl,aa.refl _ _⟩)
 keep_c:=fun w t F rv qv ah wait x hJ hS hA hx hq hl=>by
  obtain ⟨wv,ev,h1,h2,h3,h4,rfl⟩:=hJ;refine (xL (d:=⟨t.1,t.2,wait⟩) x b ⟨h1,hS,h2,fun e he=>hq e he,h3,hl⟩ h4).mono ?_;rintro e w' ⟨rfl,wv',ev',C',k',o'⟩;refine ⟨rfl,_,⟨wv',ev',C'.J,C'.ok,C'.nb,k'.aq h4 (fun h=>?_),rfl⟩,C'.S,fun k hk=>?_,k'.mono (fun k _ hk=>hk.elim (fun h=>.inl (.inl h)) .inr),fun k hk=>?_⟩
  ·rcases h with h | h
   ·obtain ⟨_,T,h',hT⟩:=h1.bB h;refine h4.ne h' ?_ rfl;rcases hT with rfl | rfl | rfl | rfl | rfl <;> decide
   ·exact hA b ⟨.inr rfl,h⟩
  ·rcases hk with ⟨hk | hk,hs⟩
   ·exact C'.J.cK C'.S hk hs
   ·exact hA k ⟨.inr hk,hs⟩
  ·rcases hk with hk | hk
   ·exact (o' k hk).imp .inl id
   ·exact .inl (.inr hk)
 DK_D:=fun h=>h
 DK_keep:=fun _ h=>h
 D_keep:=fun _ h=>h
 D_new:=fun h=>hH h
 D_wait:=fun {t wait x} _ h=>j6.drain 2000 (d:=⟨{ t.1 with A:=bD t.1.A x },t.2,wait⟩) h
 keep_len:=mP _ _
theorem tR (i:Int) (q:Bool) (b:Nat) (J:cB w H wv ev s c) (hb:nr w b H) :
  Calls Tryz.prog 127 #[.int .i64 i, .bool q, .pointer (some ⟨b,0,none⟩)] w fun e w'=>e=.returned (.tuple #[])∧aT w H.pa H.g w' (gO s.A i q):=by
 have HJ:=Hz J;have HB:=Hz hb;have b0:=hb.cell 0;have bl:=hb.lt;simp only [Lz] at b0;clear J hb;obtain ⟨c0,-,-,-,-,p0,-,-,-⟩:=HJ.out.cells;have pl:=HJ.out.hp.lt;have cl:=HJ.out.hc.lt;have HD:=Hz (HJ.out.same ((Kz w).drew));cases q
 ·go_enter Tryz.func127,Tryz.ntmps127;go_wp2_with fail;refine a8 (.free 7 (.free 16 (.pure 0 (.free 1 (.free 2 (.pure 3 (.free 4 (.free 5 (.pure 6 (.pure 8 (.pure 9 (.free 10 (.free 11 (.pure 12 (.free 13 (.free 14 (.pure 15 (.run 17 (.run 18 (.run 19 (.swi [] (.fin)))))))))))))))))))))) [19] (Fz b0 (Fz c0 (Fa p0))) ?_
  iterate 17 refine Wz ?_
  refine aM rfl rfl (fun K hK=>?_);unfold aw;go_simp;refine (eM i _ HD.out.ha).mono ?_;rintro e w1 ⟨rfl,rfl⟩;refine hK _ _ (fun h=>h) ?_;clear hK K;refine aM rfl rfl (fun K hK=>?_);unfold aw;go_simp;refine (oz (s.A.load i) HD.out).mono ?_;rintro e w1 ⟨rfl,rfl⟩;refine hK _ _ (fun h=>h) ?_;clear hK K
  skip
  refine aA rfl rfl rfl (fun K hK=>?_);unfold aw;go_simp;have HR:=Hz (hH (A:=s.A) (HD.out.ha.ok.load i));refine (gI i _ _ HD.out.ha HR.out).mono ?_;rintro e w3 ⟨rfl,t⟩;have T2:=Hz (aT.aK (w:=w) ((Kz w).drew) t);clear t;refine hK _ _ ?_;clear hK K c0 p0 pl cl;refine aB (fun _=>True) trivial (av ?_);go_wp2_with fail;go_end0;exact ⟨rfl,T2.out⟩
 ·go_enter Tryz.func127,Tryz.ntmps127;go_wp2_with fail;refine a8 (.free 7 (.pure 0 (.free 1 (.free 2 (.pure 3 (.free 4 (.free 5 (.pure 6 (.run 8 (.run 9 (.swi [] (.fin)))))))))))) [9] (Fz b0 (Fz c0 (Fa p0))) ?_
  iterate 8 refine Wz ?_
  refine aM rfl rfl (fun K hK=>?_);unfold aw;go_simp;refine (sM _).mono ?_;rintro e w1 ⟨rfl,rfl⟩;refine hK _ _ (fun h=>h) ?_;clear hK K
  skip
  refine aA rfl rfl rfl (fun K hK=>?_);unfold aw;go_simp;refine (gI i 3 _ HD.out.ha (by unfold a9;omega)).mono ?_;rintro e w3 ⟨rfl,t⟩;have T2:=Hz (aT.aK (w:=w) ((Kz w).drew) t);clear t;refine hK _ _ ?_;clear hK K c0 p0 pl cl;refine aB (fun _=>True) trivial (av ?_);go_wp2_with fail;go_end0;exact ⟨rfl,T2.out⟩
end
end
section
open Go.RowKit
def Ao (A:Ar) (i:Int):Ar:=gO A (i+1) (!aW A (A.load (i+1)))
theorem uF {A:Ar} {l:List Int} {k:Nat} (h:k<l.length):fB A (l.take (k+1))=Ao (fB A (l.take k)) (l.getD k 0):=by
 unfold fB;rw [←List.take_append_getElem h,List.foldl_append,Ld,Le h];rfl
theorem uG {A:Ar} {l:List Int} {k:Nat} (h:k<l.length):(l.take (k+1)).foldl cX A=cX ((l.take k).foldl cX A) (l.getD k 0):=by
 rw [←List.take_append_getElem h,List.foldl_append,Ld,Le h];rfl
section
variable {w w':World} {H:CH} {wv ev rv qv:Value} {rg:List (Int × Int)} {d:Md} {s:Ms} {c:Int}
theorem cB.var (J:cB w H wv ev s c) {b:Nat} (hb:nr w b H) {A:Ar} (t:aT w H.pa H.g w' A):nr w' b H:=t.k.aq hb (fun h=>by
 rcases h with h | h
 ·exact hb.ne J.ha.hp (by decide) h
 ·exact hb.ne J.ha.hg (by decide) h)
theorem Ap (J:cB w H wv ev s c) (hs:kf s 100000) :
  Calls Tryz.prog 62 #[.pointer (some ⟨H.pc,0,none⟩)] w fun e w'=>e=.returned (.tuple #[])∧aT w H.pa H.g w' (jR s):=by
 obtain ⟨wo,wc,hwv,-,-,-⟩:=J.hw.rd;obtain ⟨eo,ec,hev,-,-,-⟩:=J.he.rd;subst hwv;subst hev;have HJ0:=Hz J;have hwb:=hs.wb;have heb:=hs.eb;have hl:=hs.len;have HWB:=Hz hwb;have HEB:=Hz heb;clear J hwb heb hs;generalize hwx:w.alloc (.cells #[.pointer (some ⟨H.pc,0,none⟩)] 102)=wx;have HK:=Hz (show aa (fun _=>False) w wx by rw [←hwx];exact (aa.refl _ _).alloc _);have HB:=Hz (show nr wx w.heap.size H by rw [←hwx];exact aj.newAt _ rfl rfl);have HX:=Hz hwx;have HJ:=Hz (HJ0.out.same HK.out);clear hwx;have q3:=HJ0.out.cells.2.2.2.1;have cl:=HJ0.out.hc.lt;go_enter Tryz.func62,Tryz.ntmps62;go_wp2_with fail;rw [HX.out];go_loopw [14] (fun u wr=>∃ k:Nat,k≤s.wk.length∧u=.int .i64 k∧aT wx H.pa H.g wr (fB s.A (s.wk.take k))) (fun u _=>s.wk.length-(intOf u).toNat)
 case atStart=>exact ⟨0,Nat.zero_le _,rfl,aT.refl HJ.out.ha (aa.refl _ _)⟩
 case round=>
  clear q3 cl;obtain ⟨k,hk,rfl,t⟩:=hrel;have T:=Hz t;have JR:=Hz (HJ.out.bT t);have BR:=Hz (HJ.out.var HB.out t);clear t;have b0:=BR.out.cell 0;have bl:=BR.out.lt;simp only [Lz] at b0;have c0:=JR.out.cells.1;have p0:=JR.out.cells.2.2.2.2.2.1;have pl:=JR.out.hp.lt;have cl:=JR.out.hc.lt;by_cases hlt:k<s.wk.length
  ·obtain ⟨_,_,e',rd,-,-⟩:=JR.out.hw.rd;cases e';obtain ⟨ge,oe,rfl,d0⟩:=rd.int k hlt;have hgl:=(JR.out.hw.own rfl).1;have hin:=HWB.out (s.wk.getD k 0) (by rw [Ld,Le hlt];exact List.getElem_mem hlt);have HTK:=Hz (uF (A:=s.A) hlt);generalize s.wk.getD k 0=i at *;generalize fB s.A (s.wk.take k)=B at *;have hi1:IntKind.i64.wrap (i+1)=i+1:=IntWalk.i64_in _ (by omega);clear rd;go_wp2_with fail;have JD:=Hz (JR.out.same ((Kz wr).drew));have BD:=Hz (((Kz wr).drew).aq BR.out (fun h=>h));refine a8 (.free 0 (.free 1 (.free 2 (.free 11 (.free 12 (.pure 3 (.pure 4 (.free 5 (.free 6 (.pure 7 (.free 8 (.free 9 (.pure 10 (.run 13 (.run 14 (.swi [16] (.free 15 (.run 16 (.swi [] (.fin)))))))))))))))))))) [14,15,16] (Fz b0 (Fz c0 (Fa p0))) ?_
   iterate 13 refine Wz ?_
   refine aM rfl rfl (fun K hK=>?_);unfold aw;go_simp;refine (eM (i+1) _ JD.out.ha).mono ?_;rintro e w1 ⟨rfl,rfl⟩;refine hK _ _ (fun h=>h) ?_;clear hK K;refine aA rfl rfl rfl (fun K hK=>?_);unfold aw;go_simp;refine (iT (B.load (i+1)) JD.out).mono ?_;rintro e w1 ⟨rfl,rfl⟩;refine hK _ _ ?_;clear hK K;refine aB (fun _=>True) trivial ?_;refine Wz ?_;refine aA rfl rfl rfl (fun K hK=>?_);unfold aw;go_simp;refine (tR (i+1) (!aW B (B.load (i+1))) w.heap.size JD.out BD.out).mono ?_;rintro e w2 ⟨rfl,t⟩;have T2:=Hz (T.out.trans (aT.aK ((Kz wr).drew) t));clear t;refine hK _ _ ?_;clear hK K;refine aB (fun _=>True) trivial (av ?_);clear b0 bl c0 p0 pl cl d0;go_wp2_with fail;go_roundw
   case rel=>exact ⟨k+1,hlt,by go_num,by rw [HTK.out];exact T2.out⟩
   case measure=>simp [intOf];omega
  ·obtain rfl:k=s.wk.length:=by omega
   rw [List.take_length] at T JR;have HW0:=Hz (show jR s=s.ep.foldl cX (fB s.A s.wk) from rfl);generalize fB s.A s.wk=B at *;obtain ⟨w1,rfl⟩:∃ x:World,x=wr:=⟨wr,rfl⟩;have q4:=JR.out.cells.2.2.2.2.1
   try dsimp only at q4
   go_wp2_with fail;go_loopw [41] (fun u wr=>∃ k:Nat,k≤s.ep.length∧u=.int .i64 k∧aT w1 H.pa H.g wr ((s.ep.take k).foldl cX B)) (fun u _=>s.ep.length-(intOf u).toNat)
   case atStart=>exact ⟨0,Nat.zero_le _,rfl,aT.refl JR.out.ha (aa.refl _ _)⟩
   case round=>
    clear b0 bl c0 p0 pl cl q4;obtain ⟨k,hk,rfl,t⟩:=hrel;have T4:=Hz t;have JQ:=Hz (JR.out.bT t);have BQ:=Hz (JR.out.var BR.out t);clear t;have b0:=BQ.out.cell 0;have bl:=BQ.out.lt;simp only [Lz] at b0;have c0:=JQ.out.cells.1;have p0:=JQ.out.cells.2.2.2.2.2.1;have pl:=JQ.out.hp.lt;have cl:=JQ.out.hc.lt;by_cases hlt2:k<s.ep.length
    ·obtain ⟨_,_,e',rd,-,-⟩:=JQ.out.he.rd;cases e';obtain ⟨ge,oe,rfl,d0⟩:=rd.int k hlt2;have hgl:=(JQ.out.he.own rfl).1;have hin:=HEB.out (s.ep.getD k 0) (by rw [Ld,Le hlt2];exact List.getElem_mem hlt2);have HTK:=Hz (uG (A:=B) hlt2);generalize s.ep.getD k 0=i at *;generalize (s.ep.take k).foldl cX B=D at *;have hi1:IntKind.i64.wrap (i+1)=i+1:=IntWalk.i64_in _ (by omega);have hi2:IntKind.i64.wrap (i+2)=i+2:=IntWalk.i64_in _ (by omega);clear rd;go_wp2_with fail;have JD:=Hz (JQ.out.same ((Kz wr).drew));have BD:=Hz (((Kz wr).drew).aq BQ.out (fun h=>h));refine a8 (.free 8 (.free 9 (.pure 0 (.pure 1 (.free 2 (.free 3 (.pure 4 (.free 5 (.free 6 (.pure 7 (.run 10 (.run 11 (.swi [] (.free 12 (.free 13 (.fin)))))))))))))))) [11,12,13] (Fz b0 (Fz c0 (Fa p0))) ?_
     iterate 10 refine Wz ?_
     refine aM rfl rfl (fun K hK=>?_);unfold aw;go_simp;refine (eM (i+1) _ JD.out.ha).mono ?_;rintro e w2 ⟨rfl,rfl⟩;refine hK _ _ (fun h=>h) ?_;clear hK K;refine aA rfl rfl rfl (fun K hK=>?_);unfold aw;go_simp;refine (iT (D.load (i+1)) JD.out).mono ?_;rintro e w2 ⟨rfl,rfl⟩;refine hK _ _ ?_;clear hK K;refine aB (fun _=>True) trivial ?_
     iterate 2 refine Wz ?_
     refine av ?_;clear b0 bl c0 p0 pl cl d0;generalize hdd:(!aW D (D.load (i+1)))=dd;have HDD:=Hz hdd;clear hdd;go_wp2_with fail;refine (tR (i+1) dd w.heap.size JD.out BD.out).mono ?_;rintro e w3 ⟨rfl,t⟩;have T3:=Hz (T4.out.trans (aT.aK ((Kz wr).drew) t));have J3:=Hz (JD.out.bT t);have B3:=Hz (JD.out.var BD.out t);clear t;go_wp2_with fail;refine (tR (i+2) dd w.heap.size J3.out B3.out).mono ?_;rintro e w4 ⟨rfl,t⟩;have T5:=Hz (T3.out.trans t);clear t;go_wp2_with fail;go_roundw
     case rel=>exact ⟨k+1,hlt2,by go_num,by rw [HTK.out,cX,HDD.out];exact T5.out⟩
     case measure=>simp [intOf];omega
    ·obtain rfl:k=s.ep.length:=by omega
     rw [List.take_length,←HW0.out] at T4;have T6:=Hz (aT.aK HK.out (T.out.trans T4.out));clear T4 JQ BQ;go_wp2_with fail;go_end0;exact ⟨rfl,T6.out⟩
end
end
section
open Go.RowKit
theorem pd:∀ (l:List Int) (A:Ar) (x:Int),mRoots A (l ++ [x])=(bD (mRoots A l).1 x,(mRoots A l).2 ++ [cQ (bD (mRoots A l).1 x) x])
 | [],A,x=>rfl
 | y :: l,A,x=>by
  show ((mRoots (bD A y) (l ++ [x])).1,cQ (bD A y) y :: (mRoots (bD A y) (l ++ [x])).2)=_
  rw [pd l]
  rfl
theorem kM:∀ (l:List Int) (A:Ar),(mRoots A l).2.length=l.length
 | [],A=>rfl
 | y :: l,A=>by
  show (cQ (bD A y) y :: (mRoots (bD A y) l).2).length=_
  rw [List.length_cons,kM l,List.length_cons]
def ik (A:Ar) (rt:List Int) (k:Nat):List Int:=(mRoots A (rt.take k)).2 ++ rt.drop k
theorem wh {A:Ar} {rt:List Int} {k:Nat} (h:k≤rt.length):(ik A rt k).length=rt.length:=by
 unfold ik;rw [List.length_append,kM,List.length_take,List.length_drop];omega
theorem wi {A:Ar} {rt:List Int} {k:Nat} (h:k<rt.length):(ik A rt k).getD k 0=rt.getD k 0:=by
 unfold ik;have hl:(mRoots A (rt.take k)).2.length=k:=by rw [kM,List.length_take];omega
 rw [Ld,List.getElem?_append_right (by omega),hl,Nat.sub_self,List.getElem?_drop,Nat.add_zero,Ld]
theorem uH {A:Ar} {rt:List Int} {k:Nat} (h:k<rt.length):(mRoots A (rt.take (k+1))).1=bD (mRoots A (rt.take k)).1 (rt.getD k 0) ∧
  (ik A rt k).set k (cQ (bD (mRoots A (rt.take k)).1 (rt.getD k 0)) (rt.getD k 0))=ik A rt (k+1):=by
 have e:rt.getD k 0=rt[k]:=by rw [Ld,Le h];rfl
 have hs:=pd (rt.take k) A (rt[k]);rw [List.take_append_getElem h] at hs;have hl:(mRoots A (rt.take k)).2.length=k:=by rw [kM,List.length_take];omega
 rw [e];refine ⟨by rw [hs],?_⟩;unfold ik;rw [hs,List.set_append_right _ _ (by omega),hl,Nat.sub_self,List.drop_eq_getElem_cons h,List.set_cons_zero,List.append_assoc]
 rfl
structure MC (w0:World) (h:WH) (w:World) (pc:Nat) (n0:Int) (wv ev rv qv:Value) (cd:List Bool) (rt:List Int) (rg:List (Int × Int)) (d:Md):Prop where
 C:CS w ⟨h.p,h.pa,h.g,h.pc,h.ps,h.ro,pc,n0⟩ wv ev rv qv rg d
 hc:cP w h.pc h.cb n0 cd
 hr:Sl w 2 1 h.ro rt.length (rt.map (Value.int .i64))
 ap:¬ ak h.ro h.g
 K:aa h.Own w0 w
 own:∀ k,((CH.mk h.p h.pa h.g h.pc h.ps h.ro pc n0).Own wv ev k∨aF h.ps rv qv k)→h.Own k∨w0.heap.size≤k
section
variable {w0 w w':World} {h:WH} {pc:Nat} {n0:Int} {wv ev rv qv:Value} {cd:List Bool} {rt:List Int} {rg:List (Int × Int)} {d d':Md}
theorem MC.type (M:MC w0 h w pc n0 wv ev rv qv cd rt rg d) {b:Nat} {l:List Value} {T:TypeId} (hb:aj w b l T) (h1:T≠52∧T≠141∧T≠2∧T≠104∧T≠3∧T≠133∧T≠101) :
  ¬ ((CH.mk h.p h.pa h.g h.pc h.ps h.ro pc n0).Own wv ev b∨aF h.ps rv qv b):=by
 rintro (hk | hk)
 ·obtain ⟨_,U,h',hU⟩:=M.C.J.bB hk;refine hb.ne h' ?_ rfl;rcases hU with rfl | rfl | rfl | rfl | rfl
  ·exact h1.1
  ·exact h1.2.1
  ·exact h1.2.2.1
  ·exact h1.2.2.2.1
  ·exact h1.2.2.2.2.1
 ·obtain ⟨_,U,h',hU⟩:=M.C.S.cF hk;refine hb.ne h' ?_ rfl;rcases hU with rfl | rfl
  ·exact h1.2.2.2.2.2.1
  ·exact h1.2.2.2.2.2.2
theorem MC.ns (M:MC w0 h w pc n0 wv ev rv qv cd rt rg d) {b:Nat} (hb:ak h.ro b):¬ ((CH.mk h.p h.pa h.g h.pc h.ps h.ro pc n0).Own wv ev b∨aF h.ps rv qv b):=by
 obtain ⟨_,l,hbl⟩:=M.hr.own hb;rintro ((hk | hk | hk | hk | hk | hk) | hk)
 ·exact hbl.ne M.C.J.hp (by decide) hk
 ·exact hbl.ne M.C.J.ha.hp (by decide) hk
 ·subst hk;exact M.ap hb
 ·exact hbl.ne M.C.J.hc (by decide) hk
 ·obtain ⟨_,l',h'⟩:=M.C.J.hw.own hk;exact hbl.ne h' (by decide) rfl
 ·obtain ⟨_,l',h'⟩:=M.C.J.he.own hk;exact hbl.ne h' (by decide) rfl
 ·obtain ⟨_,U,h',hU⟩:=M.C.S.cF hk;refine hbl.ne h' ?_ rfl;rcases hU with rfl | rfl <;> decide
theorem MC.step (M:MC w0 h w pc n0 wv ev rv qv cd rt rg d) (t:gz w ⟨h.p,h.pa,h.g,h.pc,h.ps,h.ro,pc,n0⟩ wv ev rv qv rg d' w'):∃ wv' ev',MC w0 h w' pc n0 wv' ev' rv qv cd rt rg d'∧∀ k,(CH.mk h.p h.pa h.g h.pc h.ps h.ro pc n0).Own wv' ev' k→(CH.mk h.p h.pa h.g h.pc h.ps h.ro pc n0).Own wv ev k∨w.heap.size≤k:=by
 obtain ⟨a,b,C',k,o⟩:=t;refine ⟨a,b,⟨C',M.hc.ab k (M.type M.hc.hp (by decide)) (M.type M.hc.hq (by decide)),M.hr.ab k (fun b hb=>M.ns hb),M.ap,M.K.then k (fun k hk=>M.own k hk),fun k hk=>?_⟩,o⟩;rcases hk with hk | hk
 ·rcases o k hk with h1 | h1
  ·exact M.own k (.inl h1)
  ·exact .inr (Nat.le_trans M.K.size h1)
 ·exact M.own k (.inr hk)
theorem MC.same (M:MC w0 h w pc n0 wv ev rv qv cd rt rg d) (k:aa (fun _=>False) w w'):MC w0 h w' pc n0 wv ev rv qv cd rt rg d:=
 ⟨M.C.same k,M.hc.ab k (fun h=>h) (fun h=>h),M.hr.ab k (fun _ _ h=>h),M.ap,M.K.trans (k.mono fun _ _ h=>h.elim),M.own⟩
def nt (h:WH) (pc:Nat) (n0:Int) (sz:Nat) (wv ev:Value):Prop:=∀ k,(CH.mk h.p h.pa h.g h.pc h.ps h.ro pc n0).Own wv ev k→(k=h.p∨k=h.pa∨k=h.g∨k=pc)∨sz≤k
theorem nt.nil (h:WH) (pc:Nat) (n0:Int) (sz:Nat):nt h pc n0 sz (.slice none 0 0) (.slice none 0 0):=by
 rintro k (h | h | h | h | h | h)
 ·exact .inl (.inl h)
 ·exact .inl (.inr (.inl h))
 ·exact .inl (.inr (.inr (.inl h)))
 ·exact .inl (.inr (.inr (.inr h)))
 ·exact (ck h).elim
 ·exact (ck h).elim
theorem nt.step {sz:Nat} {wv' ev':Value} (hI:nt h pc n0 sz wv ev) (o:∀ k,(CH.mk h.p h.pa h.g h.pc h.ps h.ro pc n0).Own wv' ev' k→(CH.mk h.p h.pa h.g h.pc h.ps h.ro pc n0).Own wv ev k∨w.heap.size≤k) (hsz:sz≤w.heap.size):nt h pc n0 sz wv' ev':=fun k hk=>by
 rcases o k hk with h1 | h1
 ·exact hI k h1
 ·exact .inr (Nat.le_trans hsz h1)
theorem MC.qX (M:MC w0 h w pc n0 wv ev rv qv cd rt rg d) {sz n:Nat} {v:Value} {xs:List Value} (hI:nt h pc n0 sz wv ev) (hs:Sl w 3 1 v n xs) (hlt:∀ b,ak v b→b<sz) {b:Nat} (hb:ak v b) :
  ¬ ((CH.mk h.p h.pa h.g h.pc h.ps h.ro pc n0).Own wv ev b∨aF h.ps rv qv b):=by
 obtain ⟨_,l,h'⟩:=hs.own hb;rintro (hk | hk)
 ·rcases hI b hk with (h1 | h1 | h1 | h1) | h1
  ·exact h'.ne M.C.J.hp (by decide) h1
  ·exact h'.ne M.C.J.ha.hp (by decide) h1
  ·exact h'.ne M.C.J.ha.hg (by decide) h1
  ·exact h'.ne M.C.J.hc (by decide) h1
  ·have:=hlt b hb;omega
 ·obtain ⟨_,U,h2,hU⟩:=M.C.S.cF hk;refine h'.ne h2 ?_ rfl;rcases hU with rfl | rfl <;> decide
theorem MC.root (M:MC w0 h w pc n0 wv ev rv qv cd rt rg d) {g o cap k:Nat} {x:Int} (e:h.ro=.slice (some ⟨g,o,none⟩) rt.length cap) (hk:k<rt.length) :
  MC w0 h (w.setCell ⟨g,o+k,none⟩ (.int .i64 x)) pc n0 wv ev rv qv cd (rt.set k x) rg d:=by
 have hown:ak h.ro g:=by rw [e];rfl
 have kk:aa (ak h.ro) w (w.setCell ⟨g,o+k,none⟩ (.int .i64 x)):=(aa.refl _ _).setCell (p:=⟨g,o+k,none⟩) (.inl hown) _;have ne:∀ {b:Nat} {c:List Value} {T:TypeId},aj w b c T→T≠2→¬ ak h.ro b:=fun hb h1 hf=>by
  obtain ⟨_,c',hc⟩:=M.hr.own hf;exact hb.ne hc h1 rfl
 refine ⟨M.C.ab kk (fun b hb ho=>M.ns ho (.inl hb)) (fun b hb ho=>M.ns ho (.inr hb)),M.hc.ab kk (ne M.hc.hp (by decide)) (ne M.hc.hq (by decide)),?_,M.ap,M.K.trans (kk.mono (fun k _ hk=>.inr (.inr (.inr (.inr hk))))),M.own⟩;have hs:=M.hr;rw [e] at hs ⊢;have:=hs.set (j:=k) (u:=.int .i64 x) (by omega);rw [List.length_set,List.map_set];exact this
theorem MC.fZ (M:MC w0 h w pc n0 wv ev rv qv cd rt rg d) (h12:rt.length=12):∃ g o cap,h.ro=.slice (some ⟨g,o,none⟩) 12 cap∧g<w.heap.size∧(∀ k,w.frozen? ⟨g,k,none⟩=false)∧∀ k,k<rt.length→w.cell? ⟨g,o+k,none⟩=some (.int .i64 (rt.getD k 0)):=by
 obtain ⟨ao,cap,e,hrd,-,-⟩:=M.hr.rd;obtain ⟨g,o,rfl,hg,hc⟩:=hrd (by intro e;have:=congrArg List.length e;rw [List.length_map,h12] at this;cases this);have hown:ak h.ro g:=by rw [e];rfl
 obtain ⟨-,cur,hb⟩:=M.hr.own hown;refine ⟨g,o,cap,by rw [e,h12],hg,fun k=>hb.free k,fun k hk=>?_⟩;rw [hc k (by simpa using hk)];simp [List.getD,hk]
structure ME (w0:World) (h:WH) (w:World) (pc:Nat) (n0:Int) (wv ev rv qv:Value) (cd:List Bool) (rt:List Int) (rg wt:List (Int × Int)) (s:Ms) (c:Int):Prop where
 J:cB w ⟨h.p,h.pa,h.g,h.pc,h.ps,h.ro,pc,n0⟩ wv ev s c
 S:aZ w h.ps rv qv rg wt
 hc:cP w h.pc h.cb n0 cd
 hr:Sl w 2 1 h.ro rt.length (rt.map (Value.int .i64))
 ap:¬ ak h.ro h.g
 K:aa h.Own w0 w
 own:∀ k,aF h.ps rv qv k→h.Own k∨w0.heap.size≤k
theorem ME.bT {wt:List (Int × Int)} {s:Ms} {c:Int} {A:Ar} (M:ME w0 h w pc n0 wv ev rv qv cd rt rg wt s c) (t:aT w h.pa h.g w' A):ME w0 h w' pc n0 wv ev rv qv cd rt rg wt { s with A:=A } c:=by
 have n1:∀ {b:Nat} {c:List Value} {T:TypeId},aj w b c T→T≠141→T≠2→¬ (b=h.pa∨b=h.g):=fun hb h1 h2 e=>by
  rcases e with e | e
  ·exact hb.ne M.J.ha.hp h1 e
  ·exact hb.ne M.J.ha.hg h2 e
 refine ⟨M.J.bT t,M.S.ab t.k (fun b hb=>?_),M.hc.ab t.k (n1 M.hc.hp (by decide) (by decide)) (n1 M.hc.hq (by decide) (by decide)),M.hr.ab t.k (fun b hb=>?_),M.ap,M.K.trans (t.k.mono (fun k _ hk=>.inr (.inl hk))),M.own⟩
 ·obtain ⟨c,T,hc,hT⟩:=M.S.cF hb;rcases hT with rfl | rfl
  ·exact n1 hc (by decide) (by decide)
  ·exact n1 hc (by decide) (by decide)
 ·obtain ⟨_,l,hb'⟩:=M.hr.own hb;rintro (rfl | rfl)
  ·exact hb'.ne M.J.ha.hp (by decide) rfl
  ·exact M.ap hb
theorem ME.cards {wt:List (Int × Int)} {s:Ms} {c:Int} {l:List Bool} (M:ME w0 h w pc n0 wv ev rv qv cd rt rg wt s c) (t:cP w' h.pc h.cb n0 l) (k:aa (·=h.cb) w w'):ME w0 h w' pc n0 wv ev rv qv l rt rg wt s c:=by
 have n1:∀ {b:Nat} {c:List Value} {T:TypeId},aj w b c T→T≠4→¬ (b=h.cb):=fun hb h1 e=>hb.ne M.hc.hq h1 e;refine ⟨M.J.ab k (fun b hb=>?_),M.S.ab k (fun b hb=>?_),t,M.hr.ab k (fun b hb=>?_),M.ap,M.K.trans (k.mono (fun k _ hk=>.inr (.inr (.inl (.inr hk))))),M.own⟩
 ·obtain ⟨_,T,hc,hT⟩:=M.J.bB hb;refine n1 hc ?_;rcases hT with rfl | rfl | rfl | rfl | rfl <;> decide
 ·obtain ⟨c,T,hc,hT⟩:=M.S.cF hb;refine n1 hc ?_;rcases hT with rfl | rfl <;> decide
 ·obtain ⟨_,l,hb'⟩:=M.hr.own hb;exact n1 hb' (by decide)
theorem ME.done {wt:List (Int × Int)} {s:Ms} {c:Int} (M:ME w0 h w pc n0 wv ev rv qv cd rt rg wt s c) (hn:n0=s.A.nur) (hok:(Wo.mk s.A cd rt rg wt).ok):fQ w0 h w ⟨s.A,cd,rt,rg,wt⟩:=by
 refine ⟨⟨h.p,h.pa,h.g,h.pc,h.cb,h.ps,rv,qv,h.ro⟩,⟨M.J.hp,M.J.ha,by dsimp only;rw [←hn];exact M.hc,M.S,M.hr,M.ap,hok⟩,rfl,M.K,?_⟩;rintro k (hk | hk | hk | hk | hk)
 ·exact .inl (.inl hk)
 ·exact .inl (.inr (.inl hk))
 ·exact .inl (.inr (.inr (.inl hk)))
 ·exact M.own k hk
 ·exact .inl (.inr (.inr (.inr (.inr hk))))
end
theorem pe (A:Ar):∀ (n:Nat) (i j:Int), ∀ p ∈ A.list n i j,i≤p∧p<j
 | 0,i,j,p,h=>by unfold Ar.list at h;cases h
 | n+1,i,j,p,h=>by
  unfold Ar.list at h;split at h
  ·split at h
   ·rename_i h1 h2;have hf:=A.aO i;rcases List.mem_cons.1 h with rfl | h
    ·omega
    ·have:=pe A n _ _ p h;omega
   ·cases h
  ·cases h
theorem Sm.zz {A:Ar}:∀ (l:List Int) {B:Ar},Sm A B→Sm A (fB B l)
 | [],B,h=>h
 | i :: l,B,h=>Sm.zz l (h.trans (Sm.fix h.ok (i+1) _))
theorem Sm.zA {A:Ar}:∀ (l:List Int) {B:Ar},Sm A B→Sm A (l.foldl cX B)
 | [],B,h=>h
 | i :: l,B,h=>Sm.zA l ((h.trans (Sm.fix h.ok (i+1) _)).trans (Sm.fix (Sm.fix h.ok (i+1) _).ok (i+2) _))
theorem Sm.gone {s:Ms} (h:s.A.ok):Sm s.A (jR s):=Sm.zA s.ep (Sm.zz s.wk (Sm.refl h))
theorem uI {base:Int} {cd:List Bool} {s:Ms} {l:List Int} {k:Nat} (h:k<l.length):eD base cd s (l.take (k+1))=if de base cd (l.getD k 0)=true then eu (eD base cd s (l.take k)) (l.getD k 0) else eD base cd s (l.take k):=by
 unfold eD;rw [←List.take_append_getElem h,List.foldl_append,Ld,Le h];rfl
end
section
open Go.RowKit
def yV (w:World) (h:WH) (O:Wo) (e:Ending) (w':World):Prop:=e=.returned (.int .i64 (g9 O).1)∧fQ w h w' (g9 O).2
section
variable {w w':World} {h:WH} {O:Wo}
theorem qY {W:Wd} {φ:Int→Int} (R:aH O W φ) (H:bh w h O) :
  Calls Tryz.prog 16 #[.pointer (some ⟨h.p,0,none⟩)] w (yV w h O):=by
 have HH:=Hz H;have hok:=H.ok;obtain ⟨p0,p1,p2,p3⟩:=H.dY;have pl:=H.hp.lt;have o1:=hok.ha.h1;have o2:=hok.ha.h2;have o3:=hok.ha.h3;have o4:=hok.ha.h4;have HR:=Hz R;clear H R;have HOK:=Hz hok;clear hok;go_enter Tryz.func16,Tryz.ntmps16;go_wp2_with fail;refine (kT w HH.out.ha).mono ?_;rintro e w1 ⟨rfl,hk⟩;have H1:=Hz (HH.out.ab hk (fun _ _ h=>h));have K1:=Hz hk;clear p0 p1 p2 p3 pl hk;obtain ⟨p0,p1,p2,p3⟩:=H1.out.dY;have pl:=H1.out.hp.lt;go_wp2_with fail;refine (jY w1 H1.out.ha).mono ?_;rintro e w2 ⟨rfl,hk⟩;have H2:=Hz (H1.out.ab hk (fun _ _ h=>h));have K2:=Hz (K1.out.trans hk);clear p0 p1 p2 p3 pl hk H1 K1;by_cases hfull:(O.ar.yng:Int) > (O.ar.ws.length:Int)-O.ar.grn
 ·have HE:=Hz (show g9 O=(3,O) by unfold g9;rw [if_pos hfull]);have hd:decide (((O.ar.ws.length-O.ar.grn:Nat):Int)<(O.ar.yng:Int))=true:=by simp;omega
  have hd2:decide (O.ar.ws.length-O.ar.grn<O.ar.yng)=true:=by simp;omega
  clear hfull;go_wp2_with fail;go_ret;refine ⟨by rw [HE.out];rfl,?_⟩;rw [HE.out];exact fQ.same HH.out K2.out
 ·have hd:decide (((O.ar.ws.length-O.ar.grn:Nat):Int)<(O.ar.yng:Int))=false:=by simp;omega
  have hd2:decide (O.ar.ws.length-O.ar.grn<O.ar.yng)=false:=by simp;omega
  have HF:=Hz hfull;clear hfull;obtain ⟨p0,p1,p2,p3⟩:=H2.out.dY;have pl:=H2.out.hp.lt;go_wp2_with fail;clear hd hd2;refine (sP w2 H2.out.ha).mono ?_;rintro e w3 ⟨rfl,hk⟩;have H3:=Hz (H2.out.ab hk (fun _ _ h=>h));have K3:=Hz (K2.out.trans hk);clear p0 p1 p2 p3 pl hk H2 K2;obtain ⟨p0,p1,p2,p3⟩:=H3.out.dY;have pl:=H3.out.hp.lt;go_wp2_with fail;generalize hwb:w3.alloc (.cells #[.pointer (some ⟨h.p,0,none⟩), .int .i64 O.ar.nur, .int .i64 0, .slice none 0 0, .slice none 0 0] 104)=wb;have KB:=Hz (show aa (fun _=>False) w3 wb by rw [←hwb];exact (aa.refl _ _).alloc _);have HB:=Hz (show aj wb w3.heap.size [.pointer (some ⟨h.p,0,none⟩), .int .i64 O.ar.nur, .int .i64 0, .slice none 0 0, .slice none 0 0] 104 by rw [←hwb];exact aj.newAt _ rfl rfl);have MB:=Hz (show MC w h wb w3.heap.size O.ar.nur (.slice none 0 0) (.slice none 0 0) h.rv h.wv O.cd O.rt O.rg ⟨⟨O.ar,[],[]⟩,0,O.wt⟩ by
   have HBW:=H3.out.ab KB.out (fun _ _ h=>h);have hok:=HOK.out;refine ⟨⟨⟨HBW.hp,HBW.ha,HB.out,Sl.nil _ _ _,Sl.nil _ _ _,fun k hk=>ck hk.1⟩,HBW.hs,⟨hok.ha,⟨by simp,(fun i hi=>by cases hi),(fun i hi=>by cases hi)⟩,by show (0:Int)≤0;omega,by show (0:Int)≤1300;omega⟩,fun e he=>hok.hw e he,rfl,by have:=hok.hq;dsimp only;omega⟩,HBW.hc,HBW.hr,HBW.ap,(K3.out.trans KB.out).mono (fun _ _ h=>h.elim),?_⟩;rintro k ((rfl | rfl | rfl | rfl | hk | hk) | hk)
   ·exact .inl (.inl rfl)
   ·exact .inl (.inr (.inl (.inl rfl)))
   ·exact .inl (.inr (.inl (.inr rfl)))
   ·exact .inr K3.out.size
   ·exact (ck hk).elim
   ·exact (ck hk).elim
   ·exact .inl (.inr (.inr (.inr (.inl hk)))))
  clear hwb p0 p1 p2 p3 pl H3 HB KB;generalize w3.heap.size=pc at *;go_wp2_with fail;refine (pz wb MB.out.C.J.ha).mono ?_;rintro e w4 ⟨ao,ac,bo,bc,rfl,-,hls,hk,-,hlo⟩;have M4:=Hz (MB.out.same hk);have HLS:=Hz hls;have HLO:=Hz hlo;have HLT:=Hz (fun b hb=>(hls.own (k:=b) hb).1);clear hls hlo hk;have cl:=M4.out.C.J.hc.lt;go_wp2_with fail;refine (qV M4.out.C.J M4.out.C.nb).mono ?_;rintro e w5 ⟨rfl,hk⟩;have HSZ5:=Hz hk.size;have M5:=Hz (M4.out.same hk);have HLS5:=Hz (HLS.out.ab hk (fun _ _ h=>h));clear hk cl HLS;have q2:=M5.out.C.J.cells.2.2.1;have cl:=M5.out.C.J.hc.lt;have fz:=M5.out.C.J.hc.free 2;have q3:=M5.out.C.J.cells.2.2.2.2.2.2.2.2;have pl:=M5.out.C.J.hp.lt;dsimp only at q2 q3;obtain ⟨gr,og,rcap,ero,-,-,-⟩:=M5.out.fZ HOK.out.h12;have HRO:=Hz ero;rw [ero] at q3;clear ero;have HA5:=Hz M5.out.C.ok.ok;have hsto:=(M5.out.C.J.Bt (O.ar.grn:Int));obtain ⟨wv6,ev6,M6',o6⟩:=M5.out.step (M5.out.C.cut hsto ⟨M5.out.C.ok.ok,M5.out.C.ok.ms.more (by dsimp only;omega),by omega,by omega⟩ rfl);have M6:=Hz M6';have HI6:=Hz ((nt.nil h pc O.ar.nur w4.heap.size).step o6 HSZ5.out);have HLS6:=Hz (HLS5.out.ab ((aa.refl (·=pc) w5).setCell (p:=⟨pc,2,none⟩) (.inl rfl) (.int .i64 (O.ar.grn:Int))) (fun b hb e=>by
   obtain ⟨_,l,h'⟩:=HLS5.out.own hb
   exact h'.ne M5.out.C.J.hc (by decide) e))
  clear M6' hsto o6;dsimp only at M6 HLS6;go_wp2_with fail;have HSZ6:=Hz (show w5.heap.size≤(w5.setCell ⟨pc,2,none⟩ (.int .i64 (O.ar.grn:Int))).heap.size by simp);generalize w5.setCell ⟨pc,2,none⟩ (.int .i64 (O.ar.grn:Int))=w6 at *;clear M5 HLS5 q2 q3 cl fz pl MB M4;go_loopw [65] (fun u wr=>∃ k:Nat,k≤12∧u=.int .i64 k∧∃ wv ev,MC w h wr pc O.ar.nur wv ev h.rv h.wv O.cd (ik O.ar O.rt k) O.rg ⟨⟨(mRoots O.ar (O.rt.take k)).1,[],[]⟩,O.ar.grn,O.wt⟩∧nt h pc O.ar.nur w4.heap.size wv ev∧w4.heap.size≤wr.heap.size∧Sl wr 3 1 (.slice bo O.ar.aN.2.length bc) O.ar.aN.2.length (O.ar.aN.2.map (Value.int .i64))) (fun u _=>12-(intOf u).toNat)
  case atStart=>exact ⟨0,Nat.zero_le _,rfl,_,_,M6.out,HI6.out,by have:=HSZ5.out;have:=HSZ6.out;omega,HLS6.out⟩
  case round=>
   clear M6 HLS6 HI6 ev6 wv6;obtain ⟨k,hk,rfl,wv,ev,hM,hI,hsz,hls⟩:=hrel;have M:=Hz hM;have HLS:=Hz hls;have HI:=Hz hI;have HSR:=Hz hsz;clear hM hls hI hsz;by_cases hlt:k<12
   ·have hl12:=HOK.out.h12;have hrl:(ik O.ar O.rt k).length=12:=by rw [wh (by omega)];exact hl12
    have hst:=uH (A:=O.ar) (rt:=O.rt) (k:=k) (by omega);have hgt:=wi (A:=O.ar) (rt:=O.rt) (k:=k) (by omega);have HST:=Hz hst;obtain ⟨gr',og',rcap',ero,hgl,hfz,hcl⟩:=M.out.fZ hrl;rw [HRO.out] at ero;cases ero;have d0:=hcl k (by omega);rw [hgt] at d0;have q3:=M.out.C.J.cells.2.2.2.2.2.2.2.2;have pl:=M.out.C.J.hp.lt;dsimp only at q3;rw [HRO.out] at q3;have hf:=hfz (og+k);have HFZ:=Hz hfz;clear hst hgt hcl hl12 hfz;generalize O.rt.getD k 0=x at *;go_wp2_with fail;have MD:=Hz (M.out.same ((Kz wr).drew));refine a8 (.free 0 (.free 1 (.free 2 (.free 4 (.free 5 (.free 6 (.pure 3 (.run 7 (.free 8 (.run 9 (.swi [] (.fin)))))))))))) [9] (Fa q3) ?_
    iterate 7 refine Wz ?_
    refine aM rfl rfl (fun K hK=>?_);unfold aw;go_simp;refine (ng x MD.out.C.J).mono ?_;rintro e w7 ⟨rfl,t⟩;have T:=Hz t;have hsm:=Sm.iI MD.out.C.ok.ok x;obtain ⟨wv7,ev7,M7',o7⟩:=MD.out.step (MD.out.C.cut (MD.out.C.J.iW t) (MD.out.C.ok.bT hsm.ok) hsm.nur);have M7:=Hz M7';have HI7:=Hz (HI.out.step o7 HSR.out);have HS7:=Hz (Nat.le_trans HSR.out t.k.size);have q3':=M7.out.C.J.cells.2.2.2.2.2.2.2.2;dsimp only at q3';rw [HRO.out] at q3';refine hK _ _ (fun _=>q3') ?_;clear hK K M7' o7 hsm t q3 q3' d0 hgl pl hf;obtain ⟨gr',og',rcap',ero,hgl,hfz,hcl⟩:=M7.out.fZ hrl;rw [HRO.out] at ero;cases ero;have d0:=hcl k (by omega);have hf:=hfz (og+k);clear hcl hfz;refine Wz ?_;refine aA rfl rfl rfl (fun K hK=>?_);unfold aw;go_simp;refine hK _ _ ?_;clear hK K d0 hf;refine aB (fun _=>True) trivial (av ?_);have M8:=Hz (M7.out.root (x:=cQ (bD (mRoots O.ar (O.rt.take k)).1 x) x) (by rw [HRO.out,hrl]) (by rw [hrl];exact hlt));have HL8:=Hz (show Sl (w7.setCell ⟨gr,og+k,none⟩ (.int .i64 (cQ (bD (mRoots O.ar (O.rt.take k)).1 x) x))) 3 1 (.slice bo O.ar.aN.2.length bc) O.ar.aN.2.length (O.ar.aN.2.map (Value.int .i64)) by
     have k1:=(Kz wr).drew;have h1:=HLS.out.ab k1 (fun _ _ h=>h);have h2:=h1.ab T.out.k (fun b hb e=>MD.out.qX HI.out h1 HLT.out hb (.inl (e.elim (fun e=>.inr (.inl e)) (fun e=>.inr (.inr (.inl e))))));refine h2.ab ((aa.refl (·=gr) w7).setCell (p:=⟨gr,og+k,none⟩) (.inl rfl) _) (fun b hb e=>?_);obtain ⟨_,l,h'⟩:=M7.out.hr.own (k:=gr) (by rw [HRO.out];rfl);obtain ⟨_,l2,h3⟩:=h2.own hb
     exact h3.ne h' (by decide) e)
    rw [HST.out.2] at M8;clear M7 T MD;go_wp2_with fail;go_roundw
    case rel=>exact ⟨k+1,hlt,by go_num,_,_,by rw [HST.out.1];exact M8.out,HI7.out,by have:=HS7.out;simpa using this,HL8.out⟩
    case measure=>simp [intOf];omega
   ·obtain rfl:k=12:=by omega
    have hr12:ik O.ar O.rt 12=(mRoots O.ar O.rt).2:=by
     unfold ik;rw [List.take_of_length_le (by rw [HOK.out.h12];exact Nat.le_refl _),List.drop_eq_nil_of_le (by rw [HOK.out.h12];exact Nat.le_refl _),List.append_nil]
    rw [hr12,List.take_of_length_le (by rw [HOK.out.h12];exact Nat.le_refl _)] at M;clear hr12 hlt hk;obtain ⟨w7,rfl⟩:∃ x:World,x=wr:=⟨wr,rfl⟩;have HLL:=Hz (show O.ar.aN.2.length≤1300 from Ar.gW O.ar 1300 _ _);have HLB:=Hz (show ∀ p ∈ O.ar.aN.2,0≤p∧p≤1300 from fun p hp=>by have:=pe O.ar 1300 _ _ p hp;omega);obtain ⟨L,hL⟩:∃ L,O.ar.aN.2=L:=⟨_,rfl⟩;have HLE:=Hz hL;rw [hL] at HLS HLL HLB HLT;obtain ⟨A1,hA1⟩:∃ A,(mRoots O.ar O.rt).1=A:=⟨_,rfl⟩;have HA1:=Hz hA1;rw [hA1] at M;obtain ⟨rt1,hrt1⟩:∃ l,(mRoots O.ar O.rt).2=l:=⟨_,rfl⟩;have HRT:=Hz hrt1;rw [hrt1] at M;rw [hL];clear hL hA1 hrt1;have hll:=HLL.out;go_wp2_with fail;go_loopw [82] (fun u wr=>∃ k:Nat,k≤L.length∧u=.int .i64 k∧∃ wv ev,MC w h wr pc O.ar.nur wv ev h.rv h.wv O.cd rt1 O.rg ⟨eD O.ar.nur O.cd ⟨A1,[],[]⟩ (L.take k),O.ar.grn,O.wt⟩∧kf (eD O.ar.nur O.cd ⟨A1,[],[]⟩ (L.take k)) k∧nt h pc O.ar.nur w4.heap.size wv ev∧w4.heap.size≤wr.heap.size∧Sl wr 3 1 (.slice bo L.length bc) L.length (L.map (Value.int .i64))) (fun u _=>L.length-(intOf u).toNat)
    case atStart=>exact ⟨0,Nat.zero_le _,rfl,_,_,M.out,⟨by simp [eD],(fun i hi=>by cases hi),(fun i hi=>by cases hi)⟩,HI.out,HSR.out,HLS.out⟩
    case round=>
     clear M HI HSR HLS wv ev;obtain ⟨k,hk,rfl,wv,ev,hM,hms,hI,hsz,hls⟩:=hrel;have M:=Hz hM;have HLS:=Hz hls;have HI:=Hz hI;have HSR:=Hz hsz;have HMS:=Hz hms;clear hM hls hI hsz hms;by_cases hlt:k<L.length
     ·obtain ⟨_,_,e',rd,-,-⟩:=HLS.out.rd;cases e';obtain ⟨ge,oe,rfl,d0⟩:=rd.int k hlt;have hgl:=(HLS.out.own rfl).1;have hin:=HLB.out (L.getD k 0) (by rw [Ld,Le hlt];exact List.getElem_mem hlt);have HDS:=Hz (uI (base:=O.ar.nur) (cd:=O.cd) (s:=⟨A1,[],[]⟩) hlt);have hml:=HMS.out.len;generalize L.getD k 0=i at *;obtain ⟨sk,hsk⟩:∃ s,eD O.ar.nur O.cd ⟨A1,[],[]⟩ (L.take k)=s:=⟨_,rfl⟩;rw [hsk] at M HMS HDS hml;clear hsk rd;have p1:=M.out.C.J.cells.2.2.2.2.2.2.1;have pl:=M.out.C.J.hp.lt;dsimp only at p1;have hcd:=HOK.out.hc;go_wp2_with fail;refine (zO h.pc h.cb O.ar.nur i O.cd wr M.out.hc (by omega) (by omega) (by omega) (by omega) (by omega)).mono ?_;rintro e w8 ⟨rfl,rfl⟩;clear p1 pl d0;cases hdi:de O.ar.nur O.cd i
      ·have HE:=Hz (HDS.out.trans (if_neg (by rw [hdi];decide)));clear hdi HDS;go_wp2_with fail;go_roundw
       case rel=>
        (repeat apply Exists.intro)
        exact ⟨⟨k+1,hlt,by go_num,wv,ev,by rw [HE.out];exact M.out,by rw [HE.out];exact HMS.out.more (by omega),HI.out,HSR.out,HLS.out⟩,rfl⟩
       case measure=>simp [intOf];omega
      ·have HE:=Hz (HDS.out.trans (if_pos hdi));clear hdi HDS;go_wp2_with fail;refine (vv i M.out.C.J hin.1 hin.2 (by dsimp only;have:=HLL.out;omega)).mono ?_;rintro e w8 ⟨rfl,t⟩;have hml2:=(HMS.out.look hin.1 hin.2);have HMS2:=Hz hml2;have hsm:=Sm.look M.out.C.ok.ok i;obtain ⟨_,_,_,kt,_⟩:=id t;have HL8:=Hz (HLS.out.ab kt (fun b hb ho=>M.out.qX HI.out HLS.out HLT.out hb (.inl ho)));obtain ⟨wv8,ev8,M8',o8⟩:=M.out.step (M.out.C.cut t ⟨hsm.ok,hml2.more (by have:=HLL.out;dsimp only;omega),by dsimp only;omega,by dsimp only;omega⟩ hsm.nur);have M8:=Hz M8';have HI8:=Hz (HI.out.step o8 HSR.out);have HS8:=Hz (Nat.le_trans HSR.out kt.size);clear t kt hml2 hsm M8' o8;go_wp2_with fail;go_roundw
       case rel=>
        (repeat apply Exists.intro)
        exact ⟨⟨k+1,hlt,by go_num,wv8,ev8,by rw [HE.out];exact M8.out,by rw [HE.out];exact HMS2.out.more (by omega),HI8.out,HS8.out,HL8.out⟩,rfl⟩
       case measure=>simp [intOf];omega
     ·obtain rfl:k=L.length:=by omega
      rw [List.take_length] at M;clear HMS HLS hlt hk;have HPRE:=Hz (show iB O=mDrain 2000 ⟨eD O.ar.nur O.cd ⟨A1,[],[]⟩ L,O.ar.grn,O.wt⟩ by unfold iB;rw [HLE.out,HA1.out]);go_wp2_with fail;refine (tQ M.out.C).mono ?_;rintro e w8 ⟨rfl,t⟩;obtain ⟨wv8,ev8,M8',-⟩:=M.out.step t;rw [←HPRE.out] at M8';have M8:=Hz M8';clear t M8' M;have p2:=M8.out.C.J.cells.2.2.2.2.2.2.2.1;have pl:=M8.out.C.J.hp.lt;dsimp only at p2;go_wp2_with fail;refine a8 (.free 0 (.free 1 (.free 2 (.free 4 (.pure 3 (.run 5 (.run 6 (.swi [] (.fin))))))))) [6] (Fa p2) ?_
      iterate 5 refine Wz ?_
      refine aM rfl rfl (fun K hK=>?_);unfold aw;go_simp;refine (yU (M8.out.same ((Kz w8).drew)).C.J).mono ?_;rintro e w9 ⟨b,rfl,hb,hk,hlo⟩;have M9:=Hz (M8.out.same ((Kz w8).drew.trans hk));have HB9:=Hz hb;have HLO9:=Hz (show w8.heap.size≤b from hlo);have p2':=M9.out.C.J.cells.2.2.2.2.2.2.2.1;dsimp only at p2';refine hK _ _ (fun _=>p2') ?_;clear hK K hb hk hlo p2 p2' pl
      skip
      refine aA rfl rfl rfl (fun K hK=>?_);unfold aw;go_simp;have hq24:=HOK.out.hq;refine (tP h.ps (pQ ⟨h.p,h.pa,h.g,h.pc,h.ps,h.ro,pc,O.ar.nur⟩ b) ((iB O).s,(iB O).c) (fun k=>(CH.mk h.p h.pa h.g h.pc h.ps h.ro pc O.ar.nur).Own wv8 ev8 k∨k=b) h.rv h.wv O.rg (iB O).q w9 ⟨wv8,ev8,M9.out.C.J,M9.out.C.ok,M9.out.C.nb,HB9.out,rfl⟩ M9.out.C.S (fun k hk=>by
       rcases hk with ⟨h1 | h1,h2⟩
       ·exact M9.out.C.J.cK M9.out.C.S h1 h2
       ·subst h1;obtain ⟨_,U,h3,hU⟩:=M9.out.C.S.cF h2;refine HB9.out.ne h3 ?_ rfl
        rcases hU with rfl | rfl <;> decide) (by omega) (by rw [HPRE.out,mP];dsimp only;omega) (fun e he=>HOK.out.hg e he) (fun e he=>M9.out.C.q e he)).mono ?_
      rintro e w10 ⟨rfl,F',rv',qv',⟨wv',ev',hJ',hsc,hnb,hb',rfl⟩,hS',-,hk',-,hsf⟩;refine hK _ _ ?_;clear hK K;refine aB (fun _=>True) trivial (av ?_);have HPS:=Hz (show dC (pQ ⟨h.p,h.pa,h.g,h.pc,h.ps,h.ro,pc,O.ar.nur⟩ b).alive (pQ ⟨h.p,h.pa,h.g,h.pc,h.ps,h.ro,pc,O.ar.nur⟩ b).ab ((iB O).s,(iB O).c) O.rg (iB O).q=bI O from rfl);rw [HPS.out] at hJ' hsc hnb hS';have M10:=Hz (show ME w h w10 pc O.ar.nur wv' ev' rv' qv' O.cd rt1 (bq bL fh (bI O).1 (bI O).2.2) (bs bL fh (bI O).1 (bI O).2.1) (bI O).1.1 (bI O).1.2 by
       have hne:∀ {k:Nat} {l:List Value} {T:TypeId},aj w9 k l T→T≠102→¬ ((CH.mk h.p h.pa h.g h.pc h.ps h.ro pc O.ar.nur).Own wv8 ev8 k∨aF h.ps h.rv h.wv k)→¬ (((CH.mk h.p h.pa h.g h.pc h.ps h.ro pc O.ar.nur).Own wv8 ev8 k∨k=b)∨aF h.ps h.rv h.wv k):=fun hb hT hn hx=>by
        rcases hx with (h1 | h1) | h1
        ·exact hn (.inl h1)
        ·subst h1;exact hb.ne HB9.out hT rfl
        ·exact hn (.inr h1)
       have M:=M9.out;refine ⟨hJ',hS',M.hc.ab hk' (hne M.hc.hp (by decide) (M.type M.hc.hp (by decide))) (hne M.hc.hq (by decide) (M.type M.hc.hq (by decide))),M.hr.ab hk' (fun k hk=>?_),M.ap,M.K.then hk' (fun k hk=>?_),fun k hk=>?_⟩
       ·obtain ⟨_,l,h'⟩:=M.hr.own hk;exact hne h' (by decide) (M.ns hk)
       ·rcases hk with (h1 | h1) | h1
        ·exact M.own k (.inl h1)
        ·subst h1;exact .inr (Nat.le_trans M8.out.K.size HLO9.out)
        ·exact M.own k (.inr h1)
       ·rcases hsf k hk with h1 | h1
        ·exact M.own k (.inr h1)
        ·exact .inr (Nat.le_trans M.K.size h1))
      have HSC:=Hz (show gu (bI O).1.1 (bI O).1.2 from hsc);have HNB:=Hz (show (O.ar.nur:Int)=(bI O).1.1.A.nur from hnb);clear hJ' hsc hnb hb' hS' hk' hsf HPS M8 M9;go_wp2_with fail;refine (Ap M10.out.J (HSC.out.ms.more (by have:=HSC.out.c1;omega))).mono ?_;rintro e w11 ⟨rfl,t⟩;have M11:=Hz (M10.out.bT t);clear t M10;have p1:=M11.out.J.cells.2.2.2.2.2.2.1;have pl:=M11.out.J.hp.lt;dsimp only at p1;go_wp2_with fail;refine (uR h.pc h.cb O.ar.nur O.cd w11 M11.out.hc).mono ?_;rintro e w12 ⟨rfl,hc,hk⟩;have M12:=Hz (M11.out.cards hc hk);clear hc hk p1 pl M11;have p0:=M12.out.J.cells.2.2.2.2.2.1;have pl:=M12.out.J.hp.lt;dsimp only at p0;go_wp2_with fail;refine (sO w12 M12.out.J.ha).mono ?_;rintro e w13 ⟨rfl,t⟩;have M13:=Hz (M12.out.bT t);clear t M12 p0 pl;have HE:=Hz (show g9 O=(0,⟨(jR (bI O).1.1).clear,List.replicate O.cd.length false,rt1,bq bL fh (bI O).1 (bI O).2.2,bs bL fh (bI O).1 (bI O).2.1⟩) by
       unfold g9;rw [if_neg (by have:=HF.out;omega),HRT.out];congr 2
       simp [List.eq_replicate_iff])
      have HRM:=Hz (HR.out.minor.2);go_wp2_with fail;go_ret;refine ⟨by rw [HE.out];rfl,?_⟩;obtain ⟨ψ,R'⟩:=HRM.out;have hok':=R'.ho;rw [HE.out] at hok' ⊢;refine M13.out.done ?_ hok';rw [HNB.out];have:=(Sm.gone HSC.out.ok).nur
      show ((bI O).1.1.A.nur:Int)=((jR (bI O).1.1).clear.nur:Int)
      rw [←this];rfl
end
end
section
open Go.RowKit
theorem nu:(Tryz.prog.info? 3).map (fun i=>(i.zero,i.size,i.bytes))=some (some (.int .i64 0),1,8):=by kernel_rfl
structure JH where
 p:Nat
 pa:Nat
 g:Nat
 cp:Nat
 ps:Nat
 ro:Value
 pc:Nat
 lb:Nat
 tb:Nat
def JH.Own (H:JH) (sv ev:Value) (k:Nat):Prop:=k=H.p∨k=H.pa∨k=H.g∨k=H.pc∨k=H.lb∨k=H.tb∨ak sv k∨ak ev k
structure cv (w:World) (H:JH) (sv ev:Value) (A:Ar) (s:Gs) (f:List Int):Prop where
 hp:aj w H.p [.pointer (some ⟨H.pa,0,none⟩), .pointer (some ⟨H.cp,0,none⟩), .pointer (some ⟨H.ps,0,none⟩),H.ro] 52
 ha:bC w H.pa H.g A
 hc:aj w H.pc [.pointer (some ⟨H.p,0,none⟩), .slice (some ⟨H.lb,0,none⟩) s.lv.length s.lv.length, .slice (some ⟨H.tb,0,none⟩) f.length f.length,sv,ev] 124
 hl:aj w H.lb (s.lv.map Value.bool) 4
 ht:aj w H.tb (f.map (Value.int .i64)) 3
 hs:Sl w 3 1 sv s.st.length (s.st.map (Value.int .i64))
 he:Sl w 3 1 ev s.ep.length (s.ep.map (Value.int .i64))
 ap:∀ k,¬ (ak sv k∧ak ev k)
 at_:¬ ak sv H.tb∧¬ ak ev H.tb
def lP (w:World) (H:JH) (sv ev:Value) (A:Ar) (s:Gs) (f:List Int) (w':World):Prop:=
 ∃ sv' ev',cv w' H sv' ev' A s f∧aa (H.Own sv ev) w w'∧∀ k,H.Own sv' ev' k→H.Own sv ev k∨w.heap.size≤k
section
variable {w w':World} {H:JH} {sv ev:Value} {A:Ar} {s:Gs} {f:List Int}
theorem cv.bB (J:cv w H sv ev A s f) {k:Nat} (hk:H.Own sv ev k):∃ l T,aj w k l T∧(T=52∨T=141∨T=2∨T=124∨T=4∨T=3):=by
 rcases hk with rfl | rfl | rfl | rfl | rfl | rfl | hk | hk
 ·exact ⟨_,_,J.hp, .inl rfl⟩
 ·exact ⟨_,_,J.ha.hp, .inr (.inl rfl)⟩
 ·exact ⟨_,_,J.ha.hg, .inr (.inr (.inl rfl))⟩
 ·exact ⟨_,_,J.hc, .inr (.inr (.inr (.inl rfl)))⟩
 ·exact ⟨_,_,J.hl, .inr (.inr (.inr (.inr (.inl rfl))))⟩
 ·exact ⟨_,_,J.ht, .inr (.inr (.inr (.inr (.inr rfl))))⟩
 ·obtain ⟨_,l,h⟩:=J.hs.own hk;exact ⟨_,_,h, .inr (.inr (.inr (.inr (.inr rfl))))⟩
 ·obtain ⟨_,l,h⟩:=J.he.own hk;exact ⟨_,_,h, .inr (.inr (.inr (.inr (.inr rfl))))⟩
theorem cv.a5 (J:cv w H sv ev A s f) {k:Nat} (hk:H.Own sv ev k):k<w.heap.size:=by
 obtain ⟨_,_,h,_⟩:=J.bB hk;exact h.lt
theorem cv.ab {S:Nat→Prop} (J:cv w H sv ev A s f) (k:aa S w w') (hn:∀ b,H.Own sv ev b→¬ S b):cv w' H sv ev A s f:=
 ⟨k.aq J.hp (hn _ (.inl rfl)),J.ha.ab k (hn _ (.inr (.inl rfl))) (hn _ (.inr (.inr (.inl rfl)))),k.aq J.hc (hn _ (.inr (.inr (.inr (.inl rfl))))),k.aq J.hl (hn _ (.inr (.inr (.inr (.inr (.inl rfl)))))),
  k.aq J.ht (hn _ (.inr (.inr (.inr (.inr (.inr (.inl rfl))))))),J.hs.ab k (fun b hb=>hn b (.inr (.inr (.inr (.inr (.inr (.inr (.inl hb)))))))),J.he.ab k (fun b hb=>hn b (.inr (.inr (.inr (.inr (.inr (.inr (.inr hb)))))))),J.ap,J.at_⟩
theorem cv.same (J:cv w H sv ev A s f) (k:aa (fun _=>False) w w'):cv w' H sv ev A s f:=J.ab k (fun _ _ h=>h)
theorem lP.refl (J:cv w H sv ev A s f):lP w H sv ev A s f w:=⟨sv,ev,J,aa.refl _ _,fun _ h=>.inl h⟩
theorem lP.join {w1:World} {sv1 ev1:Value} (k1:aa (H.Own sv ev) w w1) (o1:∀ k,H.Own sv1 ev1 k→H.Own sv ev k∨w.heap.size≤k) (t:lP w1 H sv1 ev1 A s f w'):lP w H sv ev A s f w':=by
 obtain ⟨a2,b2,J2,k2,o2⟩:=t;refine ⟨a2,b2,J2,k1.then k2 o1,fun k hk=>?_⟩;rcases o2 k hk with h | h
 ·exact o1 k h
 ·exact .inr (Nat.le_trans k1.size h)
def mq (w:World) (H:JH) (sv ev:Value) (A:Ar) (s:Gs) (f:List Int) (w':World):Prop:=
 ∃ sv',cv w' H sv' ev A s f∧aa (H.Own sv ev) w w'∧∀ k,H.Own sv' ev k→H.Own sv ev k∨w.heap.size≤k
theorem mq.to (t:mq w H sv ev A s f w'):lP w H sv ev A s f w':=by
 obtain ⟨a,J,k,o⟩:=t;exact ⟨a,ev,J,k,o⟩
theorem mq.refl (J:cv w H sv ev A s f):mq w H sv ev A s f w:=⟨sv,J,aa.refl _ _,fun _ h=>.inl h⟩
theorem mq.join {w1:World} {sv1:Value} (k1:aa (H.Own sv ev) w w1) (o1:∀ k,H.Own sv1 ev k→H.Own sv ev k∨w.heap.size≤k) (t:mq w1 H sv1 ev A s f w'):mq w H sv ev A s f w':=by
 obtain ⟨a2,J2,k2,o2⟩:=t;refine ⟨a2,J2,k1.then k2 o1,fun k hk=>?_⟩;rcases o2 k hk with h | h
 ·exact o1 k h
 ·exact .inr (Nat.le_trans k1.size h)
theorem cv.cells (J:cv w H sv ev A s f):w.cell? ⟨H.pc,0,none⟩=some (.pointer (some ⟨H.p,0,none⟩))∧w.cell? ⟨H.pc,1,none⟩=some (.slice (some ⟨H.lb,0,none⟩) s.lv.length s.lv.length)∧w.cell? ⟨H.pc,2,none⟩=some (.slice (some ⟨H.tb,0,none⟩) f.length f.length) ∧
  w.cell? ⟨H.pc,3,none⟩=some sv∧w.cell? ⟨H.pc,4,none⟩=some ev∧w.cell? ⟨H.p,0,none⟩=some (.pointer (some ⟨H.pa,0,none⟩)):=
 ⟨J.hc.cell 0,J.hc.cell 1,J.hc.cell 2,J.hc.cell 3,J.hc.cell 4,J.hp.cell 0⟩
theorem cv.qZ (J:cv w H sv ev A s f) {i:Nat} (hi:i<s.lv.length):w.cell? ⟨H.lb,i,none⟩=some (.bool (s.lv.getD i false)):=by
 rw [J.hl.cell];simp [List.getD,hi]
theorem cv.toCell (J:cv w H sv ev A s f) {i:Nat} (hi:i<f.length):w.cell? ⟨H.tb,i,none⟩=some (.int .i64 (f.getD i 0)):=by
 rw [J.ht.cell];simp [List.getD,hi]
theorem cv.Cq (J:cv w H sv ev A s f) (i:Nat):cv (w.setCell ⟨H.lb,i,none⟩ (.bool true)) H sv ev A { s with lv:=s.lv.set i true } f:=by
 have k:=(aa.refl (·=H.lb) w).setCell (p:=⟨H.lb,i,none⟩) (.inl rfl) (.bool true);have ne:∀ {b:Nat} {l:List Value} {T:TypeId},aj w b l T→T≠4→¬ b=H.lb:=fun hb hT=>hb.ne J.hl hT;refine ⟨k.aq J.hp (ne J.hp (by decide)),J.ha.ab k (ne J.ha.hp (by decide)) (ne J.ha.hg (by decide)),?_,?_,k.aq J.ht (ne J.ht (by decide)),J.hs.ab k (fun b hb=>by obtain ⟨_,l,h⟩:=J.hs.own hb;exact ne h (by decide)),J.he.ab k (fun b hb=>by obtain ⟨_,l,h⟩:=J.he.own hb;exact ne h (by decide)),J.ap,J.at_⟩
 ·have:=k.aq J.hc (ne J.hc (by decide));simpa using this
 ·simpa [List.map_set] using J.hl.aG i (.bool true)
theorem cv.Cr (J:cv w H sv ev A s f) (i:Nat) (x:Int):cv (w.setCell ⟨H.tb,i,none⟩ (.int .i64 x)) H sv ev A s (f.set i x):=by
 have k:=(aa.refl (·=H.tb) w).setCell (p:=⟨H.tb,i,none⟩) (.inl rfl) (.int .i64 x);have ne:∀ {b:Nat} {l:List Value} {T:TypeId},aj w b l T→T≠3→¬ b=H.tb:=fun hb hT=>hb.ne J.ht hT;refine ⟨k.aq J.hp (ne J.hp (by decide)),J.ha.ab k (ne J.ha.hp (by decide)) (ne J.ha.hg (by decide)),?_,k.aq J.hl (ne J.hl (by decide)),?_,J.hs.ab k (fun b hb e=>J.at_.1 (e ▸ hb)),J.he.ab k (fun b hb e=>J.at_.2 (e ▸ hb)),J.ap,J.at_⟩
 ·have:=k.aq J.hc (ne J.hc (by decide));simpa using this
 ·simpa [List.map_set] using J.ht.aG i (.int .i64 x)
theorem cv.CQ {w1 w2:World} {v2:Value} {i:Int} (J:cv w H sv ev A s f) (k1:aa (fun _=>False) w w1) (hs:Sl w2 3 1 v2 (s.st.length+1) (s.st.map (Value.int .i64) ++ [.int .i64 i])) (k2:aa (ak sv) w1 w2)
  (ho:∀ k,ak v2 k→ak sv k∨w1.heap.size≤k):mq w H sv ev A { s with st:=s.st ++ [i] } f (w2.setCell ⟨H.pc,3,none⟩ v2):=by
 have J1:=J.same k1;have nw:∀ {b:Nat} {l:List Value} {T:TypeId},aj w1 b l T→T≠3→¬ ak sv b:=fun hb hT hv=>by
  obtain ⟨_,l',h⟩:=J1.hs.own hv;exact hb.ne h hT rfl
 have hp2:=k2.aq J1.hp (nw J1.hp (by decide));have hc2:=k2.aq J1.hc (nw J1.hc (by decide));have hl2:=k2.aq J1.hl (nw J1.hl (by decide));have ht2:=k2.aq J1.ht J.at_.1;have ha2:=J1.ha.ab k2 (nw J1.ha.hp (by decide)) (nw J1.ha.hg (by decide));have he2:=J1.he.ab k2 (fun b hb hv=>J.ap b ⟨hv,hb⟩);have set:=(aa.refl (·=H.pc) w2).setCell (p:=⟨H.pc,3,none⟩) (.inl rfl) v2;have ne:∀ {b:Nat} {l:List Value} {T:TypeId},aj w2 b l T→T≠124→¬ b=H.pc:=fun hb hT=>hb.ne hc2 hT;refine ⟨v2,⟨set.aq hp2 (ne hp2 (by decide)),ha2.ab set (ne ha2.hp (by decide)) (ne ha2.hg (by decide)),by simpa using hc2.aG 3 v2,set.aq hl2 (ne hl2 (by decide)),set.aq ht2 (ne ht2 (by decide)),?_,he2.ab set (fun b hb=>by obtain ⟨_,l,h⟩:=he2.own hb;exact ne h (by decide)),?_,⟨fun h=>?_,J.at_.2⟩⟩,?_,?_⟩
 ·have:({ s with st:=s.st ++ [i] }:Gs).st.length=s.st.length+1:=by simp
  rw [this];simpa using hs.ab set (fun b hb=>by obtain ⟨_,l,h⟩:=hs.own hb;exact ne h (by decide))
 ·rintro k ⟨h1,h2⟩;rcases ho k h1 with h | h
  ·exact J.ap k ⟨h,h2⟩
  ·have:=(J1.he.own h2).1;omega
 ·rcases ho _ h with h | h
  ·exact J.at_.1 h
  ·have:=J1.ht.lt;omega
 ·refine aa.setCell ?_ (p:=⟨H.pc,3,none⟩) (.inl (.inr (.inr (.inr (.inl rfl))))) v2;exact (k1.mono fun _ _ h=>h.elim).trans (k2.mono fun k _ hk=>.inr (.inr (.inr (.inr (.inr (.inr (.inl hk)))))))
 ·rintro k (h | h | h | h | h | h | h | h)
  ·exact .inl (.inl h)
  ·exact .inl (.inr (.inl h))
  ·exact .inl (.inr (.inr (.inl h)))
  ·exact .inl (.inr (.inr (.inr (.inl h))))
  ·exact .inl (.inr (.inr (.inr (.inr (.inl h)))))
  ·exact .inl (.inr (.inr (.inr (.inr (.inr (.inl h))))))
  ·rcases ho k h with h | h
   ·exact .inl (.inr (.inr (.inr (.inr (.inr (.inr (.inl h)))))))
   ·exact .inr (Nat.le_trans k1.size h)
  ·exact .inl (.inr (.inr (.inr (.inr (.inr (.inr (.inr h)))))))
theorem cv.yS {w1 w2:World} {v2:Value} {i:Int} (J:cv w H sv ev A s f) (k1:aa (fun _=>False) w w1) (hs:Sl w2 3 1 v2 (s.ep.length+1) (s.ep.map (Value.int .i64) ++ [.int .i64 i])) (k2:aa (ak ev) w1 w2)
  (ho:∀ k,ak v2 k→ak ev k∨w1.heap.size≤k):lP w H sv ev A { s with ep:=s.ep ++ [i] } f (w2.setCell ⟨H.pc,4,none⟩ v2):=by
 have J1:=J.same k1;have nw:∀ {b:Nat} {l:List Value} {T:TypeId},aj w1 b l T→T≠3→¬ ak ev b:=fun hb hT hv=>by
  obtain ⟨_,l',h⟩:=J1.he.own hv;exact hb.ne h hT rfl
 have hp2:=k2.aq J1.hp (nw J1.hp (by decide));have hc2:=k2.aq J1.hc (nw J1.hc (by decide));have hl2:=k2.aq J1.hl (nw J1.hl (by decide));have ht2:=k2.aq J1.ht J.at_.2;have ha2:=J1.ha.ab k2 (nw J1.ha.hp (by decide)) (nw J1.ha.hg (by decide));have hs2:=J1.hs.ab k2 (fun b hb hv=>J.ap b ⟨hb,hv⟩);have set:=(aa.refl (·=H.pc) w2).setCell (p:=⟨H.pc,4,none⟩) (.inl rfl) v2;have ne:∀ {b:Nat} {l:List Value} {T:TypeId},aj w2 b l T→T≠124→¬ b=H.pc:=fun hb hT=>hb.ne hc2 hT;refine ⟨sv,v2,⟨set.aq hp2 (ne hp2 (by decide)),ha2.ab set (ne ha2.hp (by decide)) (ne ha2.hg (by decide)),by simpa using hc2.aG 4 v2,set.aq hl2 (ne hl2 (by decide)),set.aq ht2 (ne ht2 (by decide)),hs2.ab set (fun b hb=>by obtain ⟨_,l,h⟩:=hs2.own hb;exact ne h (by decide)),?_,?_,⟨J.at_.1,fun h=>?_⟩⟩,?_,?_⟩
 ·have:({ s with ep:=s.ep ++ [i] }:Gs).ep.length=s.ep.length+1:=by simp
  rw [this];simpa using hs.ab set (fun b hb=>by obtain ⟨_,l,h⟩:=hs.own hb;exact ne h (by decide))
 ·rintro k ⟨h1,h2⟩;rcases ho k h2 with h | h
  ·exact J.ap k ⟨h1,h⟩
  ·have:=(J1.hs.own h1).1;omega
 ·rcases ho _ h with h | h
  ·exact J.at_.2 h
  ·have:=J1.ht.lt;omega
 ·refine aa.setCell ?_ (p:=⟨H.pc,4,none⟩) (.inl (.inr (.inr (.inr (.inl rfl))))) v2;exact (k1.mono fun _ _ h=>h.elim).trans (k2.mono fun k _ hk=>.inr (.inr (.inr (.inr (.inr (.inr (.inr hk)))))))
 ·rintro k (h | h | h | h | h | h | h | h)
  ·exact .inl (.inl h)
  ·exact .inl (.inr (.inl h))
  ·exact .inl (.inr (.inr (.inl h)))
  ·exact .inl (.inr (.inr (.inr (.inl h))))
  ·exact .inl (.inr (.inr (.inr (.inr (.inl h)))))
  ·exact .inl (.inr (.inr (.inr (.inr (.inr (.inl h))))))
  ·exact .inl (.inr (.inr (.inr (.inr (.inr (.inr (.inl h)))))))
  ·rcases ho k h with h | h
   ·exact .inl (.inr (.inr (.inr (.inr (.inr (.inr (.inr h)))))))
   ·exact .inr (Nat.le_trans k1.size h)
theorem Sl.drop {w:World} {e g o n cap:Nat} {l:List Int} (h:Sl w e 1 (.slice (some ⟨g,o,none⟩) (n+1) cap) (n+1) (l.map (Value.int .i64))):Sl w e 1 (.slice (some ⟨g,o,none⟩) n cap) n (l.dropLast.map (Value.int .i64)):=by
 obtain ⟨g',o',cap',cur,e',hb,h1,h2,h3,h4⟩:=h.laid (by omega);cases e';have hl:=h.len;rw [List.length_map] at hl;refine ⟨by rw [List.length_map,List.length_dropLast];omega, .inr ⟨g,o,cap,cur,rfl,hb,by omega,h2,h3,?_⟩⟩;have e1:l.dropLast=l.take n:=by rw [List.dropLast_eq_take];congr 1;omega
 rw [e1,List.map_take,←h4,List.take_take];congr 1;omega
theorem cv.pop {g o n cap:Nat} (J:cv w H (.slice (some ⟨g,o,none⟩) (n+1) cap) ev A s f) (hn:s.st.length=n+1) :
  cv (w.setCell ⟨H.pc,3,none⟩ (.slice (some ⟨g,o,none⟩) n cap)) H (.slice (some ⟨g,o,none⟩) n cap) ev A { s with st:=s.st.dropLast } f:=by
 have set:=(aa.refl (·=H.pc) w).setCell (p:=⟨H.pc,3,none⟩) (.inl rfl) (.slice (some ⟨g,o,none⟩) n cap);have ne:∀ {b:Nat} {l:List Value} {T:TypeId},aj w b l T→T≠124→¬ b=H.pc:=fun hb hT=>hb.ne J.hc hT;have hs:=J.hs;rw [hn] at hs;have hl:({ s with st:=s.st.dropLast }:Gs).st.length=n:=by show s.st.dropLast.length=n;rw [List.length_dropLast];omega
 refine ⟨set.aq J.hp (ne J.hp (by decide)),J.ha.ab set (ne J.ha.hp (by decide)) (ne J.ha.hg (by decide)),by simpa using J.hc.aG 3 (.slice (some ⟨g,o,none⟩) n cap),set.aq J.hl (ne J.hl (by decide)),set.aq J.ht (ne J.ht (by decide)),?_,J.he.ab set (fun b hb=>by obtain ⟨_,l,h⟩:=J.he.own hb;exact ne h (by decide)),J.ap,J.at_⟩;rw [hl];exact hs.drop.ab set (fun b hb=>by obtain ⟨_,l,h⟩:=hs.own (k:=b) hb;exact ne h (by decide))
theorem cv.bT (J:cv w H sv ev A s f) {B:Ar} (t:aT w H.pa H.g w' B):cv w' H sv ev B s f:=by
 have n1:∀ {b:Nat} {c:List Value} {T:TypeId},aj w b c T→T≠141→T≠2→¬ (b=H.pa∨b=H.g):=fun hb h1 h2 e=>by
  rcases e with e | e
  ·exact hb.ne J.ha.hp h1 e
  ·exact hb.ne J.ha.hg h2 e
 exact ⟨t.k.aq J.hp (n1 J.hp (by decide) (by decide)),t.at_,t.k.aq J.hc (n1 J.hc (by decide) (by decide)),t.k.aq J.hl (n1 J.hl (by decide) (by decide)),t.k.aq J.ht (n1 J.ht (by decide) (by decide)),
  J.hs.ab t.k (fun b hb=>by obtain ⟨_,l,h⟩:=J.hs.own hb;exact n1 h (by decide) (by decide)),J.he.ab t.k (fun b hb=>by obtain ⟨_,l,h⟩:=J.he.own hb;exact n1 h (by decide) (by decide)),J.ap,J.at_⟩
theorem pR (x:Int) (J:cv w H sv ev A s f) (hx:x%4=1→0≤x/4∧x/4<s.lv.length) (hl:s.lv.length≤1000000) :
  Calls Tryz.prog 71 #[.pointer (some ⟨H.pc,0,none⟩), .int .i64 x] w fun e w'=>e=.returned (.bool (aR s x))∧w=w':=by
 obtain ⟨-,c1,-,-,-,-⟩:=J.cells;have cl:=J.hc.lt;have ll:=J.hl.lt;by_cases h1:x%4=1
 ·obtain ⟨b0,b1⟩:=hx h1;have hi:=J.qZ (i:=(x/4).toNat) (by omega);have HE:=Hz (show aR s x=s.lv.getD (x/4).toNat false by simp [aR,h1,au,b0]);have AY:=Hz (fun w=>dz x w h1);clear J hx h1;generalize s.lv.getD (x/4).toNat false=b at *;generalize x/4=i at *;obtain ⟨i,rfl⟩:=Int.eq_ofNat_of_zero_le b0;simp only [Int.toNat_natCast] at hi;generalize s.lv.length=n at *;go_enter Tryz.func71,Tryz.ntmps71;go_wp2_with fail;refine (AY.out _).mono ?_;rintro e w1 ⟨rfl,rfl⟩;go_wp2_with fail;go_ret;exact ⟨db HE.out.symm,rfl⟩
 ·have HE:=Hz (show aR s x=true by simp [aR,h1]);have AN:=Hz (fun w=>lF x w h1);clear J hx h1;go_enter Tryz.func71,Tryz.ntmps71;go_wp2_with fail;refine (AN.out _).mono ?_;rintro e w1 ⟨rfl,rfl⟩;go_wp2_with fail;go_ret;exact ⟨db HE.out.symm,rfl⟩
end
end
section
open Go.RowKit
section
variable {w w':World} {H:JH} {sv ev:Value} {A:Ar} {s:Gs} {f:List Int} {T:Int→Prop} {L:Nat}
theorem cv.cS (x:Int) (J:cv w H sv ev A s f) (S:dK A T) (G:bG A T s L) (hx:Dm T x) :
  Calls Tryz.prog 71 #[.pointer (some ⟨H.pc,0,none⟩), .int .i64 x] w fun e w'=>e=.returned (.bool (aR s x))∧w=w':=
 pR x J (fun h=>by rw [G.len];exact S.bd _ (hx h)) (by rw [G.len];have:=S.ok.h4;omega)
theorem kP (x:Int) (J:cv w H sv ev A s f) (S:dK A T) (G:bG A T s L) (hx:Dm T x) (hL:L≤100000) :
  Calls Tryz.prog 67 #[.pointer (some ⟨H.pc,0,none⟩), .int .i64 x] w fun e w'=>e=.returned (.tuple #[])∧mq w H sv ev A (cJ s x) f w':=by
 have HAL:=Hz (J.cS x S G hx);have HJ:=Hz J;obtain ⟨-,c1,-,c3,-,-⟩:=J.cells;have cl:=J.hc.lt;have ll:=J.hl.lt;cases hal:aR s x
 ·have hnew:=sd (by rw [hal];decide);obtain ⟨b0,b1⟩:=S.bd _ (hx hnew.1);have hsum:=G.sum;have hlen:=G.len;have h4:=S.ok.h4;have AY:=Hz (fun w=>dz x w hnew.1);have HE:=Hz (show cJ s x=⟨s.lv.set (x/4).toNat true,s.st ++ [x/4],s.ep⟩ by unfold cJ;rw [hal];rfl);rw [hal] at HAL;have hi:=J.qZ (i:=(x/4).toNat) (by omega);have hf:=J.hl.free (x/4).toNat
  obtain ⟨i0,hi0,hz0,hz1,hz2⟩:=info_parts nu;have Hi:=Hz hi0;have Hz0:=Hz hz0;have Hz1:=Hz hz1;have Hz2:=Hz hz2;clear hi0 hz0 hz1 hz2;obtain ⟨so,sc,rfl,-,-,-⟩:=J.hs.rd;have hst:s.st.length≤100000:=by omega
  have ax:(x/4)<s.lv.length:=by omega
  have dX:s.lv.length≤1000000:=by omega
  clear J hal hnew hsum hlen b1 hx S G;generalize s.lv.getD (x/4).toNat false=b at *;generalize x/4=i at *;obtain ⟨i,rfl⟩:=Int.eq_ofNat_of_zero_le b0;simp only [Int.toNat_natCast] at hi hf HE;have bH:i<s.lv.length:=by omega
  go_enter Tryz.func67,Tryz.ntmps67;go_wp2_with fail;refine HAL.out.mono ?_;rintro e w1 ⟨rfl,rfl⟩;go_wp2_with fail;refine (AY.out _).mono ?_;rintro e w1 ⟨rfl,rfl⟩;have J1:=Hz (HJ.out.Cq i);have KS:=Hz (show aa (H.Own (.slice so s.st.length sc) ev) w (w.setCell ⟨H.lb,i,none⟩ (.bool true)) from (aa.refl _ w).setCell (p:=⟨H.lb,i,none⟩) (.inl (.inr (.inr (.inr (.inr (.inl rfl)))))) _);have hlt2:(i:Int)<s.lv.length:=by omega
  go_upto_region 3 with fail;generalize w.setCell ⟨H.lb,i,none⟩ (.bool true)=w2 at *;clear c1 c3 cl ll hi hf;have c3:=J1.out.cells.2.2.2.1;have cl:=J1.out.hc.lt;go_wp2_with (at_builtin;refine da rfl (.tmp 25) (.tmp 27) 83 rfl 3 i0 (.int .i64 0) 1 8 Tryz.underlying83 Hi.out Hz0.out Hz1.out Hz2.out rfl (by decide) _ s.st.length (s.st.map (Value.int .i64)) rfl ?ha ⟨w2.heap.size,0,none⟩ 1 1 [.int .i64 i] rfl rfl ?hb ?hc ?hd ?he ?hf)
  case ha=>exact J1.out.hs.ab ((Kz w2).alloc _) (fun _ _ h=>h)
  case hb=>exact bX w2 3 _
  case hc=>intro u hu;simp at hu;subst hu;rfl
  case hd=>unfold maxLen;omega
  case he=>omega
  case hf=>
   intro v2 w3 hs2 hk2 ho2;obtain ⟨ao2,cap2,rfl,-,-,-⟩:=hs2.rd;have T2:=Hz (J1.out.CQ ((Kz w2).alloc (.cells #[.int .i64 i] 3)) hs2 hk2 (by simpa using ho2));have K2:=Hz (((Kz w2).alloc (.cells #[.int .i64 i] 3)).aq J1.out.hc (fun h=>h));have K3:=Hz (hk2.aq K2.out (fun hv=>by
    obtain ⟨_,l,h⟩:=(J1.out.hs.ab ((Kz w2).alloc (.cells #[.int .i64 i] 3)) (fun _ _ h=>h)).own hv
    exact K2.out.ne h (by decide) rfl))
   clear hs2 hk2 ho2 K2 c3 cl;have x0:=K3.out.cell 3;have xl:=K3.out.lt;have xf:=K3.out.free 3;simp only [Lz,aC] at x0;go_wp2_with fail;go_end0;refine ⟨rfl,?_⟩;rw [HE.out];exact mq.join KS.out (fun k hk=>.inl hk) T2.out
 ·have HE:=Hz (show cJ s x=s by unfold cJ;rw [hal];rfl);rw [hal] at HAL;clear J hal;go_enter Tryz.func67,Tryz.ntmps67;go_wp2_with fail;refine HAL.out.mono ?_;rintro e w1 ⟨rfl,rfl⟩;go_wp2_with fail;go_end0;refine ⟨rfl,?_⟩;rw [HE.out];exact mq.refl HJ.out
theorem Aq (i:Int) (J:cv w H sv ev A s f) (S:dK A T) (G:bG A T s L) (hi:T i) (hL:L≤90000) :
  Calls Tryz.prog 133 #[.pointer (some ⟨H.pc,0,none⟩), .int .i64 i] w fun e w'=>e=.returned (.tuple #[])∧lP w H sv ev A (jq A s i) f w':=by
 have HJ:=Hz J;have HS:=Hz S;have HG:=Hz G;have bd:=S.bd i hi;have h4:=S.ok.h4;have FD:=Hz (S.fd i hi);have TW:=Hz (S.two i hi);have hsum:=G.sum;obtain ⟨c0,-,-,-,c4,p0⟩:=J.cells;have pl:=J.hp.lt;have cl:=J.hc.lt;have HTH:=Hz (gJ i w J.ha);have hb:=A.aO i;obtain ⟨G2,hGe⟩:∃ G,jq A s i=G:=⟨_,rfl⟩;have HL:=Hz hGe;clear J S G hi;unfold jq at hGe;have hfields:A.fields i=(List.range (A.ai i).2.1.toNat).map fun (j:Nat)=>A.load (i+1+(j:Int)):=rfl;obtain ⟨F,hF⟩:∃ F,A.fields i=F:=⟨_,rfl⟩;rw [hF] at hGe FD TW hfields;obtain ⟨⟨k,n,cd⟩,hT⟩:∃ t,A.ai i=t:=⟨_,rfl⟩;rw [hT] at HTH hb hGe hfields TW;dsimp only at HTH hb hGe hfields TW;have HFI:=Hz hfields;clear hT hF hfields;have hi1:IntKind.i64.wrap (i+1)=i+1:=IntWalk.i64_in _ (by omega);by_cases k12:k=1∨k=2
 ·rw [if_pos k12] at hGe;have HE:=Hz hGe;clear hGe;obtain ⟨m,rfl⟩:∃ m:Nat,n=m:=⟨n.toNat,by omega⟩;have hFl:F.length=m:=by rw [HFI.out];simp
  have HFL:=Hz hFl;have HFG:=Hz (show ∀ q:Nat,q<m→A.load (i+1+q)=F.getD q 0 from fun q hq=>by
   rw [HFI.out,Ld,List.getElem?_map,List.getElem?_range (by simpa using hq)];rfl)
  clear hFl;rcases k12 with rfl | rfl
  all_goals
   go_enter Tryz.func133,Tryz.ntmps133;go_wp2_with fail;refine HTH.out.mono ?_;rintro e w1 ⟨rfl,rfl⟩;go_wp2_with fail;go_loopw [26] (fun u wr=>∃ q:Nat,q≤m∧u=.int .i64 q∧lP w H sv ev A (eE s (F.take q)) f wr) (fun u _=>m-(intOf u).toNat)
   case atStart=>exact ⟨0,Nat.zero_le _,rfl,lP.refl HJ.out⟩
   case round=>
    obtain ⟨q,hq,rfl,t⟩:=hrel;obtain ⟨sv1,ev1,J1,k1,o1⟩:=t;have HJ1:=Hz J1;have K1:=Hz k1;have O1:=Hz o1;clear k1 o1 c0 c4 p0 pl cl;by_cases hlt:q<m
    ·obtain ⟨c0,-,-,-,-,p0⟩:=J1.cells;have pl:=J1.hp.lt;have cl:=J1.hc.lt;have G1:=Hz (bG.marks HS.out (F.take q) HG.out (fun x hx=>FD.out x (List.mem_of_mem_take hx))).1;have HMS:=Hz (oZ (s:=s) (l:=F) (k:=q) (by rw [HFL.out];exact hlt));have DM:=Hz (show Dm T (F.getD q 0) from FD.out _ (by rw [Ld,Le (by rw [HFL.out];exact hlt)];exact List.getElem_mem _));have HLQ:=Hz (HFG.out q hlt);have hiq:IntKind.i64.wrap (i+1+q)=i+1+q:=IntWalk.i64_in _ (by omega);clear J1;generalize F.getD q 0=x at *;go_wp2_with fail;refine (eM (i+1+q) _ HJ1.out.ha).mono ?_;rintro e w2 ⟨rfl,rfl⟩;rw [HLQ.out];go_wp2_with fail;refine (kP x HJ1.out HS.out G1.out DM.out (by omega)).mono ?_;rintro e w2 ⟨rfl,t⟩;have T2:=Hz (lP.join K1.out O1.out t.to);clear t c0 p0 pl cl;go_wp2_with fail;go_roundw
     case rel=>exact ⟨q+1,hlt,by go_num,by rw [HMS.out];exact T2.out⟩
     case measure=>simp [intOf];omega
    ·obtain rfl:q=m:=by omega
     clear J1;go_wp2_with fail;go_end0;refine ⟨rfl,?_⟩;rw [HL.out,←HE.out];refine lP.join K1.out O1.out (lP.refl ?_);have:=HJ1.out;rw [List.take_of_length_le (by rw [HFL.out];exact Nat.le_refl _)] at this;exact this
 ·have k1:(k == 1)=false:=by simp;omega
  have k2:(k == 2)=false:=by simp;omega
  rw [if_neg k12] at hGe;clear k12;obtain ⟨i0,hi0,hz0,hz1,hz2⟩:=info_parts nu;have Hi:=Hz hi0;have Hz0:=Hz hz0;have Hz1:=Hz hz1;have Hz2:=Hz hz2;clear hi0 hz0 hz1 hz2;by_cases k3:k=3
  ·subst k3;rw [if_pos rfl] at hGe;have HE:=Hz hGe;have DM:=Hz (show Dm T (A.load (i+2)) from FD.out _ (TW.out (.inl rfl)).2);clear hGe;have hi2:IntKind.i64.wrap (i+2)=i+2:=IntWalk.i64_in _ (by omega);go_enter Tryz.func133,Tryz.ntmps133;go_wp2_with fail;refine HTH.out.mono ?_;rintro e w1 ⟨rfl,rfl⟩;go_wp2_with fail;refine (eM (i+2) _ HJ.out.ha).mono ?_;rintro e w2 ⟨rfl,rfl⟩;go_wp2_with fail;refine (kP _ HJ.out HS.out HG.out DM.out (by omega)).mono ?_;rintro e w2 ⟨rfl,t⟩;have T2:=Hz t.to;clear t;go_wp2_with fail;go_end0;refine ⟨rfl,?_⟩;rw [HL.out,←HE.out];exact T2.out
  ·have k3':(k == 3)=false:=by simpa using k3
   rw [if_neg k3] at hGe;clear k3;by_cases k4:k=4
   ·subst k4;rw [if_pos rfl] at hGe;have HE:=Hz hGe;clear hGe;obtain ⟨eo,ec,rfl,-,-,-⟩:=HJ.out.he.rd;go_enter Tryz.func133,Tryz.ntmps133;go_wp2_with fail;refine HTH.out.mono ?_;rintro e w1 ⟨rfl,rfl⟩;go_wp2_with (at_builtin;refine da rfl (.tmp 64) (.tmp 66) 83 rfl 3 i0 (.int .i64 0) 1 8 Tryz.underlying83 Hi.out Hz0.out Hz1.out Hz2.out rfl (by decide) _ s.ep.length (s.ep.map (Value.int .i64)) rfl ?ha ⟨w.heap.size,0,none⟩ 1 1 [.int .i64 i] rfl rfl ?hb ?hc ?hd ?he ?hf)
    case ha=>exact HJ.out.he.ab ((Kz w).alloc _) (fun _ _ h=>h)
    case hb=>exact bX w 3 _
    case hc=>intro u hu;simp at hu;subst hu;rfl
    case hd=>unfold maxLen;omega
    case he=>omega
    case hf=>
     intro v2 w2 hs2 hk2 ho2;obtain ⟨ao2,cap2,rfl,-,-,-⟩:=hs2.rd;have T2:=Hz (HJ.out.yS ((Kz w).alloc (.cells #[.int .i64 i] 3)) hs2 hk2 (by simpa using ho2));have K2:=Hz (((Kz w).alloc (.cells #[.int .i64 i] 3)).aq HJ.out.hc (fun h=>h));have K3:=Hz (hk2.aq K2.out (fun hv=>by
      obtain ⟨_,l,h⟩:=(HJ.out.he.ab ((Kz w).alloc (.cells #[.int .i64 i] 3)) (fun _ _ h=>h)).own hv
      exact K2.out.ne h (by decide) rfl))
     clear hs2 hk2 ho2 K2;have x0:=K3.out.cell 4;have xl:=K3.out.lt;have xf:=K3.out.free 4;simp only [Lz,aC] at x0;clear c0 c4 p0 pl cl;go_wp2_with fail;go_end0;refine ⟨rfl,?_⟩;rw [HL.out,←HE.out];exact T2.out
   ·have k4':(k == 4)=false:=by simpa using k4
    rw [if_neg k4] at hGe;have HE:=Hz hGe;clear hGe k4;go_enter Tryz.func133,Tryz.ntmps133;go_wp2_with fail;refine HTH.out.mono ?_;rintro e w1 ⟨rfl,rfl⟩;go_wp2_with fail;go_end0;refine ⟨rfl,?_⟩;rw [HL.out,←HE.out];exact lP.refl HJ.out
end
end
section
open Go.RowKit
def iU (w:World) (b:Nat) (H:JH):Prop:=aj w b [.pointer (some ⟨H.pc,0,none⟩)] 121
def CZ:Value→Bool
 | .bool b=>!b
 | _=>false
def ny (w:World) (b:Nat):Nat:=match w.heap[b]? with | some (.cells cs _ _)=>(cs.toList.filter CZ).length | _=>0
def tS (w:World) (b i:Nat):Nat:=match w.cell? ⟨b,i,none⟩ with | some (.slice _ n _)=>n | _=>0
theorem pS {w:World} {b:Nat} {l:List Bool} {T:TypeId} (h:aj w b (l.map Value.bool) T):ny w b=bN l:=by
 unfold ny bN;unfold aj at h;rw [h];simp only [List.filter_map,List.length_map];congr 1
theorem As {w:World} {b i n cap:Nat} {ao:Option Addr} (h:w.cell? ⟨b,i,none⟩=some (.slice ao n cap)):tS w b i=n:=by unfold tS;rw [h]
section
variable {w w':World} {H:JH} {sv ev rv qv:Value} {A:Ar} {s:Gs} {f:List Int} {T:Int→Prop} {L sp:Nat} {rg q:List (Int × Int)}
theorem cv.q5 (J:cv w H sv ev A s f) {b:Nat} (hb:iU w b H):¬ H.Own sv ev b:=fun h=>by
 obtain ⟨_,T,h',hT⟩:=J.bB h;refine hb.ne h' ?_ rfl;rcases hT with rfl | rfl | rfl | rfl | rfl | rfl <;> decide
theorem cv.cK {p:Nat} (J:cv w H sv ev A s f) (S:aZ w p rv qv rg q) {k:Nat} (hk:H.Own sv ev k):¬ aF p rv qv k:=fun hs=>by
 obtain ⟨_,T,h,hT⟩:=J.bB hk;obtain ⟨_,U,h',hU⟩:=S.cF hs;refine h.ne h' ?_ rfl;rcases hT with rfl | rfl | rfl | rfl | rfl | rfl <;> rcases hU with rfl | rfl <;> decide
theorem vw (x:Int) (w:World):Calls Tryz.prog 70 #[.int .i64 x] w fun e w'=>e=.returned (.int .i64 x)∧w=w':=by
 go_enter Tryz.func70,Tryz.ntmps70;go_wp2_with fail;go_ret;exact ⟨rfl,rfl⟩
theorem xM (x:Int) (b:Nat) (J:cv w H sv ev A s f) (S:dK A T) (G:bG A T s L) (hx:Dm T x) (hL:L≤100000) (hb:iU w b H) :
  Calls Tryz.prog 134 #[.int .i64 x, .pointer (some ⟨b,0,none⟩)] w fun e w'=>e=.returned (.int .i64 x)∧mq w H sv ev A (cJ s x) f w':=by
 have HM:=Hz (kP x J S G hx hL);have b0:=hb.cell 0;have bl:=hb.lt;simp only [Lz] at b0;clear J S G hb;go_enter Tryz.func134,Tryz.ntmps134;go_wp2_with fail;refine HM.out.mono ?_;rintro e w1 ⟨rfl,t⟩;have T1:=Hz t;clear t b0 bl;go_wp2_with fail;go_ret;exact ⟨rfl,T1.out⟩
def Bv (H:JH) (A:Ar) (f:List Int) (T:Int→Prop) (L:Nat) (S:dK A T) (hL:L≤100000) (sp b:Nat):eH Tryz.prog sp Gs where
 J:=fun w s F=>∃ sv ev,cv w H sv ev A s f∧bG A T s L∧iU w b H∧F=fun k=>H.Own sv ev k∨k=b
 D:=fun _ x=>Dm T x
 DK:=fun _ x=>Dm T x
 alive:=aR
 ab:=fun s q x=>((lx s x).1,q,(lx s x).2)
 now:=fun _ x=>x
 fa:=71
 fk:=134
 fn:=70
 a1:=#[.pointer (some ⟨H.pc,0,none⟩)]
 a2:=#[]
 k1:=#[]
 k2:=#[.pointer (some ⟨b,0,none⟩)]
 n1:=#[]
 n2:=#[]
 ea:=fun args w=>by kernel_rfl
 ek:=fun args w=>by kernel_rfl
 en:=fun args w=>by kernel_rfl
 J_keep:=fun h k hn=>by
  obtain ⟨sv,ev,h1,h2,h3,rfl⟩:=h;exact ⟨sv,ev,h1.ab k (fun b hb=>hn b (.inl hb)),h2,k.aq h3 (hn _ (.inr rfl)),rfl⟩
 J_lt:=fun h hk=>by
  obtain ⟨sv,ev,h1,h2,h3,rfl⟩:=h;rcases hk with hk | rfl
  ·exact h1.a5 hk
  ·exact h3.lt
 cS:=fun w t F x hJ hx=>by
  obtain ⟨sv,ev,h1,h2,-⟩:=hJ;exact (h1.cS x S h2 hx).mono (by rintro e w' ⟨rfl,rfl⟩;exact ⟨rfl,aa.refl _ _⟩)
 now_c:=fun w t F x hJ _=>(vw x w).mono (by rintro e w' ⟨rfl,rfl⟩;exact ⟨rfl,aa.refl _ _⟩)
 keep_c:=fun w t F rv qv ah wait x hJ hS hA hx hq hl=>by
  obtain ⟨sv,ev,h1,h2,h3,rfl⟩:=hJ;refine (xM x b h1 S h2 hx hL h3).mono ?_;rintro e w' ⟨rfl,sv',J',k',o'⟩;have hS':=hS.ab k' (fun b hb hk=>hA b ⟨.inl hk,hb⟩);refine ⟨rfl,_,⟨sv',ev,J',(h2.mark S hx).1,k'.aq h3 (h1.q5 h3),rfl⟩,hS',fun k hk=>?_,k'.mono (fun _ _ h=>.inl (.inl h)),fun k hk=>?_⟩
  ·rcases hk with ⟨hk | hk,hs⟩
   ·exact J'.cK hS' hk hs
   ·exact hA k ⟨.inr hk,hs⟩
  ·rcases hk with hk | hk
   ·exact (o' k hk).imp .inl id
   ·exact .inl (.inr hk)
 DK_D:=fun h=>h
 DK_keep:=fun _ h=>h
 D_keep:=fun _ h=>h
 D_new:=fun h=>h
 D_wait:=fun _ h=>h
 keep_len:=rfl
structure JS (w:World) (H:JH) (sp:Nat) (sv ev rv qv:Value) (A:Ar) (f:List Int) (T:Int→Prop) (L:Nat) (rg q:List (Int × Int)) (s:Gs):Prop where
 J:cv w H sv ev A s f
 S:aZ w sp rv qv rg q
 ok:bG A T s L
def fW (w:World) (H:JH) (sp:Nat) (sv ev rv qv:Value) (A:Ar) (f:List Int) (T:Int→Prop) (L:Nat) (rg q:List (Int × Int)) (s:Gs) (w':World):Prop:=
 ∃ sv' ev',JS w' H sp sv' ev' rv qv A f T L rg q s∧aa (fun k=>H.Own sv ev k∨aF sp rv qv k) w w'∧∀ k,H.Own sv' ev' k→H.Own sv ev k∨w.heap.size≤k
theorem JS.ab {S:Nat→Prop} (C:JS w H sp sv ev rv qv A f T L rg q s) (k:aa S w w') (h1:∀ b,H.Own sv ev b→¬ S b) (h2:∀ b,aF sp rv qv b→¬ S b):JS w' H sp sv ev rv qv A f T L rg q s:=
 ⟨C.J.ab k h1,C.S.ab k h2,C.ok⟩
theorem JS.same (C:JS w H sp sv ev rv qv A f T L rg q s) (k:aa (fun _=>False) w w'):JS w' H sp sv ev rv qv A f T L rg q s:=C.ab k (fun _ _ h=>h) (fun _ _ h=>h)
theorem fW.refl (C:JS w H sp sv ev rv qv A f T L rg q s) (k:aa (fun _=>False) w w'):fW w H sp sv ev rv qv A f T L rg q s w':=⟨sv,ev,C.same k,k.mono (fun _ _ h=>h.elim),fun _ h=>.inl h⟩
theorem fW.join {w1:World} {sv1 ev1:Value} (k1:aa (fun k=>H.Own sv ev k∨aF sp rv qv k) w w1) (o1:∀ k,H.Own sv1 ev1 k→H.Own sv ev k∨w.heap.size≤k) (t:fW w1 H sp sv1 ev1 rv qv A f T L rg q s w'):fW w H sp sv ev rv qv A f T L rg q s w':=by
 obtain ⟨a2,b2,J2,k2,o2⟩:=t;refine ⟨a2,b2,J2,k1.then k2 (fun k hk=>?_),fun k hk=>?_⟩
 ·rcases hk with hk | hk
  ·exact (o1 k hk).imp .inl id
  ·exact .inl (.inr hk)
 ·rcases o2 k hk with h | h
  ·exact o1 k h
  ·exact .inr (Nat.le_trans k1.size h)
theorem JS.var (C:JS w H sp sv ev rv qv A f T L rg q s) {b:Nat} (hb:iU w b H) (k:aa (fun k=>H.Own sv ev k∨aF sp rv qv k) w w'):iU w' b H:=k.aq hb (fun h=>by
 rcases h with h | h
 ·exact C.J.q5 hb h
 ·obtain ⟨_,U,h',hU⟩:=C.S.cF h;refine hb.ne h' ?_ rfl
  rcases hU with rfl | rfl <;> decide)
def Bw (w:World) (H:JH) (sp b:Nat) (sv ev rv qv:Value) (A:Ar) (f:List Int) (T:Int→Prop) (L:Nat) (rg q:List (Int × Int)) (s:Gs) (m:Value) (wr:World):Prop:=
 (∃ (n:Nat) (s1:Gs),m=.bool true∧fW w H sp sv ev rv qv A f T L rg q s1 wr∧iU wr b H∧eF A q 2000 s=eF A q (n+1) s1∧bN s1.lv≤n) ∨
  (m=.bool false∧fW w H sp sv ev rv qv A f T L rg q (eF A q 2000 s) wr)
def lC (H:JH) (m:Value) (wr:World):Nat:=ny wr H.lb+match m with | .bool true=>1 | _=>0
def Cs (w:World) (H:JH) (sp b:Nat) (sv ev rv qv:Value) (A:Ar) (f:List Int) (T:Int→Prop) (L:Nat) (rg q:List (Int × Int)) (s:Gs) (wr:World):Prop:=
 ∃ (n:Nat) (s2:Gs),fW w H sp sv ev rv qv A f T L rg q s2 wr∧iU wr b H∧jPops A 2000 s=jPops A n s2∧jM s2<n
theorem wj (h:bG A T s L) (hL:L≤1900):jM s<2000:=by have:=h.sum;unfold jM;omega
theorem cv.jM (J:cv w H sv ev A s f):tS w H.pc 3+ny w H.lb=Proofs.YtjifdalflepcoacGreat.jM s:=by
 obtain ⟨so,sc,e,-,-,-⟩:=J.hs.rd;have c3:=J.cells.2.2.2.1;rw [e] at c3;rw [As c3,pS J.hl]
 rfl
theorem fW.jM (t:fW w H sp sv ev rv qv A f T L rg q s w'):tS w' H.pc 3+ny w' H.lb=Proofs.YtjifdalflepcoacGreat.jM s:=by
 obtain ⟨_,_,C,-,-⟩:=t;exact C.J.jM
theorem fW.bN (t:fW w H sp sv ev rv qv A f T L rg q s w'):ny w' H.lb=Proofs.YtjifdalflepcoacGreat.bN s.lv:=by
 obtain ⟨_,_,C,-,-⟩:=t;exact pS C.J.hl
theorem tT (C:JS w H sp sv ev rv qv A f T L rg q s) (S:dK A T) (hq:∀ e ∈ q,Dm T e.1∧Dm T e.2) (hql:q.length≤1000000) (hL:L≤1900) :
  Calls Tryz.prog 69 #[.pointer (some ⟨H.pc,0,none⟩), .pointer (some ⟨sp,0,none⟩)] w fun e w'=>e=.returned (.tuple #[])∧fW w H sp sv ev rv qv A f T L rg q (eF A q 2000 s) w':=by
 have HC0:=Hz C;have HS:=Hz S;have HQ:=Hz hq;have HQL:=Hz hql;clear C S hq hql;generalize hwx:w.alloc (.cells #[.pointer (some ⟨H.pc,0,none⟩)] 121)=wx;have HK:=Hz (show aa (fun _=>False) w wx by rw [←hwx];exact (aa.refl _ _).alloc _);have HB:=Hz (show iU wx w.heap.size H by rw [←hwx];exact aj.newAt _ rfl rfl);have HX:=Hz hwx;have HC:=Hz (HC0.out.same HK.out);have HTJ:=Hz (fW.refl HC0.out HK.out);clear hwx HC0;go_enter Tryz.func69,Tryz.ntmps69;go_wp2_with fail;rw [HX.out];generalize hbe:w.heap.size=b at HB HX ⊢;have BG:=Hz (Nat.le_of_eq hbe);clear HX hbe;go_loopw [4] (fun m wr=>Bw w H sp b sv ev rv qv A f T L rg q s m wr) (fun m wr=>lC H m wr)
 case atStart=>exact .inl ⟨1999,s,rfl,HTJ.out,HB.out,rfl,by have:=HC.out.ok.sum;omega⟩
 case round=>
  rcases hrel with ⟨n,s1,rfl,ht,ax,he,hn⟩ | ⟨rfl,ht⟩
  ·obtain ⟨sv1,ev1,C1,k1,o1⟩:=ht;have HMU:=Hz (show lC H (.bool true) wr=bN s1.lv+1 by unfold lC;rw [pS C1.J.hl]);have HC1:=Hz C1;have K1:=Hz k1;have O1:=Hz o1;have HE:=Hz he;have HN:=Hz hn;have HB1:=Hz ax;clear C1 k1 o1 he hn ax HB;obtain ⟨w1,rfl⟩:∃ x:World,x=wr:=⟨wr,rfl⟩;go_wp2_with fail;go_loopw [14] (fun _ wr=>Cs w1 H sp b sv1 ev1 rv qv A f T L rg q s1 wr) (fun _ wr=>tS wr H.pc 3+ny wr H.lb)
   case atStart=>exact ⟨2000,s1,fW.refl HC1.out (aa.refl _ _),HB1.out,rfl,wj HC1.out.ok hL⟩
   case round=>
    obtain ⟨m,s2,⟨sv2,ev2,C2,k2,o2⟩,bH,he2,hm2⟩:=hrel;have HC2:=Hz C2;have K2:=Hz k2;have O2:=Hz o2;have HE2:=Hz he2;have HM2:=Hz hm2;have HB2:=Hz bH;clear k2 o2 he2 hm2;have b0:=bH.cell 0;have bl:=bH.lt;simp only [Lz] at b0;have c3:=C2.J.cells.2.2.2.1;have c4:=C2.J.cells.2.2.2.2.1;have cl:=C2.J.hc.lt;clear bH C2;obtain ⟨so,sc,rfl,hsr,-,hsc⟩:=HC2.out.J.hs.rd;obtain ⟨eo,ec,rfl,-,-,-⟩:=HC2.out.J.he.rd;have HLF:=Hz HC2.out.J.jM;have hstl:s2.st.length≤2000:=by have:=HC2.out.ok.sum;omega
    have hepl:s2.ep.length≤2000:=by have:=HC2.out.ok.sum;omega
    by_cases hne:s2.st=[]
    ·have hl0:s2.st.length=0:=by rw [hne];rfl
     have HST:=Hz (show jPops A 2000 s1=s2 by rw [HE2.out,vX _ hne]);rw [hl0] at c3;clear hne hsr hsc HE2 HM2 HLF hstl hl0;obtain ⟨w2,rfl⟩:∃ x:World,x=wr:=⟨wr,rfl⟩;go_wp2_with fail;go_loopw [49] (fun u wr=>∃ k:Nat,k≤s2.ep.length∧u=.int .i64 k∧∃ sv',JS wr H sp sv' (.slice eo s2.ep.length ec) rv qv A f T L rg q (ic A s2 (s2.ep.take k))∧aa (fun k=>H.Own (.slice so s2.st.length sc) (.slice eo s2.ep.length ec) k∨aF sp rv qv k) w2 wr∧(∀ k,H.Own sv' (.slice eo s2.ep.length ec) k→H.Own (.slice so s2.st.length sc) (.slice eo s2.ep.length ec) k∨w2.heap.size≤k)∧iU wr b H) (fun u _=>s2.ep.length-(intOf u).toNat)
     case atStart=>exact ⟨0,Nat.zero_le _,rfl,_,HC2.out,aa.refl _ _,fun _ h=>.inl h,HB2.out⟩
     case round=>
      clear c3 c4 cl b0 bl;obtain ⟨k,hk,rfl,sv3,C3,k3,o3,dX⟩:=hrel;have HC3:=Hz C3;have K3:=Hz k3;have O3:=Hz o3;have HB3:=Hz dX;clear C3 k3 o3 dX;have hee:=vr A (s2.ep.take k) s2;have b0:=HB3.out.cell 0;have bl:=HB3.out.lt;simp only [Lz] at b0;have c0:=HC3.out.J.cells.1;have p0:=HC3.out.J.cells.2.2.2.2.2;have pl:=HC3.out.J.hp.lt;have cl:=HC3.out.J.hc.lt;by_cases hlt:k<s2.ep.length
      ·have he3:=HC3.out.J.he;rw [hee] at he3;obtain ⟨_,_,e',rd,-,-⟩:=he3.rd;cases e';obtain ⟨ge,oe,rfl,d0⟩:=rd.int k hlt;have hgl:=(he3.own rfl).1;have hmem:s2.ep.getD k 0 ∈ s2.ep:=by rw [Ld,Le hlt];exact List.getElem_mem hlt
       have hin:=HC2.out.ok.ep _ hmem;have hbd:=HS.out.bd _ hin.1;have h4:=HS.out.ok.h4;have HTK:=Hz (xC (A:=A) (s:=s2) hlt);generalize s2.ep.getD k 0=i at *;have D1:=Hz (show Dm T (A.load (i+1)) from HS.out.fd i hin.1 _ (HS.out.two i hin.1 (.inr hin.2)).1);have D2:=Hz (show Dm T (A.load (i+2)) from HS.out.fd i hin.1 _ (HS.out.two i hin.1 (.inr hin.2)).2);have GE:=Hz (HC3.out.ok.tr HS.out hin).1;have hi1:IntKind.i64.wrap (i+1)=i+1:=IntWalk.i64_in _ (by omega);have hi2:IntKind.i64.wrap (i+2)=i+2:=IntWalk.i64_in _ (by omega);obtain ⟨s3,hs3⟩:∃ s,ic A s2 (s2.ep.take k)=s:=⟨_,rfl⟩;rw [hs3] at HC3 HTK GE hee;have HEE:=Hz hee;clear rd hmem he3 hs3 hin hee;go_wp2_with fail;refine a8 (.free 8 (.free 9 (.pure 0 (.pure 1 (.free 2 (.free 3 (.pure 4 (.free 5 (.free 6 (.pure 7 (.run 10 (.run 11 (.swi [] (.fin)))))))))))))) [11] (Fz b0 (Fz c0 (Fa p0))) ?_
       iterate 10 refine Wz ?_
       have HC4:=Hz (HC3.out.same ((Kz wr).drew));have HB4:=Hz ((Kz wr).drew.aq HB3.out (fun h=>h));have K4:=Hz (K3.out.trans ((Kz wr).drew.mono (fun _ _ h=>h.elim)));refine aM rfl rfl (fun K hK=>?_);unfold aw;go_simp;refine (eM (i+1) _ HC4.out.J.ha).mono ?_;rintro e w4 ⟨rfl,rfl⟩;refine hK _ _ (fun h=>h) ?_;clear hK K;refine aA rfl rfl rfl (fun K hK=>?_);unfold aw;go_simp;refine (HC4.out.J.cS _ HS.out HC4.out.ok D1.out).mono ?_;rintro e w4 ⟨rfl,rfl⟩;refine hK _ _ ?_;clear hK K b0 bl c0 p0 pl cl d0 hgl HC3 HB3 K3;refine aB (fun _=>True) trivial (av ?_);generalize wr.drew=wr at *;cases hal:aR s3 (A.load (i+1))
       ·have HJ1:=Hz (show fC A s3 i=s3 by unfold fC;rw [hal];rfl);clear hal;go_wp2_with fail;go_roundw
        case rel=>exact ⟨k+1,hlt,by go_num,_,by rw [HTK.out,HJ1.out];exact HC4.out,K4.out,O3.out,HB4.out⟩
        case measure=>simp [intOf];omega
       ·have HJ1:=Hz (show fC A s3 i=cJ s3 (A.load (i+2)) by unfold fC;rw [hal];rfl);clear hal;have b0:=HB4.out.cell 0;have bl:=HB4.out.lt;simp only [Lz] at b0;have c0:=HC4.out.J.cells.1;have p0:=HC4.out.J.cells.2.2.2.2.2;have pl:=HC4.out.J.hp.lt;have cl:=HC4.out.J.hc.lt;go_wp2_with fail;refine a8 (.free 8 (.free 9 (.pure 0 (.pure 1 (.free 2 (.free 3 (.pure 4 (.free 5 (.free 6 (.pure 7 (.run 10 (.run 11 (.swi [] (.fin)))))))))))))) [11] (Fz b0 (Fz c0 (Fa p0))) ?_
        iterate 10 refine Wz ?_
        have HC5:=Hz (HC4.out.same ((Kz wr).drew));have HB5:=Hz ((Kz wr).drew.aq HB4.out (fun h=>h));have K5:=Hz (K4.out.trans ((Kz wr).drew.mono (fun _ _ h=>h.elim)));refine aM rfl rfl (fun K hK=>?_);unfold aw;go_simp;refine (eM (i+2) _ HC5.out.J.ha).mono ?_;rintro e w4 ⟨rfl,rfl⟩;refine hK _ _ (fun h=>h) ?_;clear hK K;refine aA rfl rfl rfl (fun K hK=>?_);unfold aw;go_simp;refine (kP _ HC5.out.J HS.out HC5.out.ok D2.out (by omega)).mono ?_;rintro e w6 ⟨rfl,sv6,J6,k6,o6⟩;have HB6:=Hz (k6.aq HB5.out (HC5.out.J.q5 HB5.out));have GE':=GE.out;rw [HJ1.out] at GE';have C6:=Hz (show JS w6 H sp sv6 (.slice (some ⟨ge,oe,none⟩) s2.ep.length ec) rv qv A f T L rg q (cJ s3 (A.load (i+2))) from ⟨J6,HC5.out.S.ab k6 (fun b hb hk=>HC5.out.J.cK HC5.out.S hk hb),GE'⟩);have K6:=Hz (K5.out.then (k6.mono (T:=fun k=>H.Own sv3 (.slice (some ⟨ge,oe,none⟩) s2.ep.length ec) k∨aF sp rv qv k) (fun _ _ h=>.inl h)) (fun k hk=>by
         rcases hk with hk | hk
         ·exact (O3.out k hk).imp .inl id
         ·exact .inl (.inr hk)))
        have O6:=Hz (show ∀ k,H.Own sv6 (.slice (some ⟨ge,oe,none⟩) s2.ep.length ec) k→H.Own (.slice so s2.st.length sc) (.slice (some ⟨ge,oe,none⟩) s2.ep.length ec) k∨w2.heap.size≤k from fun k hk=>by
         rcases o6 k hk with h | h
         ·exact O3.out k h
         ·exact .inr (Nat.le_trans K5.out.size h))
        refine hK _ _ ?_;clear hK K b0 bl c0 p0 pl cl J6 k6 o6 GE';refine aB (fun _=>True) trivial (av ?_);go_wp2_with fail;go_roundw
        case rel=>exact ⟨k+1,hlt,by go_num,_,by rw [HTK.out,HJ1.out];exact C6.out,K6.out,O6.out,HB6.out⟩
        case measure=>simp [intOf];omega
      ·obtain rfl:k=s2.ep.length:=by omega
       rw [List.take_length] at HC3 hee;obtain ⟨s3,hs3⟩:∃ s,ic A s2 s2.ep=s:=⟨_,rfl⟩;have HS3:=Hz hs3;rw [hs3] at HC3;clear hs3 hee hlt hk;go_wp2_with fail;refine (Ac sp (Bv H A f T L HS.out (by omega) sp b) lx (fun _ _ _=>rfl) s3 (fun k=>H.Own sv3 (.slice eo s2.ep.length ec) k∨k=b) rv qv rg q wr (fun _ _ h _=>h) ⟨_,_,HC3.out.J,HC3.out.ok,HB3.out,rfl⟩ HC3.out.S (fun k hk=>by
        rcases hk with ⟨hk | hk,hs⟩
        ·exact HC3.out.J.cK HC3.out.S hk hs
        ·subst hk;obtain ⟨_,U,h',hU⟩:=HC3.out.S.cF hs;refine HB3.out.ne h' ?_ rfl
         rcases hU with rfl | rfl <;> decide) HQL.out (fun e he=>HQ.out e he)).mono ?_
       rintro e w6 ⟨rfl,F6,⟨sv6,ev6,hJ6,hG6,hB6,rfl⟩,hS6,-,hk6,hF6,-⟩;replace hS6:aZ w6 sp rv qv rg (wakeM aR lx s3 q).2.1:=hS6;rw [mT] at hS6;replace hJ6:cv w6 H sv6 ev6 A (wakeM aR lx s3 q).1 f:=hJ6;replace hG6:bG A T (wakeM aR lx s3 q).1 L:=hG6;have HRD:=Hz (show di A q s1=(wakeM aR lx s3 q).1 by unfold di;rw [HST.out,HS3.out]);rw [←HRD.out] at hJ6 hG6;have C6:=Hz (show JS w6 H sp sv6 ev6 rv qv A f T L rg q (di A q s1) from ⟨hJ6,hS6,hG6⟩);have KB:=Hz hB6;have T6:=Hz (show fW w H sp sv ev rv qv A f T L rg q (di A q s1) w6 from by
        have k12:=K1.out.then K2.out (fun k hk=>hk.elim (fun h=>(O1.out k h).imp .inl id) (fun h=>.inl (.inr h)));have o12:∀ k,H.Own (.slice so s2.st.length sc) (.slice eo s2.ep.length ec) k→H.Own sv ev k∨w.heap.size≤k:=fun k hk=>by
         rcases O2.out k hk with h | h
         ·exact O1.out k h
         ·exact .inr (Nat.le_trans K1.out.size h)
        have k13:=k12.then K3.out (fun k hk=>hk.elim (fun h=>(o12 k h).imp .inl id) (fun h=>.inl (.inr h)));have o13:∀ k,H.Own sv3 (.slice eo s2.ep.length ec) k→H.Own sv ev k∨w.heap.size≤k:=fun k hk=>by
         rcases O3.out k hk with h | h
         ·exact o12 k h
         ·exact .inr (Nat.le_trans k12.size h)
        refine ⟨sv6,ev6,C6.out,k13.then hk6 (fun k hk=>?_),fun k hk=>?_⟩
        ·rcases hk with (hk | hk) | hk
         ·exact (o13 k hk).imp .inl id
         ·exact .inr (by rw [hk];exact BG.out)
         ·exact .inl (.inr hk)
        ·rcases hF6 k (.inl hk) with (h | h) | h
         ·exact o13 k h
         ·exact .inr (by rw [h];exact BG.out)
         ·exact .inr (Nat.le_trans k13.size h))
       have RD:=Hz (HC1.out.ok.round HS.out HQ.out (wj HC1.out.ok hL));have RF:=Hz (uC HC1.out.ok HS.out HQ.out (wj HC1.out.ok hL));have PF:=Hz (mY HS.out 2000 HC1.out.ok);have FW:=Hz T6.out.bN;clear hJ6 hG6 hB6 hS6 hk6 hF6 b0 bl c0 p0 pl cl HRD HS3 HC3 HB3 K3 O3;have b0:=KB.out.cell 0;have bl:=KB.out.lt;simp only [Lz] at b0;have c3:=C6.out.J.cells.2.2.2.1;have cl:=C6.out.J.hc.lt;obtain ⟨so6,sc6,rfl,-,-,-⟩:=C6.out.J.hs.rd;obtain ⟨s4,hs4⟩:∃ s,di A q s1=s:=⟨_,rfl⟩;have HS4:=Hz hs4;rw [hs4] at C6 T6 RD RF FW c3;clear hs4;by_cases hne:s4.st=[]
       ·have hl0:s4.st.length=0:=by rw [hne];rfl
        have HNE:=Hz hne;rw [hl0] at c3;clear hne hl0;go_wp2_with fail;go_roundw
        case rel=>exact .inr ⟨rfl,by rw [HE.out,eF,if_pos (by rw [HS4.out];exact HNE.out),HS4.out];exact T6.out⟩
        case measure=>
         have h1:=HMU.out;have h2:=RF.out;have h3:=FW.out;rw [h1];unfold lC;rw [h3];dsimp only;omega
       ·have HNE:=Hz hne;have hpos:=List.length_pos_iff.2 hne;obtain ⟨l,hl⟩:∃ l,s4.st.length=l+1:=⟨s4.st.length-1,by omega⟩;rw [hl] at c3;have hlt:=RD.out.2.2.1 hne;have HLT:=Hz hlt;have hll:l≤2000:=by have:=RD.out.1.sum;omega
        have hd2:(0:Int)<(l:Int)+1:=by omega
        have hd:decide ((0:Int)<(l:Int)+1)=true:=decide_eq_true hd2;clear hne hpos hl hlt;go_wp2_with fail;go_roundw
        case rel=>
         refine .inl ⟨n-1,s4,rfl,T6.out,KB.out,?_,?_⟩
         ·rw [HE.out];obtain ⟨n,rfl⟩:∃ k,n=k+1:=⟨n-1,by have:=HN.out;have:=HLT.out;have:=PF.out;omega⟩
          show eF A q (n+1+1) s1=eF A q (n+1) s4
          rw [eF,HS4.out,if_neg HNE.out]
         ·have:=HN.out;have:=HLT.out;have:=PF.out;omega
        case measure=>
         have h1:=HMU.out;have h2:=RF.out;have h3:=FW.out;have h4:=HLT.out;have h5:=PF.out;rw [h1];unfold lC;rw [h3];dsimp only;omega
    ·have hpos:=List.length_pos_iff.2 hne;obtain ⟨l,hl⟩:∃ l,s2.st.length=l+1:=⟨s2.st.length-1,by omega⟩;obtain ⟨g,o,rfl,d0⟩:=hsr.int l (by omega);have hgl:=(HC2.out.J.hs.own rfl).1;obtain ⟨hpG,hpM⟩:=HC2.out.ok.pop HS.out hne;obtain ⟨hdG,hdM,hdT⟩:=HC2.out.ok.drop hne;have hlast:s2.st.getLastD 0=s2.st.getD l 0:=by
      rw [List.getLastD_eq_getLast?,List.getLast?_eq_getElem?,hl,Ld];rfl
     have HP:=Hz (show iS A s2=jq A { s2 with st:=s2.st.dropLast } (s2.st.getD l 0) by unfold iS;rw [hlast]);rw [hlast] at hdT;have PG:=Hz hpG;have PM:=Hz hpM;have DG:=Hz hdG;have DT:=Hz hdT;have HNE:=Hz hne;have HSL:=Hz hl;rw [hl] at HC2 c3 hsc O2;clear hpG hpM hdG hdM hdT hlast hne hpos hl hsr;generalize s2.st.getD l 0=x at *;have hll:l≤2000:=by have:=HSL.out;omega
     have hwl:IntKind.i64.wrap (l:Int)=l:=IntWalk.i64_in _ (by omega);have hl1:(l:Int)<(l:Int)+1:=by omega
     have hlc:l≤sc:=by omega
     go_wp2_with fail;refine a8 (.pure 0 (.free 1 (.free 2 (.pure 3 (.pure 4 (.free 5 (.free 6 (.pure 7 (.free 8 (.free 9 (.free 10 (.pure 11 (.free 12 (.fin)))))))))))))) [] (Fz b0 (Fz c3 (Fa d0))) ?_
     iterate 13 refine Wz ?_
     refine av ?_;have HC3:=Hz (HC2.out.same ((Kz wr).drew));have HB3:=Hz ((Kz wr).drew.aq HB2.out (fun h=>h));have K3:=Hz (K2.out.trans ((Kz wr).drew.mono (fun _ _ h=>h.elim)));clear b0 c3 d0 bl c4 cl hgl;generalize wr.drew=wr at *;have b0:=HB3.out.cell 0;have bl:=HB3.out.lt;simp only [Lz] at b0;have c3:=HC3.out.J.cells.2.2.2.1;have cl:=HC3.out.J.hc.lt;have cf:=HC3.out.J.hc.free 3;go_wp2_with fail;refine a8 (.pure 0 (.pure 1 (.free 2 (.free 3 (.pure 4 (.pure 5 (.free 6 (.free 7 (.pure 8 (.free 9 (.free 10 (.free 11 (.free 12 (.free 13 (.run 14 (.swi [] (.fin))))))))))))))))) [14] (Fz b0 (Fa c3)) ?_
     iterate 14 refine Wz ?_
     refine aA rfl rfl rfl (fun K hK=>?_);unfold aw;go_simp;refine hK _ _ ?_;clear hK K;refine aB (fun _=>True) trivial (av ?_);have EV:=Hz (show aa (fun k=>H.Own (.slice (some ⟨g,o,none⟩) (l+1) sc) (.slice eo s2.ep.length ec) k∨aF sp rv qv k) wr (wr.setCell ⟨H.pc,3,none⟩ (.slice (some ⟨g,o,none⟩) l sc)).drew from
      ((aa.refl _ wr).setCell (p:=⟨H.pc,3,none⟩) (.inl (.inl (.inr (.inr (.inr (.inl rfl)))))) _).drew)
     have HC4:=Hz (show JS (wr.setCell ⟨H.pc,3,none⟩ (.slice (some ⟨g,o,none⟩) l sc)).drew H sp (.slice (some ⟨g,o,none⟩) l sc) (.slice eo s2.ep.length ec) rv qv A f T (L-1) rg q { s2 with st:=s2.st.dropLast } from
      ⟨(HC3.out.J.pop HSL.out).same (Kz _).drew,HC3.out.S.ab (((aa.refl (·=H.pc) wr).setCell (p:=⟨H.pc,3,none⟩) (.inl rfl) _).drew) (fun b' hb' e=>HC3.out.J.cK HC3.out.S (k:=H.pc) (.inr (.inr (.inr (.inl rfl)))) (e ▸ hb')),DG.out⟩)
     have HB4:=Hz (show iU (wr.setCell ⟨H.pc,3,none⟩ (.slice (some ⟨g,o,none⟩) l sc)).drew b H from HC3.out.var HB3.out EV.out);clear b0 bl c3 cl cf;generalize (wr.setCell ⟨H.pc,3,none⟩ (.slice (some ⟨g,o,none⟩) l sc)).drew=w4 at *;have b0:=HB4.out.cell 0;have bl:=HB4.out.lt;simp only [Lz] at b0;go_wp2_with fail;refine (Aq x HC4.out.J HS.out HC4.out.ok DT.out (by omega)).mono ?_;rintro e w6 ⟨rfl,t⟩;have HB6:=Hz (show iU w6 b H from by
      obtain ⟨_,_,_,k6,_⟩:=id t
      exact k6.aq HB4.out (HC4.out.J.q5 HB4.out))
     rw [←HP.out] at t;have T6:=Hz (show fW w1 H sp sv1 ev1 rv qv A f T L rg q (iS A s2) w6 from by
      obtain ⟨a,b',J6,k6,o6⟩:=t;have k14:=K3.out.then EV.out (fun k hk=>hk.elim (fun h=>(O2.out k h).imp .inl id) (fun h=>.inl (.inr h)));refine fW.join k14 (sv1:=.slice (some ⟨g,o,none⟩) l sc) (ev1:=.slice eo s2.ep.length ec) (fun k hk=>O2.out k hk) ?_
      exact ⟨a,b',⟨J6,HC4.out.S.ab k6 (fun b hb hk=>HC4.out.J.cK HC4.out.S hk hb),PG.out⟩,k6.mono (fun _ _ h=>.inl h),o6⟩)
     clear t b0 bl;go_wp2_with fail;go_roundw
     case rel=>
      refine ⟨m-1,iS A s2,T6.out,HB6.out,?_,by have:=PM.out;have:=HM2.out;omega⟩;rw [HE2.out];obtain ⟨m,rfl⟩:∃ k,m=k+1:=⟨m-1,by have:=HM2.out;omega⟩
      show jPops A (m+1) s2=jPops A m (iS A s2)
      rw [jPops,if_neg HNE.out]
     case measure=>
      have h1:=HLF.out;have h2:=T6.out.jM;have h3:=PM.out;rw [h1,h2];omega
  ·have HT:=Hz ht;clear ht;go_wp2_with fail;go_end0;exact ⟨rfl,HT.out⟩
end
end
section
open Go.RowKit
def tU (w:World) (b sp:Nat):Prop:=aj w b [.pointer (some ⟨sp,0,none⟩)] 49
section
variable {w w':World} {H:JH} {sv ev rv qv:Value} {A:Ar} {s:Gs} {f:List Int} {T:Int→Prop} {L sp:Nat} {rg q:List (Int × Int)}
theorem JS.yW (C:JS w H sp sv ev rv qv A f T L rg q s) {b:Nat} (hb:tU w b sp) (k:aa (fun k=>H.Own sv ev k∨aF sp rv qv k) w w'):tU w' b sp:=k.aq hb (fun h=>by
 rcases h with h | h
 ·obtain ⟨_,T,h',hT⟩:=C.J.bB h;refine hb.ne h' ?_ rfl;rcases hT with rfl | rfl | rfl | rfl | rfl | rfl <;> decide
 ·obtain ⟨_,U,h',hU⟩:=C.S.cF h;refine hb.ne h' ?_ rfl
  rcases hU with rfl | rfl <;> decide)
theorem At (x:Int) (b b2:Nat) (C:JS w H sp sv ev rv qv A f T L rg q s) (S:dK A T) (hq:∀ e ∈ q,Dm T e.1∧Dm T e.2) (hql:q.length≤1000000) (hL:L≤1900) (hx:Dm T x) (hb:iU w b H) (bH:tU w b2 sp) :
  Calls Tryz.prog 72 #[.int .i64 x, .pointer (some ⟨b,0,none⟩), .pointer (some ⟨b2,0,none⟩)] w fun e w'=>e=.returned (.int .i64 x)∧fW w H sp sv ev rv qv A f T L rg q (eF A q 2000 (cJ s x)) w':=by
 have HM:=Hz (kP x C.J S C.ok hx (by omega));have HC:=Hz C;have HS:=Hz S;have HQ:=Hz hq;have HX:=Hz hx;have HB:=Hz hb;have HB2:=Hz bH;have b0:=hb.cell 0;have bl:=hb.lt;simp only [Lz] at b0;clear C S hq hx hb bH;go_enter Tryz.func72,Tryz.ntmps72;go_wp2_with fail;refine HM.out.mono ?_;rintro e w1 ⟨rfl,t⟩;obtain ⟨sv1,J1,k1,o1⟩:=t;have KJ:=Hz (k1.mono (T:=fun k=>H.Own sv ev k∨aF sp rv qv k) (fun _ _ h=>.inl h));have C1:=Hz (show JS w1 H sp sv1 ev rv qv A f T L rg q (cJ s x) from ⟨J1,HC.out.S.ab k1 (fun b hb hk=>HC.out.J.cK HC.out.S hk hb),(HC.out.ok.mark HS.out HX.out).1⟩);have B1:=Hz (HC.out.var HB.out KJ.out);have B2:=Hz (HC.out.yW HB2.out KJ.out);have O1:=Hz o1;clear b0 bl J1 k1 o1;have b0:=B1.out.cell 0;have bl:=B1.out.lt;have c0:=B2.out.cell 0;have cl:=B2.out.lt;simp only [Lz] at b0 c0;go_wp2_with fail;refine (tT C1.out HS.out HQ.out hql hL).mono ?_;rintro e w2 ⟨rfl,t⟩;have T2:=Hz (fW.join KJ.out O1.out t);clear t b0 bl c0 cl;go_wp2_with fail;go_ret;exact ⟨rfl,T2.out⟩
def pT (H:JH) (A:Ar) (f:List Int) (T:Int→Prop) (L:Nat) (S:dK A T) (hL:L≤1900) (sp b b2:Nat):eH Tryz.prog sp Gs where
 J:=fun w s F=>∃ sv ev,cv w H sv ev A s f∧bG A T s L∧iU w b H∧tU w b2 sp∧F=fun k=>H.Own sv ev k∨k=b∨k=b2
 D:=fun _ x=>Dm T x
 DK:=fun _ x=>Dm T x
 alive:=aR
 ab:=iJ A
 now:=fD
 fa:=71
 fk:=72
 fn:=70
 a1:=#[.pointer (some ⟨H.pc,0,none⟩)]
 a2:=#[]
 k1:=#[]
 k2:=#[.pointer (some ⟨b,0,none⟩), .pointer (some ⟨b2,0,none⟩)]
 n1:=#[]
 n2:=#[]
 ea:=fun args w=>by kernel_rfl
 ek:=fun args w=>by kernel_rfl
 en:=fun args w=>by kernel_rfl
 J_keep:=fun h k hn=>by
  obtain ⟨sv,ev,h1,h2,h3,h4,rfl⟩:=h;exact ⟨sv,ev,h1.ab k (fun b hb=>hn b (.inl hb)),h2,k.aq h3 (hn _ (.inr (.inl rfl))),k.aq h4 (hn _ (.inr (.inr rfl))),rfl⟩
 J_lt:=fun h hk=>by
  obtain ⟨sv,ev,h1,h2,h3,h4,rfl⟩:=h;rcases hk with hk | rfl | rfl
  ·exact h1.a5 hk
  ·exact h3.lt
  ·exact h4.lt
 cS:=fun w t F x hJ hx=>by
  obtain ⟨sv,ev,h1,h2,-⟩:=hJ;exact (h1.cS x S h2 hx).mono (by rintro e w' ⟨rfl,rfl⟩;exact ⟨rfl,aa.refl _ _⟩)
 now_c:=fun w t F x hJ _=>(vw x w).mono (by rintro e w' ⟨rfl,rfl⟩;exact ⟨rfl,aa.refl _ _⟩)
 keep_c:=fun w t F rv qv ah wait x hJ hS hA hx hq hl=>by
  obtain ⟨sv,ev,h1,h2,h3,h4,rfl⟩:=hJ;have C:JS w H sp sv ev rv qv A f T L ah wait t:=⟨h1,hS,h2⟩;refine (At x b b2 C S hq hl hL hx h3 h4).mono ?_;rintro e w' ⟨rfl,sv',ev',C',k',o'⟩;refine ⟨rfl,_,⟨sv',ev',C'.J,C'.ok,C.var h3 k',C.yW h4 k',rfl⟩,C'.S,fun k hk=>?_,k'.mono (fun k _ hk=>hk.elim (fun h=>.inl (.inl h)) .inr),fun k hk=>?_⟩
  ·rcases hk with ⟨hk | hk,hs⟩
   ·exact C'.J.cK C'.S hk hs
   ·exact hA k ⟨.inr hk,hs⟩
  ·rcases hk with hk | hk
   ·exact (o' k hk).imp .inl id
   ·exact .inl (.inr hk)
 DK_D:=fun h=>h
 DK_keep:=fun _ h=>h
 D_keep:=fun _ h=>h
 D_new:=fun h=>h
 D_wait:=fun _ h=>h
 keep_len:=rfl
theorem mr (x:Int) (J:cv w H sv ev A s f) (hx:x%4=1→0≤x/4∧x/4<f.length) (hl:f.length≤1000000) :
  Calls Tryz.prog 78 #[.pointer (some ⟨H.pc,0,none⟩), .int .i64 x] w fun e w'=>e=.returned (.int .i64 (cx f x))∧w=w':=by
 obtain ⟨-,-,c2,-,-,-⟩:=J.cells;have cl:=J.hc.lt;have ll:=J.ht.lt;by_cases h1:x%4=1
 ·obtain ⟨b0,b1⟩:=hx h1;have hi:=J.toCell (i:=(x/4).toNat) (by omega);have HE:=Hz (show cx f x=g8 (f.getD (x/4).toNat 0) by unfold cx;rw [if_pos h1]);have AY:=Hz (fun w=>dz x w h1);clear J hx h1;generalize f.getD (x/4).toNat 0=y at *;generalize x/4=i at *;obtain ⟨i,rfl⟩:=Int.eq_ofNat_of_zero_le b0;simp only [Int.toNat_natCast] at hi;generalize f.length=n at *;go_enter Tryz.func78,Tryz.ntmps78;go_wp2_with fail;refine (AY.out _).mono ?_;rintro e w1 ⟨rfl,rfl⟩;go_wp2_with fail;refine (vu y _).mono ?_;rintro e w1 ⟨rfl,rfl⟩;go_wp2_with fail;go_ret;exact ⟨cM HE.out.symm,rfl⟩
 ·have HE:=Hz (show cx f x=x by unfold cx;rw [if_neg h1]);have AN:=Hz (fun w=>lF x w h1);clear J hx h1;go_enter Tryz.func78,Tryz.ntmps78;go_wp2_with fail;refine (AN.out _).mono ?_;rintro e w1 ⟨rfl,rfl⟩;go_wp2_with fail;go_ret;exact ⟨cM HE.out.symm,rfl⟩
theorem pg {s:Gs} {f:List Int} {b:Bool}:∀ (n:Nat) (A:Ar) (i:Int),jTurnN s f b (n+1) A i=jr s f b (jTurnN s f b n A i) (i+n)
 | 0,A,i=>by simp [jTurnN]
 | n+1,A,i=>by
  have:=pg (s:=s) (f:=f) (b:=b) n (jr s f b A i) (i+1);rw [jTurnN,this,jTurnN];congr 1;omega
theorem vx {s:Gs} {f:List Int} {b:Bool} {x:Int} (hx:a9 x):a9 (sa s f b x):=by
 unfold sa;split
 ·unfold a9;omega
 ·unfold cx;split
  ·unfold g8 a9;rw [IntKind.wrap_i64];omega
  ·exact hx
theorem Au (i:Int) (J:cv w H sv ev A s f) (h0:0≤i) (h1:i≤1300) (hl1:s.lv.length≤1000000) (hl2:f.length≤1000000) (hu:∀ j:Int,0≤j→j<(A.ai i).2.1→A.aL (i+1+j)=true) (hk4:(A.ai i).1=4→0<(A.ai i).2.1)
  (hd:∀ j:Int,0≤j→j<(A.ai i).2.1→A.load (i+1+j)%4=1→0≤A.load (i+1+j)/4∧A.load (i+1+j)/4<s.lv.length∧A.load (i+1+j)/4<f.length) :
  Calls Tryz.prog 77 #[.pointer (some ⟨H.pc,0,none⟩), .int .i64 i] w fun e w'=>e=.returned (.tuple #[])∧aT w H.pa H.g w' (dT s f A i):=by
 have HJ:=Hz J;have HOK:=Hz J.ha.ok;have HL1:=Hz hl1;have HL2:=Hz hl2;obtain ⟨c0,-,-,-,-,p0⟩:=J.cells;have pl:=J.hp.lt;have cl:=J.hc.lt;have HTH:=Hz (gJ i w J.ha);have hb:=A.aO i;have HR:=Hz (show dT s f A i=jTurnN s f (decide ((A.ai i).1=4) && !aR s (A.load (i+1))) (A.ai i).2.1.toNat A (i+1) from rfl);clear J;obtain ⟨⟨k,n,cd⟩,hT⟩:∃ t,A.ai i=t:=⟨_,rfl⟩;rw [hT] at HTH hb hu hk4 hd HR;dsimp only at HTH hb hu hk4 hd HR;clear hT;obtain ⟨m,rfl⟩:∃ m:Nat,n=m:=⟨n.toNat,by omega⟩;rw [Int.toNat_natCast] at HR;have HU:=Hz hu;have HD:=Hz hd;have HK4:=Hz hk4;have LR:=Hz (fun p=>HOK.out.load p);clear hu hd hk4;have hi1:IntKind.i64.wrap (i+1)=i+1:=IntWalk.i64_in _ (by omega);have HAL:=Hz (show ∀ w',cv w' H sv ev A s f→0<m→Calls Tryz.prog 71 #[.pointer (some ⟨H.pc,0,none⟩), .int .i64 (A.load (i+1))] w' fun e w''=>e=.returned (.bool (aR s (A.load (i+1))))∧w'=w'' from fun w' J' hm=>
  pR _ J' (fun h=>by
   have:=HD.out 0 (by omega) (by omega);rw [Int.add_zero] at this
   exact ⟨(this h).1,(this h).2.1⟩) HL1.out)
 have REST:Hid (∀ bk:Bool,(decide (k=4) && !aR s (A.load (i+1)))=bk→∀ q:Nat,q<m→(jTurnN s f bk q A (i+1)).load (i+1+q)=A.load (i+1+q)∧(jTurnN s f bk q A (i+1)).ok):=fun bk _ q hq=>by
  have h:=mV (s:=s) (f:=f) (b:=bk) q (A:=A) (i+1) HOK.out (fun j j0 j1=>⟨HU.out j j0 (by omega),vx (LR.out _)⟩);exact ⟨by rw [h.2.2.2.2.2 (i+1+q),if_neg (by omega)],h.1⟩
 have END:Hid (∀ bk:Bool,(decide (k=4) && !aR s (A.load (i+1)))=bk→dT s f A i=jTurnN s f bk m A (i+1)):=fun bk hbk=>by rw [HR.out,hbk]
 go_enter Tryz.func77,Tryz.ntmps77;go_wp2_with fail;refine HTH.out.mono ?_;rintro e w1 ⟨rfl,rfl⟩;go_upto_region 1 with fail
 obtain ⟨bk,hbk⟩:∃ bk,(decide (k=4) && !aR s (A.load (i+1)))=bk:=⟨_,rfl⟩;have HBK:=Hz hbk;refine gK (fun i=>Nat.blt 22 i && Nat.blt i 40 || Nat.beq i 7) (fun s' wx=>s' 7=.bool bk∧wx=w) ?_ ?_
 ·intro K' hK';by_cases h4:k=4
  ·subst h4;go_wp2_with fail;refine (eM (i+1) _ HJ.out.ha).mono ?_;rintro e w1 ⟨rfl,rfl⟩;go_wp2_with fail;refine (HAL.out _ HJ.out (by have:=HK4.out (by trivial);omega)).mono ?_;rintro e w1 ⟨rfl,rfl⟩;have hbk2:(!aR s (A.load (i+1)))=bk:=by simpa using hbk
   go_wp2_with fail;refine ⟨by kernel_rfl,?_⟩;exact ⟨rfl,rfl⟩
  ·have k4:(k == 4)=false:=by simpa using h4
   have hbk2:bk=false:=by rw [←hbk];simp [h4]
   subst hbk2;clear h4 hbk;go_wp2_with fail;refine ⟨by kernel_rfl,?_⟩;exact ⟨rfl,rfl⟩
 intro u1 wx hR;obtain ⟨e7,rfl⟩:=hR;have e7:u1 7=.bool bk:=e7;simp (maxSteps:=2000000) only [fN,overL,List.toList_toArray,Nat.blt,Nat.beq,Nat.ble,Nat.reduceAdd,Bool.or_false,Bool.false_or,Bool.or_true,Bool.true_or,Bool.and_true,Bool.true_and,Bool.and_false,Bool.false_and,cond_true,cond_false];rw [e7];clear e7;rename_i K3 hK3;have RB:=Hz (REST.out bk HBK.out);have EN:=Hz (END.out bk HBK.out);clear REST END hbk HAL HK4;go_wp2_with fail;go_loopw [41] (fun u wr=>∃ q:Nat,q≤m∧u=.int .i64 q∧aT wx H.pa H.g wr (jTurnN s f bk q A (i+1))) (fun u _=>m-(intOf u).toNat)
 case atStart=>exact ⟨0,Nat.zero_le _,rfl,aT.refl HJ.out.ha (aa.refl _ _)⟩
 case round=>
  clear c0 p0 pl cl;obtain ⟨q,hq,rfl,t⟩:=hrel;have TQ:=Hz t;have JR:=Hz (HJ.out.bT t);clear t;by_cases hlt:q<m
  ·obtain ⟨c0,-,-,-,-,p0⟩:=JR.out.cells;have pl:=JR.out.hp.lt;have cl:=JR.out.hc.lt;have LD:=Hz (RB.out q hlt).1;have hiq:IntKind.i64.wrap (i+1+q)=i+1+q:=IntWalk.i64_in _ (by omega);have DQ:=Hz (HD.out q (by omega) (by omega));have XR:=Hz (LR.out (i+1+q));have SN0:=pg (s:=s) (f:=f) (b:=bk) q A (i+1);unfold jr at SN0;rw [LD.out] at SN0;generalize hx:A.load (i+1+q)=x at *;go_wp2_with fail;refine (eM (i+1+q) _ JR.out.ha).mono ?_;rintro e w2 ⟨rfl,rfl⟩;rw [LD.out];cases bk
   ·go_wp2_with fail;refine (pR x JR.out (fun h=>⟨(DQ.out h).1,(DQ.out h).2.1⟩) HL1.out).mono ?_;rintro e w3 ⟨rfl,rfl⟩;cases hal:aR s x
    ·have SN:=Hz (show jTurnN s f false (q+1) A (i+1)=(jTurnN s f false q A (i+1)).store (i+1+q) 3 by rw [SN0,hal];rfl);clear SN0 hal;go_wp2_with fail;refine a8 (.free 0 (.free 1 (.free 2 (.free 7 (.free 8 (.free 9 (.free 10 (.pure 3 (.free 4 (.free 5 (.pure 6 (.run 11 (.run 12 (.swi [] (.fin))))))))))))))) [12] (Fz c0 (Fa p0)) ?_
     iterate 11 refine Wz ?_
     refine aM rfl rfl (fun K hK=>?_);unfold aw;go_simp;refine (sM _).mono ?_;rintro e w4 ⟨rfl,rfl⟩;refine hK _ _ (fun h=>h) ?_;clear hK K;refine aA rfl rfl rfl (fun K hK=>?_);unfold aw;go_simp;refine (gI (i+1+q) 3 _ (JR.out.same ((Kz wr).drew)).ha (by unfold a9;omega)).mono ?_;rintro e w5 ⟨rfl,t⟩;have T5:=Hz (TQ.out.trans ((aT.refl JR.out.ha (aa.refl _ _).drew).trans t));refine hK _ _ ?_;clear hK K t c0 p0 pl cl;refine aB (fun _=>True) trivial (av ?_);go_wp2_with fail;go_roundw
     case rel=>exact ⟨q+1,hlt,by go_num,by rw [SN.out];exact T5.out⟩
     case measure=>simp [intOf];omega
    ·have SN:=Hz (show jTurnN s f false (q+1) A (i+1)=(jTurnN s f false q A (i+1)).store (i+1+q) (cx f x) by rw [SN0,hal];rfl);clear SN0 hal;go_wp2_with fail;refine a8 (.free 0 (.free 1 (.free 2 (.free 7 (.free 8 (.free 9 (.free 10 (.free 11 (.free 12 (.pure 3 (.free 4 (.free 5 (.pure 6 (.run 13 (.run 14 (.swi [] (.fin))))))))))))))))) [14] (Fz c0 (Fa p0)) ?_
     iterate 13 refine Wz ?_
     refine aM rfl rfl (fun K hK=>?_);unfold aw;go_simp;refine (mr x (JR.out.same ((Kz wr).drew)) (fun h=>⟨(DQ.out h).1,(DQ.out h).2.2⟩) HL2.out).mono ?_;rintro e w4 ⟨rfl,rfl⟩;refine hK _ _ (fun h=>h) ?_;clear hK K;refine aA rfl rfl rfl (fun K hK=>?_);unfold aw;go_simp;refine (gI (i+1+q) (cx f x) _ (JR.out.same ((Kz wr).drew)).ha (by
      have:=vx (s:=⟨s.lv,s.st,s.ep⟩) (f:=f) (b:=false) (x:=x) XR.out;unfold cx;split
      ·unfold g8 a9;rw [IntKind.wrap_i64];omega
      ·exact XR.out)).mono ?_
     rintro e w5 ⟨rfl,t⟩;have T5:=Hz (TQ.out.trans ((aT.refl JR.out.ha (aa.refl _ _).drew).trans t));refine hK _ _ ?_;clear hK K t c0 p0 pl cl;refine aB (fun _=>True) trivial (av ?_);go_wp2_with fail;go_roundw
     case rel=>exact ⟨q+1,hlt,by go_num,by rw [SN.out];exact T5.out⟩
     case measure=>simp [intOf];omega
   ·have SN:=Hz (show jTurnN s f true (q+1) A (i+1)=(jTurnN s f true q A (i+1)).store (i+1+q) 3 by rw [SN0];rfl);clear SN0;go_wp2_with fail;refine a8 (.free 0 (.free 1 (.free 2 (.free 7 (.free 8 (.free 9 (.free 10 (.pure 3 (.free 4 (.free 5 (.pure 6 (.run 11 (.run 12 (.swi [] (.fin))))))))))))))) [12] (Fz c0 (Fa p0)) ?_
    iterate 11 refine Wz ?_
    refine aM rfl rfl (fun K hK=>?_);unfold aw;go_simp;refine (sM _).mono ?_;rintro e w4 ⟨rfl,rfl⟩;refine hK _ _ (fun h=>h) ?_;clear hK K;refine aA rfl rfl rfl (fun K hK=>?_);unfold aw;go_simp;refine (gI (i+1+q) 3 _ (JR.out.same ((Kz wr).drew)).ha (by unfold a9;omega)).mono ?_;rintro e w5 ⟨rfl,t⟩;have T5:=Hz (TQ.out.trans ((aT.refl JR.out.ha (aa.refl _ _).drew).trans t));refine hK _ _ ?_;clear hK K t c0 p0 pl cl;refine aB (fun _=>True) trivial (av ?_);go_wp2_with fail;go_roundw
    case rel=>exact ⟨q+1,hlt,by go_num,by rw [SN.out];exact T5.out⟩
    case measure=>simp [intOf];omega
  ·obtain rfl:q=m:=by omega
   go_wp2_with fail;go_end0;exact ⟨rfl,by rw [EN.out];exact TQ.out⟩
end
end
section
open Go.RowKit
theorem tV {P:Program} {w:World} {ops:Array Oper} {rest:List Oper} {o:Oper} {a:Act} {Q:Exit→Act→World→Prop} (hgd:o.guard=none) (s x:Operand) (t tn:TypeId)
  (ho:o.op=.call { callee:=.builtin .append,args:=#[s,x],argTypes:=#[t,tn] })
  (e:TypeId) (i:TypeInfo) (z:Value) (k kn:IntKind) (ht:P.underlying t=some (.slice e)) (htn:P.underlying tn=some (.int kn)) (hi:P.info? e=some i) (hz:i.zero=some z)
  (hzs:z.cells.size=1) (hsize:i.size=1) (n:Nat) (hs:a.eval s=.slice none 0 0) (hx:a.eval x=.int k n) (h0:0<n) (h63:n≤maxLen) (h48:n*i.bytes≤281474976710656)
  (h:∀ cap w',n≤cap→Sl w' e 1 (.slice (some ⟨w.heap.size,0,none⟩) 0 cap) 0 []→aa (fun _=>False) w w'→wpList P ops Q rest (a.put o.dst (.slice (some ⟨w.heap.size,0,none⟩) n cap)) w'):wpList P ops Q (o :: rest) a w:=by
 refine wpList_plain hgd fun _ hK=>?_;have hr:=Lib.run_append_nil_zeros (P:=P) w t tn o.type e i z k kn ht htn hi hz n h0 (by omega) (by unfold maxLen at h63;omega) h48;unfold Oper.wp execOp;simp only [ho,resolve,invoke,builtin,Sem.run_bind,Sem.run_pure,Result.andThen_ok,List.map_toArray,List.map_cons,List.map_nil,hs,hx,hr];refine hK _ _ (h _ _ (grownCap_ge w n 0 e) ⟨rfl, .inr ⟨_,0,_,_,rfl,aj.newAt _ rfl rfl,Nat.zero_le _,grownCap_le_maxLen w n 0 e h63,?_,by simp⟩⟩ ((aa.refl _ _).drew.alloc _));have:=grownCap_ge w n 0 e;simp only [Array.length_toList,Array.size_append,size_zeroCells,hzs];omega
theorem xN (w:World):Calls Tryz.prog 136 #[.slice none 0 0, .int .i64 0] w fun e w'=>e=.returned (.slice none 0 0)∧w=w':=by
 go_enter Tryz.func136,Tryz.ntmps136;go_wp2_with fail;go_ret;exact ⟨rfl,rfl⟩
def Av (w:World) (n:Nat) (e:Ending) (w':World):Prop:=∃ cap,e=.returned (.slice (some ⟨w.heap.size,0,none⟩) 0 cap)∧n≤cap∧Sl w' 3 1 (.slice (some ⟨w.heap.size,0,none⟩) 0 cap) 0 []∧aa (fun _=>False) w w'
theorem Bx (n:Nat) (h0:0<n) (hn:n≤1000000) (w:World):Calls Tryz.prog 136 #[.slice none 0 0, .int .i64 n] w (Av w n):=by
 obtain ⟨i0,hi,hz0,hz1,hz2⟩:=info_parts iK;have hw1:IntKind.i64.wrap (n:Int)=n:=IntWalk.i64_in _ (by omega);have hd:decide ((0:Int)<(n:Int))=true:=by simp;omega
 have hd2:(0:Int)<(n:Int):=by omega
 go_enter Tryz.func136,Tryz.ntmps136;go_wp2_with (at_builtin;refine tV rfl (.tmp 20) (.tmp 21) 83 3 rfl 3 i0 (.int .i64 0) .i64 .i64 Tryz.underlying83 Tryz.underlying3 hi hz0 (by decide) hz1 n rfl rfl h0 (by unfold maxLen;omega) (by rw [hz2];omega) ?_);intro cap w1 hc hs hk;have HC:=Hz hc;have HS:=Hz hs;have HK:=Hz hk;clear hc hs hk;have h0c:(0:Nat)≤cap:=Nat.zero_le _;go_wp2_with fail;go_ret;exact ⟨cap,rfl,HC.out,HS.out,HK.out⟩
theorem tW (q:Nat) (a b:Option Addr) (ca cb:Nat) (l1 l2:List Int) (w:World) (hq:aj w q [.slice a l1.length ca, .slice b l2.length cb] 83) (h1:Rd w a (l1.map (Value.int .i64))) (h2:Rd w b (l2.map (Value.int .i64))) (n1:l1.length≤100000) (n2:l2.length≤100000) :
  Calls Tryz.prog 75 #[.slice (some ⟨q,0,none⟩) 2 2] w fun e w'=>oL 3 w e w' (l1 ++ l2):=by
 obtain ⟨i0,hi,hz0,hz1,hz2⟩:=info_parts iK;have Hi:=Hz hi;have Hz0:=Hz hz0;have Hz1:=Hz hz1;have Hz2:=Hz hz2;clear hi hz0 hz1 hz2;have HQ:=Hz hq;have H1:=Hz h1;have H2:=Hz h2;have q0:=hq.cell 0;have q1:=hq.cell 1;have ql:=hq.lt;simp only [Lz,aC] at q0 q1;clear hq h1 h2;have wr1:IntKind.i64.wrap (l1.length:Int)=l1.length:=IntWalk.i64_in _ (by omega);have wr2:IntKind.i64.wrap ((l1.length:Int)+l2.length)=(l1.length:Int)+l2.length:=IntWalk.i64_in _ (by omega);have p1:decide ((l1.length:Int)<0)=false:=by simp
 have p2:decide ((l1.length:Int)+l2.length<0)=false:=by simp;omega
 go_enter Tryz.func75,Tryz.ntmps75;go_wp2_with fail;go_loopw [3,11] (fun t i wr=>wr=w∧((i=.int .i64 0∧t=.int .i64 0)∨(i=.int .i64 1∧t=.int .i64 l1.length)∨(i=.int .i64 2∧t=.int .i64 ((l1.length:Int)+l2.length)))) (fun _ i _=>2-(intOf i).toNat)
 case atStart=>exact ⟨rfl, .inl ⟨rfl,rfl⟩⟩
 case round=>
  obtain ⟨rfl,⟨rfl,rfl⟩ | ⟨rfl,rfl⟩ | ⟨rfl,rfl⟩⟩:=hrel
  ·go_wp2_with fail;go_roundw
   case rel=>simp
   case measure=>decide
  ·go_wp2_with fail;go_roundw
   case rel=>simp
   case measure=>decide
  ·obtain ⟨w0,rfl⟩:∃ x:World,x=wr:=⟨wr,rfl⟩;obtain ⟨n,hn⟩:∃ n:Nat,l1.length+l2.length=n:=⟨_,rfl⟩;have HN:=Hz hn;have hnc:(l1.length:Int)+l2.length=n:=by omega
   rw [hnc] at wr2 p2;rw [hnc];clear hnc;have GR:Hid (Calls Tryz.prog 136 #[.slice none 0 0, .int .i64 n] w0 fun e w'=>∃ ao cap,e=.returned (.slice ao 0 cap)∧Sl w' 3 1 (.slice ao 0 cap) 0 []∧aa (fun _=>False) w0 w'∧∀ k,ak (.slice ao 0 cap) k→w0.heap.size≤k):=by
    by_cases h0:n=0
    ·subst h0;refine (xN w0).mono ?_;rintro e w' ⟨rfl,rfl⟩;exact ⟨none,0,rfl,Sl.nil _ _ _,aa.refl _ _,fun k hk=>(ck hk).elim⟩
    ·refine (Bx n (by omega) (by omega) w0).mono ?_;rintro e w' ⟨cap,rfl,-,hs,hk⟩;exact ⟨_,cap,rfl,hs,hk,fun k hk=>by simp [ak,Value.ownBlock] at hk;omega⟩
   go_wp2_with fail;refine GR.out.mono ?_;rintro e w1 ⟨ao,cap,rfl,hs,hk,ho⟩;have HI0:=Hz (show Sl w1 3 1 (.slice ao 0 cap) 0 []∧aa (fun _=>False) w0 w1∧∀ k,ak (.slice ao 0 cap) k→w0.heap.size≤k from ⟨hs,hk,ho⟩);clear hs hk ho GR q0 q1 ql p1 p2 hn;go_wp2_with fail;go_loopw [6,27] (fun v i wr=>∃ (ao:Option Addr) (cap k:Nat) (l:List Int),v=.slice ao l.length cap∧i=.int .i64 k∧((k=0∧l=[])∨(k=1∧l=l1)∨(k=2∧l=l1 ++ l2))∧Sl wr 3 1 (.slice ao l.length cap) l.length (l.map (Value.int .i64))∧aa (fun _=>False) w0 wr∧∀ k,ak (.slice ao l.length cap) k→w0.heap.size≤k) (fun _ i _=>2-(intOf i).toNat)
   case atStart=>exact ⟨ao,cap,0,[],rfl,rfl, .inl ⟨rfl,rfl⟩,HI0.out⟩
   case round=>
    clear HI0;obtain ⟨ao,cap,k,l,rfl,rfl,hkl,hs,hk,ho⟩:=hrel;have HS:=Hz hs;have HK:=Hz hk;have HO:=Hz ho;clear hs hk ho;have HQ1:=Hz (HK.out.aq HQ.out (fun h=>h));have q0:=HQ1.out.cell 0;have q1:=HQ1.out.cell 1;have ql:=HQ1.out.lt;simp only [Lz,aC] at q0 q1;rcases hkl with ⟨rfl,rfl⟩ | ⟨rfl,rfl⟩ | ⟨rfl,rfl⟩
    ·go_wp2_with (at_builtin;refine lW rfl (.tmp 31) (.tmp 32) 83 rfl 3 i0 (.int .i64 0) 1 8 Tryz.underlying83 Hi.out Hz0.out Hz1.out Hz2.out rfl (by decide) _ 0 [] rfl HS.out a l1.length ca (l1.map (Value.int .i64)) rfl (by simp) (H1.out.ab HK.out (fun _ _ _ h=>h)) kU (by unfold maxLen;omega) (by omega) ?_);intro v2 w2 hs2 hk2 ho2;have HS2:=Hz hs2;have HK2:=Hz (HK.out.then hk2 (fun k hk=>.inr (HO.out k hk)));have HO2:=Hz (show ∀ k,ak v2 k→w0.heap.size≤k from fun k hk=>by
      rcases ho2 k hk with h | h
      ·exact HO.out k h
      ·exact Nat.le_trans HK.out.size h)
     clear hs2 hk2 ho2;obtain ⟨ao2,cap2,e2,-,-,-⟩:=HS2.out.rd;subst e2;clear q0 q1 ql;go_wp2_with fail;go_roundw
     case rel=>exact ⟨ao2,cap2,1,l1,by simp,rfl, .inr (.inl ⟨rfl,rfl⟩),by simpa using HS2.out,HK2.out,by simpa using HO2.out⟩
     case measure=>decide
    ·go_wp2_with (at_builtin;refine lW rfl (.tmp 31) (.tmp 32) 83 rfl 3 i0 (.int .i64 0) 1 8 Tryz.underlying83 Hi.out Hz0.out Hz1.out Hz2.out rfl (by decide) _ l.length (l.map (Value.int .i64)) rfl HS.out b l2.length cb (l2.map (Value.int .i64)) rfl (by simp) (H2.out.ab HK.out (fun _ _ _ h=>h)) kU (by unfold maxLen;omega) (by omega) ?_);intro v2 w2 hs2 hk2 ho2;have HS2:=Hz hs2;have HK2:=Hz (HK.out.then hk2 (fun k hk=>.inr (HO.out k hk)));have HO2:=Hz (show ∀ k,ak v2 k→w0.heap.size≤k from fun k hk=>by
      rcases ho2 k hk with h | h
      ·exact HO.out k h
      ·exact Nat.le_trans HK.out.size h)
     clear hs2 hk2 ho2;obtain ⟨ao2,cap2,e2,-,-,-⟩:=HS2.out.rd;subst e2;clear q0 q1 ql;go_wp2_with fail;go_roundw
     case rel=>exact ⟨ao2,cap2,2,l ++ l2,by simp,rfl, .inr (.inr ⟨rfl,rfl⟩),by simpa using HS2.out,HK2.out,by simpa using HO2.out⟩
     case measure=>decide
    ·clear q0 q1 ql;go_wp2_with fail;go_ret;exact ⟨ao,cap,by simp,HS.out,HK.out,HO.out⟩
end
section
open Go.RowKit
section
variable {w w':World} {H:JH} {sv ev:Value} {A:Ar} {s:Gs} {f:List Int}
theorem Aw (x:Int) (b:Nat) (J:cv w H sv ev A s f) (hb:iU w b H) (h0:0≤x) (h1:x<s.lv.length) (hl:s.lv.length≤1000000) :
  Calls Tryz.prog 76 #[.int .i64 x, .pointer (some ⟨b,0,none⟩)] w fun e w'=>e=.returned (.bool (!au s.lv x))∧w=w':=by
 obtain ⟨-,c1,-,-,-,-⟩:=J.cells;have cl:=J.hc.lt;have ll:=J.hl.lt;have b0:=hb.cell 0;have bl:=hb.lt;simp only [Lz] at b0;obtain ⟨i,rfl⟩:=Int.eq_ofNat_of_zero_le h0;have hi:=J.qZ (i:=i) (by omega);have HE:=Hz (show au s.lv (i:Int)=s.lv.getD i false by unfold au;simp);clear J hb;generalize s.lv.getD i false=v at *;generalize s.lv.length=n at *;go_enter Tryz.func76,Tryz.ntmps76;go_wp2_with fail;go_ret;exact ⟨db (by rw [HE.out]),rfl⟩
def oB (b:Nat):Value:=.func (.func 76) #[] #[.pointer (some ⟨b,0,none⟩)]
def Bz (w:World) (p:Int→Bool) (l:List Int) (e:Ending) (w':World):Prop:=
 w=w'∧∃ k,k≤l.length∧(∀ j,j<k→p (l.getD j 0)=false)∧((k<l.length∧p (l.getD k 0)=true∧e=.returned (.int .i64 k))∨(k=l.length∧e=.returned (.int .i64 (-1))))
theorem BC (b:Nat) (p:Int→Bool) (ao:Option Addr) (cap:Nat) (l:List Int) (w:World) (h:Rd w ao (l.map (Value.int .i64))) (hl:l.length≤1000000)
  (hp:∀ x ∈ l,Calls Tryz.prog 76 #[.int .i64 x, .pointer (some ⟨b,0,none⟩)] w fun e w'=>e=.returned (.bool (p x))∧w=w') :
  Calls Tryz.prog 135 #[.slice ao l.length cap,oB b] w (Bz w p l):=by
 have HR:=Hz h;have HP:=Hz hp;clear h hp;unfold oB;go_enter Tryz.func135,Tryz.ntmps135;go_wp2_with fail;go_loopw [8] (fun i wr=>wr=w∧∃ k:Nat,k≤l.length∧i=.int .i64 k∧Hid (∀ j,j<k→p (l.getD j 0)=false)) (fun i _=>l.length-(intOf i).toNat)
 case atStart=>exact ⟨rfl,0,Nat.zero_le _,rfl,fun j hj=>by omega⟩
 case round=>
  obtain ⟨rfl,k,hk,rfl,hno⟩:=hrel;by_cases hlt:k<l.length
  ·obtain ⟨g,o,rfl,d0⟩:=HR.out.int k hlt;have hgl:g<wr.heap.size:=by
    obtain ⟨g',o',e,hg,-⟩:=HR.out (by intro e;simp at e;subst e;simp at hlt);cases e;exact hg
   have hm:l.getD k 0 ∈ l:=by rw [Ld,Le hlt];exact List.getElem_mem _
   have HPX:=Hz (HP.out _ hm);generalize hv:l.getD k 0=x at *;have HV:=Hz hv;clear hv hm;cases he:p x
   ·rw [he] at HPX;go_wp2_with fail;refine HPX.out.mono ?_;rintro e w2 ⟨rfl,rfl⟩;go_wp2_with fail;go_roundw
    case rel=>exact ⟨by trivial,k+1,by omega,by go_num,fun j hj=>by
     by_cases e:j=k
     ·subst e;rw [HV.out];exact he
     ·exact hno.out j (by omega)⟩
    case measure=>simp [intOf];omega
   ·rw [he] at HPX;go_wp2_with fail;refine HPX.out.mono ?_;rintro e w2 ⟨rfl,rfl⟩;go_wp2_with fail;go_ret;exact ⟨rfl,k,hk,hno.out, .inl ⟨hlt,by rw [HV.out];exact he,rfl⟩⟩
  ·obtain rfl:k=l.length:=by omega
   go_wp2_with fail;go_ret;exact ⟨rfl,_,Nat.le_refl _,hno.out, .inr ⟨rfl,rfl⟩⟩
theorem filter_all {q:Int→Bool}:∀ {l:List Int},(∀ j,j<l.length→q (l.getD j 0)=true)→l.filter q=l
 | [],_=>rfl
 | x :: l,h=>by
  have h0:=h 0 (by simp);simp only [List.getD_cons_zero] at h0;rw [List.filter_cons,if_pos h0,filter_all (fun j hj=>by
   have:=h (j+1) (by simpa using hj)
   simpa using this)]
theorem ph {q:Int→Bool} {l:List Int} {j:Nat} (hj:j<l.length):(l.take (j+1)).filter q=if q (l.getD j 0)=true then (l.take j).filter q ++ [l.getD j 0] else (l.take j).filter q:=by
 rw [List.take_add_one,Le hj,List.filter_append,Ld,Le hj];simp only [Option.toList_some,Option.getD_some,List.filter_cons,List.filter_nil];split <;> simp
def BE (w:World) (v:Value) (l:List Int) (e:Ending) (w':World):Prop:=
 ∃ ao cap,e=.returned (.slice ao l.length cap)∧Sl w' 3 1 (.slice ao l.length cap) l.length (l.map (Value.int .i64))∧aa (ak v) w w'∧∀ k,ak (.slice ao l.length cap) k→ak v k
theorem BF (b:Nat) (p:Int→Bool) (ao:Option Addr) (cap:Nat) (l:List Int) (w:World) (hs:Sl w 3 1 (.slice ao l.length cap) l.length (l.map (Value.int .i64))) (hl:l.length≤1000000)
  (hp:∀ x ∈ l, ∀ w',aa (ak (.slice ao l.length cap)) w w'→Calls Tryz.prog 76 #[.int .i64 x, .pointer (some ⟨b,0,none⟩)] w' fun e w''=>e=.returned (.bool (p x))∧w'=w'') :
  Calls Tryz.prog 74 #[.slice ao l.length cap,oB b] w (BE w (.slice ao l.length cap) (l.filter fun x=>!p x)):=by
 have HS:=Hz hs;have HX:=Hz (fun w' (hk:aa (ak (.slice ao l.length cap)) w w') x hx=>hp x hx w' hk);have hi:=BC b p ao cap l w (by obtain ⟨_,_,e,h,-,-⟩:=hs.rd;cases e;exact h) hl (fun x hx=>hp x hx w (aa.refl _ _));have HI:=Hz hi;clear hs hp hi;unfold oB at HI ⊢;go_enter Tryz.func74,Tryz.ntmps74;go_wp2_with fail;refine HI.out.mono ?_;rintro e w1 ⟨rfl,k,hk,hno,⟨hlt,hpk,rfl⟩ | ⟨rfl,rfl⟩⟩
 ·obtain ⟨g,o,cap',cur0,e,-,hnc,hcm,-,-⟩:=HS.out.laid (by omega);cases e;have HNO:=Hz hno;have HPK:=Hz hpk;have hkw:IntKind.i64.wrap ((k:Int)+1)=(k:Int)+1:=IntWalk.i64_in _ (by omega);have hk1:((k:Int) == -1)=false:=by first | (simp;done) | (simp;omega)
  clear hno hpk HI;obtain ⟨n,hn⟩:∃ n,l.length=n:=⟨_,rfl⟩;have HN:=Hz hn;rw [hn] at HS HX hlt hl hnc hk ⊢;clear hn;go_wp2_with fail;go_loopw [5,6] (fun i j wr=>∃ (i' j':Nat) (m:List Int),i=.int .i64 i'∧j=.int .i64 j'∧i' < j'∧j'≤n∧m.length=n∧m.take i'=(l.take j').filter (fun x=>!p x)∧m.drop j'=l.drop j'∧Sl wr 3 1 (.slice (some ⟨g,o,none⟩) n cap) n (m.map (Value.int .i64))∧aa (ak (.slice (some ⟨g,o,none⟩) n cap)) w wr) (fun _ j _=>n-(intOf j).toNat)
  case atStart=>
   refine ⟨k,k+1,l,rfl,by go_num,by omega,by omega,HN.out,?_,rfl,HS.out,aa.refl _ _⟩;rw [ph (by rw [HN.out];exact hlt),if_neg (by rw [HPK.out];decide),filter_all (fun j hj=>?_)];have hj':j<k:=by rw [List.length_take] at hj;omega
   have:=HNO.out j hj';rw [Ld,List.getElem?_take,if_pos hj',←Ld,this]
   rfl
  case round=>
   clear HS hlt hk hk1 hkw HNO HPK;obtain ⟨i,j,m,rfl,rfl,hij,hjn,hm,ht,hd,hs,hk⟩:=hrel;have HS:=Hz hs;have HK:=Hz hk;have HT:=Hz ht;have HD:=Hz hd;have HM:=Hz hm;clear hs hk ht hd hm;by_cases hlt:j<n
   ·have hmj:m.getD j 0=l.getD j 0:=by
     have h1:=congrArg (fun t=>t.getD 0 0) HD.out;simpa [Ld] using h1
    obtain ⟨_,_,e',rd,-,-⟩:=HS.out.rd;cases e';obtain ⟨_,_,e',d0⟩:=rd.int j (by rw [HM.out];exact hlt);cases e';have hgl:=(HS.out.own (k:=g) rfl).1;rw [hmj] at d0;have HPX:=Hz (HX.out _ HK.out (l.getD j 0) (by rw [Ld,Le (by rw [HN.out];exact hlt)];exact List.getElem_mem _));have HFS:=Hz (ph (q:=fun x=>!p x) (l:=l) (j:=j) (by rw [HN.out];exact hlt));have HDJ:=Hz (show m.drop (j+1)=l.drop (j+1) by rw [←List.drop_drop,←List.drop_drop,HD.out]);have hjw:IntKind.i64.wrap ((j:Int)+1)=(j:Int)+1:=IntWalk.i64_in _ (by omega);have hiw:IntKind.i64.wrap ((i:Int)+1)=(i:Int)+1:=IntWalk.i64_in _ (by omega);clear rd hmj HD;generalize l.getD j 0=x at *;cases he:p x
    ·rw [he] at HPX;have HF:=Hz (HFS.out.trans (if_pos (by rw [he];rfl)));clear HFS he;obtain ⟨u,hu⟩:∃ u,(m.map (Value.int .i64))[i]? = some u:=⟨_,Le (by rw [List.length_map,HM.out];omega)⟩;obtain ⟨_,_,_,cur,e',hb,-,-,hoc,hx⟩:=HS.out.laid (by omega);cases e';have c0:=hb.cell (o+i);have cf:=hb.free (o+i);have hcu:cur[o+i]? = some u:=by
      rw [←hx,List.getElem?_take,if_pos (by omega),List.getElem?_drop] at hu;exact hu
     rw [hcu] at c0;have HSET:=Hz (HS.out.set (j:=i) (u:=.int .i64 x) (by omega));have KSET:=Hz (HK.out.setCell (p:=⟨g,o+i,none⟩) (.inl rfl) (.int .i64 x));clear hb hx hcu hu;go_wp2_with fail;refine HPX.out.mono ?_;rintro e w2 ⟨rfl,rfl⟩;go_wp2_with fail;go_roundw
     case rel=>
      refine ⟨i+1,j+1,m.set i x,by go_num,by go_num,by omega,by omega,by rw [List.length_set,HM.out],?_,?_,by rw [List.map_set];exact HSET.out,KSET.out⟩
      ·rw [HF.out,←HT.out,List.take_add_one,List.getElem?_set,if_pos rfl,if_pos (by rw [HM.out];omega)];rw [List.take_set_of_le (Nat.le_refl _)]
       rfl
      ·rw [List.drop_set_of_lt (by omega)];exact HDJ.out
     case measure=>simp [intOf];omega
    ·rw [he] at HPX;have HF:=Hz (HFS.out.trans (if_neg (by rw [he];decide)));clear HFS he;go_wp2_with fail;refine HPX.out.mono ?_;rintro e w2 ⟨rfl,rfl⟩;go_wp2_with fail;go_roundw
     case rel=>exact ⟨i,j+1,m,rfl,by go_num,by omega,by omega,HM.out,by rw [HF.out];exact HT.out,HDJ.out,HS.out,HK.out⟩
     case measure=>simp [intOf];omega
   ·obtain rfl:j=n:=by omega
    have hfl:m.take i=l.filter (fun x=>!p x):=by rw [HT.out,List.take_of_length_le (by rw [HN.out];exact Nat.le_refl _)]
    have hfn:(l.filter (fun x=>!p x)).length=i:=by rw [←hfl,List.length_take,HM.out];omega
    have HFL:=Hz hfl;obtain ⟨_,_,_,cur,e',hb,-,-,hoc,hx⟩:=HS.out.laid (by omega);cases e';obtain ⟨zs,hzl,hclr⟩:=kQ (P:=Tryz.prog) wr 83 0 3 (.int .i64 0) Tryz.underlying83 (by intro w;kernel_rfl) (by intro u hu;simp [Value.cells] at hu;subst hu;rfl) (by decide) g (o+i) (j-i) (cap-i) _ hb (by show o+i+(j-i)*1≤_;omega);have hzl:zs.length=(j-i)*1:=hzl;generalize hc2:cur.take (o+i) ++ zs ++ cur.drop (o+i+zs.length)=c2 at *;have HB2:=Hz (hb.setRow c2);have HK2:=Hz (HK.out.setRow (g:=g) (.inl rfl) c2.toArray);have HC2:=Hz hc2;have HX2:=Hz hx;have HZ:=Hz hzl;have hic:i≤cap:=by omega
    have hil:i≤j:=by omega
    have HOC:=Hz hoc;clear hb hx hc2 hzl hfl hlt hoc;go_wp2_with fail;go_ret;have hoc:=HOC.out;have hzl:=HZ.out;refine ⟨some ⟨g,o,none⟩,cap,by rw [hfn];rfl,?_,HK2.out,fun k hk=>hk⟩;rw [hfn];refine ⟨by rw [List.length_map,hfn];omega, .inr ⟨g,o,cap,c2,rfl,HB2.out,hic,by omega,?_,?_⟩⟩
    ·rw [←HC2.out];simp only [List.length_append,List.length_take,List.length_drop];omega
    ·rw [←HC2.out,←HFL.out,List.map_take,←HX2.out,List.append_assoc,List.drop_append_of_le_length (by simp;omega),List.drop_take,List.take_append_of_le_length (by simp;omega),List.take_take,List.take_take];congr 1;omega
 ·have HNO:=Hz hno;clear HI hno;go_wp2_with fail;go_ret;have e:l.filter (fun x=>!p x)=l:=filter_all (fun j hj=>by rw [HNO.out j hj];rfl);rw [e];exact ⟨ao,cap,rfl,HS.out,aa.refl _ _,fun k hk=>hk⟩
end
end
section
open Go.RowKit
def gG (A:Ar) (lv:List Bool) (base:Int) (t:List Int × Int) (i:Int):List Int × Int:=if au lv i=true then (t.1.set i.toNat (base+t.2),t.2+(1+(A.ai i).2.1)) else t
theorem q6 (A:Ar) (lv:List Bool) (base:Int):∀ (l:List Int) (t:List Int × Int) (i:Int),jPlan A lv base (l ++ [i]) t=gG A lv base (jPlan A lv base l t) i
 | [],t,i=>rfl
 | x :: l,t,i=>by
  rw [List.cons_append,jPlan,q6 A lv base l]
  rfl
theorem wu {A:Ar} {lv:List Bool} {base:Int} {l:List Int} {t:List Int × Int} {k:Nat} (h:k<l.length):jPlan A lv base (l.take (k+1)) t=gG A lv base (jPlan A lv base (l.take k) t) (l.getD k 0):=by
 rw [List.take_add_one,Le h,Ld,Le h];exact q6 A lv base _ t _
theorem l8 (A:Ar) (lv:List Bool) (base:Int):∀ (l:List Int) (t:List Int × Int),0≤t.2→0≤(jPlan A lv base l t).2∧(jPlan A lv base l t).2≤t.2+13*l.length∧(jPlan A lv base l t).1.length=t.1.length
 | [],t,h=>by simp [jPlan];exact h
 | x :: l,t,h=>by
  have hf:=A.aO x;have key:0≤(gG A lv base t x).2∧(gG A lv base t x).2≤t.2+13∧(gG A lv base t x).1.length=t.1.length:=by
   unfold gG;split
   ·exact ⟨by dsimp only;omega,by dsimp only;omega,by simp⟩
   ·exact ⟨h,by omega,rfl⟩
  have ih:=l8 A lv base l (gG A lv base t x) key.1;have e:jPlan A lv base (x :: l) t=jPlan A lv base l (gG A lv base t x):=rfl;rw [e,List.length_cons];exact ⟨ih.1,by omega,ih.2.2.trans key.2.2⟩
section
variable {w w':World} {H:JH} {sv ev:Value} {A:Ar} {s:Gs} {f:List Int}
def Ax (w:World) (H:JH) (sv ev:Value) (A:Ar) (s:Gs) (base:Int) (t:List Int × Int) (e:Ending) (w':World):Prop:=
 e=.returned (.int .i64 t.2)∧cv w' H sv ev A s t.1∧aa (·=H.tb) w w'
theorem Ay (base:Int) (J:cv w H sv ev A s f) (hb0:0≤base) (ax:base≤100000) (hf:f.length=s.lv.length) (hl:s.lv.length≤1000000) (hin:∀ i ∈ A.aN.2 ++ A.aN.1,0≤i∧i<s.lv.length) :
  Calls Tryz.prog 73 #[.pointer (some ⟨H.pc,0,none⟩), .int .i64 base] w (Ax w H sv ev A s base (jPlan A s.lv base (A.aN.2 ++ A.aN.1) (f,0))):=by
 have HJ:=Hz J;have HIN:=Hz hin;obtain ⟨c0,-,-,-,-,p0⟩:=J.cells;have pl:=J.hp.lt;have cl:=J.hc.lt;have ly:A.aN.1.length≤1300:=Ar.gW A 1300 _ _;have lo:A.aN.2.length≤1300:=Ar.gW A 1300 _ _;clear J hin;go_enter Tryz.func73,Tryz.ntmps73;go_wp2_with fail;refine (pz w HJ.out.ha).mono ?_;rintro e w1 ⟨ao,ac,bo,bc,rfl,hs1,hs2,hk,-,-⟩;have J1:=Hz (HJ.out.same hk);have K1:=Hz hk;have SY:=Hz hs1;have SO:=Hz hs2;clear hs1 hs2 hk c0 p0 pl cl;generalize A.aN.1=Y at *;generalize A.aN.2=O at *;go_wp2_with fail;have HQ:Hid (aj (w1.alloc (.cells #[.slice bo O.length bc, .slice ao Y.length ac] 83)) w1.heap.size [.slice bo O.length bc, .slice ao Y.length ac] 83):=aj.newAt _ rfl rfl;have KA:=Hz ((Kz w1).alloc (.cells #[.slice bo O.length bc, .slice ao Y.length ac] 83));generalize w1.alloc (.cells #[.slice bo O.length bc, .slice ao Y.length ac] 83)=w2 at *;refine (tW w1.heap.size bo ao bc ac O Y w2 HQ.out (by obtain ⟨_,_,e,h,-,-⟩:=(SO.out.ab KA.out (fun _ _ h=>h)).rd;cases e;exact h) (by obtain ⟨_,_,e,h,-,-⟩:=(SY.out.ab KA.out (fun _ _ h=>h)).rd;cases e;exact h) (by omega) (by omega)).mono ?_;rintro e w3 ⟨co,cc,rfl,hs3,hk3,ho3⟩;have J3:=Hz ((J1.out.same KA.out).same hk3);have K3:=Hz ((K1.out.trans KA.out).trans hk3);have S3:=Hz hs3;have HO3:=Hz (show ∀ k,ak (.slice co (O ++ Y).length cc) k→¬ k=H.tb from fun k hk e=>by
  have h1:=ho3 k hk;have h2:=(J1.out.same KA.out).ht.lt;omega)
 have hll:(O ++ Y).length≤2600:=by rw [List.length_append];omega
 clear hs3 hk3 ho3 HQ KA SY SO J1 K1 ly lo;generalize hLL:O ++ Y=Ls at *;clear hLL;go_wp2_with fail;go_loopw [7,29] (fun n i wr=>∃ k:Nat,k≤Ls.length∧i=.int .i64 k∧n=.int .i64 (jPlan A s.lv base (Ls.take k) (f,0)).2∧cv wr H sv ev A s (jPlan A s.lv base (Ls.take k) (f,0)).1∧aa (·=H.tb) w3 wr) (fun _ i _=>Ls.length-(intOf i).toNat)
 case atStart=>exact ⟨0,Nat.zero_le _,rfl,rfl,J3.out,aa.refl _ _⟩
 case round=>
  obtain ⟨k,hk,rfl,rfl,hJ,hK⟩:=hrel;have JR:=Hz hJ;have KR:=Hz hK;clear hJ hK;have hbd:=l8 A s.lv base (Ls.take k) (f,0) (by dsimp only;omega);rw [List.length_take] at hbd;dsimp only at hbd;by_cases hlt:k<Ls.length
  ·have SR:=Hz (S3.out.ab KR.out HO3.out);obtain ⟨_,_,e',rd,-,-⟩:=SR.out.rd;cases e';obtain ⟨gc,oc,rfl,d0⟩:=rd.int k hlt;have hgl:=(SR.out.own (k:=gc) rfl).1;have hi:=HIN.out (Ls.getD k 0) (by rw [Ld,Le hlt];exact List.getElem_mem hlt);have HST:=Hz (wu (A:=A) (lv:=s.lv) (base:=base) (t:=(f,0)) hlt);clear rd;generalize Ls.getD k 0=i at *;obtain ⟨⟨fk,n⟩,hP⟩:∃ t,jPlan A s.lv base (Ls.take k) (f,0)=t:=⟨_,rfl⟩;rw [hP] at JR HST hbd ⊢;dsimp only at JR HST hbd ⊢;clear hP;obtain ⟨i,rfl⟩:=Int.eq_ofNat_of_zero_le hi.1;have hi1:i<s.lv.length:=by omega
   have hfl:fk.length=s.lv.length:=by omega
   obtain ⟨c0,c1,c2,-,-,p0⟩:=JR.out.cells;have pl:=JR.out.hp.lt;have cl:=JR.out.hc.lt;have ll:=JR.out.hl.lt;have tl:=JR.out.ht.lt;have e0:=JR.out.qZ hi1;have HAT:=Hz (show au s.lv (i:Int)=s.lv.getD i false by unfold au;simp);have t0:=JR.out.toCell (i:=i) (by omega);have tf:=JR.out.ht.free i;rw [hfl] at c2;generalize hv:s.lv.getD i false=v at *;have hib:(i:Int)<s.lv.length:=by omega
   clear hi;cases v
   ·have HE:=Hz (show gG A s.lv base (fk,n) i=(fk,n) by unfold gG;rw [HAT.out];rfl);clear hv t0 tf;go_wp2_with fail;go_roundw
    case rel=>exact ⟨k+1,hlt,by go_num,by rw [HST.out,HE.out],by rw [HST.out,HE.out];exact JR.out,KR.out⟩
    case measure=>simp [intOf];omega
   ·have HE:=Hz (show gG A s.lv base (fk,n) i=(fk.set i (base+n),n+(1+(A.ai i).2.1)) by unfold gG;rw [HAT.out,if_pos rfl,Int.toNat_natCast]);have HTH:=Hz (gJ i wr JR.out.ha);have hb:=A.aO i;clear hv;obtain ⟨⟨kk,nn,cd⟩,hT⟩:∃ t,A.ai (i:Int)=t:=⟨_,rfl⟩;rw [hT] at HTH hb HE;dsimp only at HTH hb HE;clear hT;have w1':IntKind.i64.wrap (base+n)=base+n:=IntWalk.i64_in _ (by omega);have w2':IntKind.i64.wrap (1+nn)=1+nn:=IntWalk.i64_in _ (by omega);have w3':IntKind.i64.wrap (n+(1+nn))=n+(1+nn):=IntWalk.i64_in _ (by omega);go_wp2_with fail;refine HTH.out.mono ?_;rintro e w4 ⟨rfl,rfl⟩;have JS':=Hz (JR.out.Cr i (base+n));have KS:=Hz (KR.out.setCell (p:=⟨H.tb,i,none⟩) (.inl rfl) (.int .i64 (base+n)));have hib2:(i:Int)<fk.length:=by omega
    go_wp2_with fail;go_roundw
    case rel=>exact ⟨k+1,hlt,by go_num,by rw [HST.out,HE.out],by rw [HST.out,HE.out];exact JS'.out,KS.out⟩
    case measure=>simp [intOf];omega
  ·obtain rfl:k=Ls.length:=by omega
   rw [List.take_length] at JR ⊢;go_wp2_with fail;go_ret;exact ⟨rfl,JR.out,(K3.out.mono (fun _ _ h=>h.elim)).trans KR.out⟩
end
end
section
open Go.RowKit
structure bM (w:World) (p n:Nat) (wx:World) (ol ot oc ob:Option Nat):Prop where
 k:aa (fun _=>False) w wx
 l:∀ b,ol=some b→aj wx b (List.replicate n (.bool false)) 4∧w.heap.size≤b
 t:∀ b,ot=some b→aj wx b (List.replicate n (.int .i64 0)) 3∧w.heap.size≤b
 c:∀ b,oc=some b→∃ lb tb,ol=some lb∧ot=some tb∧aj wx b [.pointer (some ⟨p,0,none⟩), .slice (some ⟨lb,0,none⟩) n n, .slice (some ⟨tb,0,none⟩) n n, .slice none 0 0, .slice none 0 0] 124∧w.heap.size≤b
 v:∀ b,ob=some b→aj wx b [.pointer none] 121∧w.heap.size≤b
section
variable {w wx:World} {p n:Nat} {ol ot oc ob:Option Nat}
theorem bM.start (w:World) (p n:Nat):bM w p n w.drew none none none none:=⟨(aa.refl _ w).drew,fun _ h=>(by cases h),fun _ h=>(by cases h),fun _ h=>(by cases h),fun _ h=>(by cases h)⟩
theorem bM.alloc (I:bM w p n wx ol ot oc ob) (cs:Array Value) (T:TypeId):bM w p n (wx.alloc (.cells cs T)) ol ot oc ob:=
 ⟨I.k.alloc _,fun b h=>⟨(I.l b h).1.alloc _,(I.l b h).2⟩,fun b h=>⟨(I.t b h).1.alloc _,(I.t b h).2⟩,fun b h=>by obtain ⟨lb,tb,e1,e2,hb,hs⟩:=I.c b h;exact ⟨lb,tb,e1,e2,hb.alloc _,hs⟩,fun b h=>⟨(I.v b h).1.alloc _,(I.v b h).2⟩⟩
theorem bM.live (I:bM w p n wx none ot none ob):bM w p n (wx.alloc (.cells (Array.replicate n (.bool false)) 4)) (some wx.heap.size) ot none ob:=by
 have J:=I.alloc (Array.replicate n (.bool false)) 4;exact ⟨J.k,fun b h=>by cases h;exact ⟨aj.newAt _ rfl (by simp),I.k.size⟩,J.t,fun _ h=>(by cases h),J.v⟩
theorem bM.to (I:bM w p n wx ol none none ob):bM w p n (wx.alloc (.cells (Array.replicate n (.int .i64 0)) 3)) ol (some wx.heap.size) none ob:=by
 have J:=I.alloc (Array.replicate n (.int .i64 0)) 3;exact ⟨J.k,J.l,fun b h=>by cases h;exact ⟨aj.newAt _ rfl (by simp),I.k.size⟩,fun _ h=>(by cases h),J.v⟩
theorem bM.cut {lb tb:Nat} (I:bM w p n wx (some lb) (some tb) none ob):bM w p n (wx.alloc (.cells #[.pointer (some ⟨p,0,none⟩), .slice (some ⟨lb,0,none⟩) n n, .slice (some ⟨tb,0,none⟩) n n, .slice none 0 0, .slice none 0 0] 124)) (some lb) (some tb) (some wx.heap.size) ob:=by
 have J:=I.alloc #[.pointer (some ⟨p,0,none⟩), .slice (some ⟨lb,0,none⟩) n n, .slice (some ⟨tb,0,none⟩) n n, .slice none 0 0, .slice none 0 0] 124;exact ⟨J.k,J.l,J.t,fun b h=>by cases h;exact ⟨lb,tb,rfl,rfl,aj.newAt _ rfl rfl,I.k.size⟩,J.v⟩
theorem bM.var (I:bM w p n wx ol ot oc none):bM w p n (wx.alloc (.cells #[.pointer none] 121)) ol ot oc (some wx.heap.size):=by
 have J:=I.alloc #[.pointer none] 121;exact ⟨J.k,J.l,J.t,J.c,fun b h=>by cases h;exact ⟨aj.newAt _ rfl rfl,I.k.size⟩⟩
def vy (w:World) (p n:Nat) (wx:World) (v:Value):Prop:=
 ∃ lb tb pc b,v=.pointer (some ⟨b,0,none⟩)∧aa (fun _=>False) w wx∧aj wx lb (List.replicate n (.bool false)) 4∧aj wx tb (List.replicate n (.int .i64 0)) 3 ∧
  aj wx pc [.pointer (some ⟨p,0,none⟩), .slice (some ⟨lb,0,none⟩) n n, .slice (some ⟨tb,0,none⟩) n n, .slice none 0 0, .slice none 0 0] 124∧aj wx b [.pointer (some ⟨pc,0,none⟩)] 121∧w.heap.size≤lb∧w.heap.size≤tb∧w.heap.size≤pc∧w.heap.size≤b
theorem bM.made {lb tb pc b:Nat} (I:bM w p n wx (some lb) (some tb) (some pc) (some b)):vy w p n (wx.setCell ⟨b,0,none⟩ (.pointer (some ⟨pc,0,none⟩))) (.pointer (some ⟨b,0,none⟩)):=by
 obtain ⟨hb,sb⟩:=I.v b rfl;obtain ⟨hl,sl⟩:=I.l lb rfl;obtain ⟨ht,st⟩:=I.t tb rfl;obtain ⟨_,_,e1,e2,hc,sc⟩:=I.c pc rfl;cases e1;cases e2;have set:=(aa.refl (·=b) wx).setCell (p:=⟨b,0,none⟩) (.inl rfl) (.pointer (some ⟨pc,0,none⟩));exact ⟨lb,tb,pc,b,rfl,I.k.setCell (p:=⟨b,0,none⟩) (.inr sb) _,set.aq hl (hl.ne hb (by decide)),set.aq ht (ht.ne hb (by decide)),set.aq hc (hc.ne hb (by decide)),by simpa using hb.aG 0 (.pointer (some ⟨pc,0,none⟩)),sl,st,sc,sb⟩
end
end
end Go.Proofs.YtjifdalflepcoacGreat
