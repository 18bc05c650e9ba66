/-
  Parts of the proof, merged: what the functions do, and plain laws.
-/
import Derived.Lib.AppendZeros
import Derived.Test.YtjifdalflepcoadGreatTRPP5
set_option maxHeartbeats 16000000
set_option maxRecDepth 100000
set_option linter.unusedVariables false
set_option linter.unusedSimpArgs false
namespace Go.Proofs.YtjifdalflepcoadGreat
section
open Go.RowKit
theorem zT (x:Int):bits .or .i64 (IntKind.i64.wrap (x*4)) 1=IntKind.i64.wrap (4*x+1):=by
 have h1:(BitVec.ofInt 64 1).toNat=1:=by decide
 have key:(BitVec.ofInt 64 (IntKind.i64.wrap (x*4)) ||| BitVec.ofInt 64 1).toNat=((4*x)%18446744073709551616).toNat+1:=by
  rw [BitVec.toNat_or,BitVec.toNat_ofInt,h1];have e:(IntKind.i64.wrap (x*4)%((2 ^ 64:Nat):Int)).toNat=(((4*x)%18446744073709551616).toNat/4) <<< 2:=by
   rw [IntKind.wrap_i64,Nat.shiftLeft_eq];omega
  rw [e,<-Nat.shiftLeft_add_eq_or_of_lt (by decide:1<2 ^ 2),Nat.shiftLeft_eq];omega
 show IntKind.i64.wrap ((BitVec.ofInt 64 (IntKind.i64.wrap (x*4)) ||| BitVec.ofInt 64 1).toNat:Nat)=_
 rw [key,IntKind.wrap_i64,IntKind.wrap_i64];omega
theorem wK (x:Int) (w:World) :
  Calls Tryz.prog 59 #[.int .i64 x] w λe w'=>e=.returned (.int .i64 (iq x))/\w=w':=by
 have hor:bits .or .i64 (wrap64 (x*4)) 1=iq x:=by rw [<-IntWalk.i64_left];exact zT x
 go_enter Tryz.func59,Tryz.ntmps59
 go_wp2
 go_ret;exact ⟨rfl,rfl⟩
theorem vH (x:Int):iq (wrap64 x)=iq x:=by
 unfold iq wrap64;rw [IntKind.wrap_i64,IntKind.wrap_i64];omega
structure CH where
 p:Nat
 pa:Nat
 g:Nat
 cp:Nat
 ps:Nat
 ro:Value
 pc:Nat
 base:Int
def CH.Own (H:CH) (wv ev:Value) (k:Nat):Prop:=k=H.p\/k=H.pa\/k=H.g\/k=H.pc\/aq wv k\/aq ev k
structure cH (w:World) (H:CH) (wv ev:Value) (s:Ms) (c:Int):Prop where
 hp:ak w H.p [.pointer (some ⟨H.pa,0,none⟩), .pointer (some ⟨H.cp,0,none⟩), .pointer (some ⟨H.ps,0,none⟩),H.ro] 75
 ha:bH w H.pa H.g s.A
 hc:ak w H.pc [.pointer (some ⟨H.p,0,none⟩), .int .i64 H.base, .int .i64 c,wv,ev] 127
 hw:Sl w 3 1 wv s.wk.length (s.wk.map (Value.int .i64))
 he:Sl w 3 1 ev s.ep.length (s.ep.map (Value.int .i64))
 ap:∀ k,¬ (aq wv k/\aq ev k)
def hH (w:World) (H:CH) (wv ev:Value) (s:Ms) (c:Int) (w':World):Prop:=
 ∃ wv' ev',cH w' H wv' ev' s c/\aa (H.Own wv ev) w w'/\∀ k,H.Own wv' ev' k->H.Own wv ev k\/w.heap.size<=k
section
variable {w w':World} {H:CH} {wv ev:Value} {s:Ms} {c:Int}
theorem cH.bE (J:cH w H wv ev s c) {k:Nat} (hk:H.Own wv ev k):∃ l T,ak w k l T/\(T=75\/T=162\/T=2\/T=127\/T=3):=by
 rcases hk with rfl | rfl | rfl | rfl | hk | hk
 ·exact ⟨_,_,J.hp, .inl rfl⟩
 ·exact ⟨_,_,J.ha.hp, .inr (.inl rfl)⟩
 ·exact ⟨_,_,J.ha.hg, .inr (.inr (.inl rfl))⟩
 ·exact ⟨_,_,J.hc, .inr (.inr (.inr (.inl rfl)))⟩
 ·obtain ⟨_,l,h⟩:=J.hw.own hk;exact ⟨_,_,h, .inr (.inr (.inr (.inr rfl)))⟩
 ·obtain ⟨_,l,h⟩:=J.he.own hk;exact ⟨_,_,h, .inr (.inr (.inr (.inr rfl)))⟩
theorem cH.aZ (J:cH w H wv ev s c) {k:Nat} (hk:H.Own wv ev k):k<w.heap.size:=by
 obtain ⟨_,_,h,_⟩:=J.bE hk;exact h.lt
theorem cH.ab {S:Nat->Prop} (J:cH w H wv ev s c) (k:aa S w w') (hn:∀ b,H.Own wv ev b->¬ S b):cH w' H wv ev s c:=
 ⟨k.au J.hp (hn _ (.inl rfl)),J.ha.ab k (hn _ (.inr (.inl rfl))) (hn _ (.inr (.inr (.inl rfl)))),k.au J.hc (hn _ (.inr (.inr (.inr (.inl rfl))))),J.hw.ab k (λb hb=>hn b (.inr (.inr (.inr (.inr (.inl hb)))))),
  J.he.ab k (λb hb=>hn b (.inr (.inr (.inr (.inr (.inr hb)))))),J.ap⟩
theorem cH.same (J:cH w H wv ev s c) (k:aa (λ_=>False) w w'):cH w' H wv ev s c:=J.ab k (λ_ _ h=>h)
theorem hH.refl (J:cH w H wv ev s c):hH w H wv ev s c w:=⟨wv,ev,J,aa.refl _ _,λ_ h=>.inl h⟩
theorem cH.bZ (J:cH w H wv ev s c) {A:Ar} (t:aU w H.pa H.g w' A):cH w' H wv ev { s with A:=A } c:=by
 have n1:∀ {b:Nat} {c:List Value} {T:TypeId},ak w b c T->T≠162->T≠2->¬ (b=H.pa\/b=H.g):=λhb h1 h2 e=>by
  rcases e with e | e
  ·exact hb.ne J.ha.hp h1 e
  ·exact hb.ne J.ha.hg h2 e
 refine ⟨t.k.au J.hp (n1 J.hp (by decide) (by decide)),t.at_,t.k.au J.hc (n1 J.hc (by decide) (by decide)),J.hw.ab t.k (λb hb=>?_),J.he.ab t.k (λb hb=>?_),J.ap⟩
 ·obtain ⟨_,l,h⟩:=J.hw.own hb;exact n1 h (by decide) (by decide)
 ·obtain ⟨_,l,h⟩:=J.he.own hb;exact n1 h (by decide) (by decide)
theorem cH.ji (J:cH w H wv ev s c) {A:Ar} (t:aU w H.pa H.g w' A):hH w H wv ev { s with A:=A } c w':=
 ⟨wv,ev,J.bZ t,t.k.mono (λk _ hk=>hk.elim (λh=>.inr (.inl h)) (λh=>.inr (.inr (.inl h)))),λk hk=>.inl hk⟩
theorem cH.cells (J:cH w H wv ev s c):w.cell? ⟨H.pc,0,none⟩=some (.pointer (some ⟨H.p,0,none⟩))/\w.cell? ⟨H.pc,1,none⟩=some (.int .i64 H.base)/\w.cell? ⟨H.pc,2,none⟩=some (.int .i64 c)/\w.cell? ⟨H.pc,3,none⟩=some wv/\w.cell? ⟨H.pc,4,none⟩=some ev /\
  w.cell? ⟨H.p,0,none⟩=some (.pointer (some ⟨H.pa,0,none⟩))/\w.cell? ⟨H.p,1,none⟩=some (.pointer (some ⟨H.cp,0,none⟩))/\w.cell? ⟨H.p,2,none⟩=some (.pointer (some ⟨H.ps,0,none⟩))/\w.cell? ⟨H.p,3,none⟩=some H.ro:=
 ⟨J.hc.cell 0,J.hc.cell 1,J.hc.cell 2,J.hc.cell 3,J.hc.cell 4,J.hp.cell 0,J.hp.cell 1,J.hp.cell 2,J.hp.cell 3⟩
theorem i9 (x:Int) (J:cH w H wv ev s c) :
  Calls Tryz.prog 121 #[.pointer (some ⟨H.pc,0,none⟩), .int .i64 x] w λe w'=>e=.returned (.bool (aX s.A x))/\w=w':=by
 obtain ⟨c0,-,-,-,-,p0,-,-,-⟩:=J.cells;have pl:=J.hp.lt;have cl:=J.hc.lt;have HA:=Hz J.ha;clear J;by_cases hx:x%4=1
 ·have HX:=Hz hx;cases hy:s.A.aA (x/4)
  ·have HE:=Hz (show aX s.A x=true by simp [aX,hy]);have HY:=Hz hy;clear hx hy;go_enter Tryz.func121,Tryz.ntmps121;go_wp2_with fail;refine (dH x _ HX.o).mono ?_;rintro e w1 ⟨rfl,rfl⟩;go_wp2_with fail;refine (cT (x/4) _ HA.o).mono ?_;rintro e w1 ⟨rfl,rfl⟩;rw [HY.o];go_wp2_with fail;go_ret;exact ⟨de HE.o.symm,rfl⟩
  ·have HE:=Hz (show aX s.A x=decide (s.A.load (x/4)<0) by simp [aX,hy,hx]);have HY:=Hz hy;clear hx hy;go_enter Tryz.func121,Tryz.ntmps121;go_wp2_with fail;refine (dH x _ HX.o).mono ?_;rintro e w1 ⟨rfl,rfl⟩;go_wp2_with fail;refine (cT (x/4) _ HA.o).mono ?_;rintro e w1 ⟨rfl,rfl⟩;rw [HY.o];go_wp2_with fail;refine (eW (x/4) _ HA.o).mono ?_;rintro e w1 ⟨rfl,rfl⟩;go_wp2_with fail;go_ret;exact ⟨de HE.o.symm,rfl⟩
 ·have HE:=Hz (show aX s.A x=true by simp [aX,hx]);have HX:=Hz hx;clear hx;go_enter Tryz.func121,Tryz.ntmps121;go_wp2_with fail;refine (lV x _ HX.o).mono ?_;rintro e w1 ⟨rfl,rfl⟩;go_wp2_with fail;go_ret;exact ⟨de HE.o.symm,rfl⟩
theorem oW (x:Int) (J:cH w H wv ev s c) :
  Calls Tryz.prog 123 #[.pointer (some ⟨H.pc,0,none⟩), .int .i64 x] w λe w'=>e=.returned (.int .i64 (cV s.A x))/\w=w':=by
 obtain ⟨c0,-,-,-,-,p0,-,-,-⟩:=J.cells;have pl:=J.hp.lt;have cl:=J.hc.lt;have HA:=Hz J.ha;have HR:=Hz (J.ha.ok.load (x/4));clear J;by_cases hx:x%4=1
 ·have HX:=Hz hx;cases hy:s.A.aA (x/4)
  ·have HE:=Hz (show cV s.A x=x by simp [cV,hy]);have HY:=Hz hy;clear hx hy;go_enter Tryz.func123,Tryz.ntmps123;go_wp2_with fail;refine (dH x _ HX.o).mono ?_;rintro e w1 ⟨rfl,rfl⟩;go_wp2_with fail;refine (cT (x/4) _ HA.o).mono ?_;rintro e w1 ⟨rfl,rfl⟩;rw [HY.o];go_wp2_with fail;go_ret;exact ⟨cS HE.o.symm,rfl⟩
  ·have HY:=Hz hy;have HE:=Hz (show cV s.A x=if s.A.load (x/4)<0 then iq (-1-s.A.load (x/4)) else x by simp [cV,hy,hx]);have HLd:=Hz (eW (x/4) w HA.o);generalize s.A.load (x/4)=u at HE HLd HR;clear hx hy;by_cases hu:u<0
   ·have hd:decide (u<0)=true:=by simpa using hu
    have hw:IntKind.i64.wrap (-1-u)=-1-u:=IntWalk.i64_in _ (by have:=HR.o;unfold bm at this;omega);have HW:=Hz hw;have HU:=Hz hu;clear hu hw;go_enter Tryz.func123,Tryz.ntmps123;go_wp2_with fail;refine (dH x _ HX.o).mono ?_;rintro e w1 ⟨rfl,rfl⟩;go_wp2_with fail;refine (cT (x/4) _ HA.o).mono ?_;rintro e w1 ⟨rfl,rfl⟩;rw [HY.o];go_wp2_with fail;refine HLd.o.mono ?_;rintro e w1 ⟨rfl,rfl⟩;go_wp2_with fail;refine HLd.o.mono ?_;rintro e w1 ⟨rfl,rfl⟩;go_wp2_with fail;refine (wK _ _).mono ?_;rintro e w1 ⟨rfl,rfl⟩;go_wp2_with fail;go_ret;refine ⟨cS ?_,rfl⟩;rw [HE.o,if_pos HU.o]
    try rw [HW.o]
    try rw [vH]
   ·have hd:decide (u<0)=false:=by simpa using hu
    have HU:=Hz hu;clear hu;go_enter Tryz.func123,Tryz.ntmps123;go_wp2_with fail;refine (dH x _ HX.o).mono ?_;rintro e w1 ⟨rfl,rfl⟩;go_wp2_with fail;refine (cT (x/4) _ HA.o).mono ?_;rintro e w1 ⟨rfl,rfl⟩;rw [HY.o];go_wp2_with fail;refine HLd.o.mono ?_;rintro e w1 ⟨rfl,rfl⟩;go_wp2_with fail;go_ret;exact ⟨cS (by rw [HE.o,if_neg (by have:=HU.o;omega)]),rfl⟩
 ·have HE:=Hz (show cV s.A x=x by simp [cV,hx]);have HX:=Hz hx;clear hx;go_enter Tryz.func123,Tryz.ntmps123;go_wp2_with fail;refine (lV x _ HX.o).mono ?_;rintro e w1 ⟨rfl,rfl⟩;go_wp2_with fail;go_ret;exact ⟨cS HE.o.symm,rfl⟩
theorem DZ {A:Ar} {x:Int} (h:aX A x=false):x%4=1/\A.aA (x/4)=true/\¬ A.load (x/4)<0:=by
 simp [aX] at h;exact ⟨h.1.1,h.1.2,by omega⟩
def zU (w:World) (H:CH) (wv ev:Value) (s:Ms) (c x:Int) (e:Ending) (w':World):Prop:=
 e=.returned (.int .i64 (cV (bI s.A x) x))/\aU w H.pa H.g w' (bI s.A x)
theorem aU.aL {w w1 w2:World} {p g:Nat} {A:Ar} (k:aa (λ_=>False) w w1) (t:aU w1 p g w2 A):aU w p g w2 A:=⟨t.at_,(k.mono λ_ _ h=>h.elim).trans t.k⟩
theorem nK (x:Int) (J:cH w H wv ev s c) :
  Calls Tryz.prog 74 #[.pointer (some ⟨H.pc,0,none⟩), .int .i64 x] w (zU w H wv ev s c x):=by
 have HJ:=Hz J;clear J;cases hal:aX s.A x
 ·obtain ⟨hx,-,-⟩:=DZ hal;have HE:=Hz (show bI s.A x=(s.A.copy (x/4)).2.store (x/4) (-1-(s.A.copy (x/4)).1) by unfold bI;rw [hal];rfl);have HAL:=Hz hal;have HX:=Hz hx;have hcr:=Ar.q6 HJ.o.ha.ok (x/4);have HCP:=Hz (λw' h=>A0 (p:=H.pa) (g:=H.g) (A:=s.A) (x/4) w' h);obtain ⟨⟨d,B⟩,hT⟩:∃ t,s.A.copy (x/4)=t:=⟨_,rfl⟩;rw [hT] at HE hcr HCP;dsimp only at HE hcr HCP;have hwr:IntKind.i64.wrap (-1-d)=-1-d:=IntWalk.i64_in _ (by omega);have HR:=Hz (show bm (-1-d) by unfold bm;omega);have HW:=Hz hwr;clear hal hx hcr hT hwr;go_enter Tryz.func74,Tryz.ntmps74;go_wp2_with fail;refine (i9 x HJ.o).mono ?_;rintro e w1 ⟨rfl,rfl⟩;rw [HAL.o];go_wp2_with fail;refine (dH x _ HX.o).mono ?_;rintro e w1 ⟨rfl,rfl⟩;obtain ⟨c0,-,-,-,-,p0,-,-,-⟩:=HJ.o.cells;have pl:=HJ.o.hp.lt;have cl:=HJ.o.hc.lt;go_wp2_with fail;refine a6 (ftq [0,1,2,7,8,9,10,15] (.pure 3 (.free 4 (.free 5 (.pure 6 (.pure 11 (.free 12 (.free 13 (.pure 14 (.run 16 (.free 17 (.run 18 (.swi [] (.fin)))))))))))))) [18] (Fz c0 (Fa p0)) ?_
  iterate 16 refine Wz ?_
  refine aN rfl rfl (λK hK=>?_);unfold ax;go_simp;have HD:=Hz (HJ.o.same ((Kz w).drew));refine (HCP.o _ HD.o.ha).mono ?_;rintro e w1 ⟨rfl,t⟩;have T1:=Hz t;clear t;refine hK _ _ (λ_=>⟨((HD.o.bZ T1.o).cells).1,(HD.o.bZ T1.o).cells.2.2.2.2.2.1⟩) ?_;clear hK K;refine Wz ?_;refine aD rfl rfl rfl (λK hK=>?_);unfold ax;go_simp;rw [HW.o];refine (gR (x/4) (-1-d) _ T1.o.at_ HR.o).mono ?_;rintro e w2 ⟨rfl,t⟩;have T2:=Hz (aU.aL (w:=w) ((Kz w).drew) (T1.o.trans t));clear t;refine hK _ _ ?_;clear hK K c0 p0 pl cl;refine aC (λ_=>True) trivial (av ?_);have HJ2:=Hz (HJ.o.bZ T2.o);go_wp2_with fail;refine (oW x HJ2.o).mono ?_;rintro e w3 ⟨rfl,rfl⟩;go_wp2_with fail;go_ret;refine ⟨cS (by rw [HE.o]),?_⟩;rw [HE.o];exact T2.o
 ·have HE:=Hz (show bI s.A x=s.A by unfold bI;rw [hal];rfl);have HAL:=Hz hal;clear hal;go_enter Tryz.func74,Tryz.ntmps74;go_wp2_with fail;refine (i9 x HJ.o).mono ?_;rintro e w1 ⟨rfl,rfl⟩;rw [HAL.o];go_wp2_with fail;refine (oW x HJ.o).mono ?_;rintro e w1 ⟨rfl,rfl⟩;go_wp2_with fail;go_ret;refine ⟨cS (by rw [HE.o]),?_⟩;rw [HE.o];exact aU.refl HJ.o.ha (aa.refl _ _)
theorem nL (i:Int) (J:cH w H wv ev s c) :
  Calls Tryz.prog 124 #[.pointer (some ⟨H.pc,0,none⟩), .int .i64 i] w λe w'=>e=.returned (.tuple #[])/\aU w H.pa H.g w' (fJ s.A i):=by
 have HJ:=Hz J;clear J;obtain ⟨c0,-,-,-,-,p0,-,-,-⟩:=HJ.o.cells;have pl:=HJ.o.hp.lt;have cl:=HJ.o.hc.lt;go_enter Tryz.func124,Tryz.ntmps124;go_wp2_with fail;refine a6 (ftq [0,1,2,7,8,9,10,11,16] (.pure 3 (.free 4 (.free 5 (.pure 6 (.pure 12 (.free 13 (.free 14 (.pure 15 (.run 17 (.run 18 (.run 19 (.swi [] (.fin)))))))))))))) [19] (Fz c0 (Fa p0)) ?_
 iterate 17 refine Wz ?_
 refine aN rfl rfl (λK hK=>?_);unfold ax;go_simp;have HD:=Hz (HJ.o.same ((Kz w).drew));refine (eW i _ HD.o.ha).mono ?_;rintro e w1 ⟨rfl,rfl⟩;refine hK _ _ (λh=>h) ?_;clear hK K;refine aN rfl rfl (λK hK=>?_);unfold ax;go_simp;refine (nK (s.A.load i) HD.o).mono ?_;rintro e w2 ⟨rfl,t⟩;have T1:=Hz t;clear t;refine hK _ _ (λ_=>⟨((HD.o.bZ T1.o).cells).1,(HD.o.bZ T1.o).cells.2.2.2.2.2.1⟩) ?_;clear hK K
 skip
 refine aD rfl rfl rfl (λK hK=>?_);unfold ax;go_simp;have HR:=Hz (iu (A:=bI s.A (s.A.load i)) (HD.o.ha.ok.load i));refine (gR i _ _ T1.o.at_ HR.o).mono ?_;rintro e w3 ⟨rfl,t⟩;have T2:=Hz (aU.aL (w:=w) ((Kz w).drew) (T1.o.trans t));clear t;refine hK _ _ ?_;clear hK K c0 p0 pl cl;refine aC (λ_=>True) trivial (av ?_);go_wp2_with fail;go_end0;exact ⟨rfl,T2.o⟩
end
end
section
open Go.RowKit
theorem oX:∀ (n:Nat) (A:Ar) (i:Int),mFields (n+1) A i=fJ (mFields n A i) (i+n)
 | 0,A,i=>by simp [mFields]
 | n+1,A,i=>by
  have:=oX n (fJ A i) (i+1);rw [mFields,this,mFields];congr 1;omega
theorem yG:(Tryz.prog.info? 3).map (λi=>(i.zero,i.size,i.bytes))=some (some (.int .i64 0),1,8):=by kernel_rfl
section
variable {w w':World} {H:CH} {wv ev:Value} {s:Ms} {c:Int}
theorem hH.join {w1:World} {wv1 ev1:Value} (k1:aa (H.Own wv ev) w w1) (o1:∀ k,H.Own wv1 ev1 k->H.Own wv ev k\/w.heap.size<=k) (t:hH w1 H wv1 ev1 s c w'):hH w H wv ev s c w':=by
 obtain ⟨a2,b2,J2,k2,o2⟩:=t;refine ⟨a2,b2,J2,k1.then k2 o1,λk hk=>?_⟩;rcases o2 k hk with h | h
 ·exact o1 k h
 ·exact .inr (Za k1.size h)
theorem cH.Er {w1 w2:World} {v2:Value} {i:Int} (J:cH w H wv ev s c) (k1:aa (λ_=>False) w w1) (hs:Sl w2 3 1 v2 (s.wk.length+1) (s.wk.map (Value.int .i64) ++ [.int .i64 i])) (k2:aa (aq wv) w1 w2)
  (ho:∀ k,aq v2 k->aq wv k\/w1.heap.size<=k):hH w H wv ev { s with wk:=s.wk ++ [i] } c (w2.setCell ⟨H.pc,3,none⟩ v2):=by
 have J1:=J.same k1;have nw:∀ {b:Nat} {l:List Value} {T:TypeId},ak w1 b l T->T≠3->¬ aq wv b:=λhb hT hv=>by
  obtain ⟨_,l',h⟩:=J1.hw.own hv;exact hb.ne h hT rfl
 have hp2:=k2.au J1.hp (nw J1.hp (by decide));have hc2:=k2.au J1.hc (nw J1.hc (by decide));have ha2:=J1.ha.ab k2 (nw J1.ha.hp (by decide)) (nw J1.ha.hg (by decide));have he2:=J1.he.ab k2 (λb hb hv=>J.ap b ⟨hv,hb⟩);have set:=(aa.refl (·=H.pc) w2).setCell (p:=⟨H.pc,3,none⟩) (.inl rfl) v2;have ne:∀ {b:Nat} {l:List Value} {T:TypeId},ak w2 b l T->T≠127->¬ b=H.pc:=λhb hT=>hb.ne hc2 hT;refine ⟨v2,ev,⟨set.au hp2 (ne hp2 (by decide)),ha2.ab set (ne ha2.hp (by decide)) (ne ha2.hg (by decide)),by simpa using hc2.aE 3 v2,?_,he2.ab set (λb hb=>by obtain ⟨_,l,h⟩:=he2.own hb;exact ne h (by decide)),?_⟩,?_,?_⟩
 ·have:({ s with wk:=s.wk ++ [i] }:Ms).wk.length=s.wk.length+1:=by simp
  rw [this];simpa using hs.ab set (λb hb=>by obtain ⟨_,l,h⟩:=hs.own hb;exact ne h (by decide))
 ·rintro k ⟨h1,h2⟩;rcases ho k h1 with h | h
  ·exact J.ap k ⟨h,h2⟩
  ·have:=(J1.he.own h2).1;omega
 ·refine aa.setCell ?_ (p:=⟨H.pc,3,none⟩) (.inl (.inr (.inr (.inr (.inl rfl))))) v2;exact (k1.mono λ_ _ h=>h.elim).trans (k2.mono λk _ hk=>.inr (.inr (.inr (.inr (.inl hk)))))
 ·rintro k (h | h | h | h | h | h)
  ·exact .inl (.inl h)
  ·exact .inl (.inr (.inl h))
  ·exact .inl (.inr (.inr (.inl h)))
  ·exact .inl (.inr (.inr (.inr (.inl h))))
  ·rcases ho k h with h | h
   ·exact .inl (.inr (.inr (.inr (.inr (.inl h)))))
   ·exact .inr (Za k1.size h)
  ·exact .inl (.inr (.inr (.inr (.inr (.inr h)))))
theorem cH.zV {w1 w2:World} {v2:Value} {i:Int} (J:cH w H wv ev s c) (k1:aa (λ_=>False) w w1) (hs:Sl w2 3 1 v2 (s.ep.length+1) (s.ep.map (Value.int .i64) ++ [.int .i64 i])) (k2:aa (aq ev) w1 w2)
  (ho:∀ k,aq v2 k->aq ev k\/w1.heap.size<=k):hH w H wv ev { s with ep:=s.ep ++ [i] } c (w2.setCell ⟨H.pc,4,none⟩ v2):=by
 have J1:=J.same k1;have nw:∀ {b:Nat} {l:List Value} {T:TypeId},ak w1 b l T->T≠3->¬ aq ev b:=λhb hT hv=>by
  obtain ⟨_,l',h⟩:=J1.he.own hv;exact hb.ne h hT rfl
 have hp2:=k2.au J1.hp (nw J1.hp (by decide));have hc2:=k2.au J1.hc (nw J1.hc (by decide));have ha2:=J1.ha.ab k2 (nw J1.ha.hp (by decide)) (nw J1.ha.hg (by decide));have hw2:=J1.hw.ab k2 (λb hb hv=>J.ap b ⟨hb,hv⟩);have set:=(aa.refl (·=H.pc) w2).setCell (p:=⟨H.pc,4,none⟩) (.inl rfl) v2;have ne:∀ {b:Nat} {l:List Value} {T:TypeId},ak w2 b l T->T≠127->¬ b=H.pc:=λhb hT=>hb.ne hc2 hT;refine ⟨wv,v2,⟨set.au hp2 (ne hp2 (by decide)),ha2.ab set (ne ha2.hp (by decide)) (ne ha2.hg (by decide)),by simpa using hc2.aE 4 v2,hw2.ab set (λb hb=>by obtain ⟨_,l,h⟩:=hw2.own hb;exact ne h (by decide)),?_,?_⟩,?_,?_⟩
 ·have:({ s with ep:=s.ep ++ [i] }:Ms).ep.length=s.ep.length+1:=by simp
  rw [this];simpa using hs.ab set (λb hb=>by obtain ⟨_,l,h⟩:=hs.own hb;exact ne h (by decide))
 ·rintro k ⟨h1,h2⟩;rcases ho k h2 with h | h
  ·exact J.ap k ⟨h1,h⟩
  ·have:=(J1.hw.own h1).1;omega
 ·refine aa.setCell ?_ (p:=⟨H.pc,4,none⟩) (.inl (.inr (.inr (.inr (.inl rfl))))) v2;exact (k1.mono λ_ _ h=>h.elim).trans (k2.mono λk _ hk=>.inr (.inr (.inr (.inr (.inr hk)))))
 ·rintro k (h | h | h | h | h | h)
  ·exact .inl (.inl h)
  ·exact .inl (.inr (.inl h))
  ·exact .inl (.inr (.inr (.inl h)))
  ·exact .inl (.inr (.inr (.inr (.inl h))))
  ·exact .inl (.inr (.inr (.inr (.inr (.inl h)))))
  ·rcases ho k h with h | h
   ·exact .inl (.inr (.inr (.inr (.inr (.inr h)))))
   ·exact .inr (Za k1.size h)
def BF (w:World) (H:CH) (wv ev:Value) (s:Ms) (c i:Int) (e:Ending) (w':World):Prop:=
 e=.returned (.int .i64 (1+(s.A.ah i).2.1))/\hH w H wv ev (eD s i) c w'
theorem wL (i:Int) (J:cH w H wv ev s c) (h0:0<=i) (h1:i<=1300) (hl:(s.wk.length:Int)+s.ep.length<=1000000) :
  Calls Tryz.prog 76 #[.pointer (some ⟨H.pc,0,none⟩), .int .i64 i] w (BF w H wv ev s c i):=by
 have HJ:=Hz J;clear J;obtain ⟨c0,-,-,c3,c4,p0,-,-,-⟩:=HJ.o.cells;have pl:=HJ.o.hp.lt;have cl:=HJ.o.hc.lt;have HTH:=Hz (gS i w HJ.o.ha);have hb:=s.A.aQ i;obtain ⟨L,hLe⟩:∃ L,eD s i=L:=⟨_,rfl⟩;have HL:=Hz hLe;unfold eD at hLe;obtain ⟨⟨k,n,cd⟩,hT⟩:∃ t,s.A.ah i=t:=⟨_,rfl⟩;have HT:=Hz hT;rw [hT] at HTH hb hLe;dsimp only at HTH hb hLe;clear hT;have hwn:IntKind.i64.wrap (1+n)=1+n:=IntWalk.i64_in _ (by omega);by_cases k12:k=1\/k=2
 ·rw [if_pos k12] at hLe;have HE:=Hz hLe;clear hLe;obtain ⟨m,rfl⟩:∃ m:Nat,n=m:=⟨n.toNat,by omega⟩;have hi1:IntKind.i64.wrap (i+1)=i+1:=IntWalk.i64_in _ (by omega);rcases k12 with rfl | rfl
  all_goals
   go_enter Tryz.func76,Tryz.ntmps76;go_wp2_with fail;refine HTH.o.mono ?_;rintro e w1 ⟨rfl,rfl⟩;go_wp2_with fail;go_loopw [27] (λu wr=>∃ q:Nat,q<=m/\u=.int .i64 q/\aU w H.pa H.g wr (mFields q s.A (i+1))) (λu _=>m-(intOf u).toNat)
   case atStart=>exact ⟨0,Zc _,rfl,aU.refl HJ.o.ha (aa.refl _ _)⟩
   case round=>
    obtain ⟨q,hq,rfl,t⟩:=hrel;have T:=Hz t;clear t;by_cases hlt:q<m
    ·have JR:=Hz (HJ.o.bZ T.o);have hiq:IntKind.i64.wrap (i+1+q)=i+1+q:=IntWalk.i64_in _ (by omega);go_wp2_with fail;refine (nL (i+1+q) JR.o).mono ?_;rintro e w2 ⟨rfl,t⟩;have T2:=Hz (T.o.trans t);clear t;go_wp2_with fail;go_roundw
     case rel=>exact ⟨q+1,hlt,by go_num,by rw [oX];exact T2.o⟩
     case measure=>simp [intOf];omega
    ·obtain rfl:q=m:=by omega
     go_wp2_with fail;go_ret;refine ⟨cS (by rw [HT.o]),?_⟩;rw [HL.o,<-HE.o];exact HJ.o.ji (by simpa using T.o)
 ·have k1:(k == 1)=false:=by simp;omega
  have k2:(k == 2)=false:=by simp;omega
  rw [if_neg k12] at hLe;clear k12;obtain ⟨i0,hi,hz0,hz1,hz2⟩:=info_parts yG;have Hi:=Hz hi;have Hz0:=Hz hz0;have Hz1:=Hz hz1;have Hz2:=Hz hz2;clear hi hz0 hz1 hz2;by_cases k3:k=3
  ·subst k3;rw [if_pos rfl] at hLe;have HE:=Hz hLe;clear hLe;have hi2:IntKind.i64.wrap (i+2)=i+2:=IntWalk.i64_in _ (by omega);obtain ⟨wo,wc,rfl,-,-,-⟩:=HJ.o.hw.rd;go_enter Tryz.func76,Tryz.ntmps76;go_wp2_with fail;refine HTH.o.mono ?_;rintro e w1 ⟨rfl,rfl⟩;go_wp2_with (at_builtin;refine cE rfl (.tmp 43) (.tmp 45) 27 rfl 3 i0 (.int .i64 0) 1 8 Tryz.underlying27 Hi.o Hz0.o Hz1.o Hz2.o rfl (by decide) _ s.wk.length (s.wk.map (Value.int .i64)) rfl ?ha ⟨w.heap.size,0,none⟩ 1 1 [.int .i64 i] rfl rfl ?hb ?hc ?hd ?he ?hf)
   case ha=>exact HJ.o.hw.ab ((Kz w).alloc _) (λ_ _ h=>h)
   case hb=>exact bV w 3 _
   case hc=>intro u hu;simp at hu;subst hu;rfl
   case hd=>unfold maxLen;omega
   case he=>omega
   case hf=>
    intro v2 w2 hs2 hk2 ho2;obtain ⟨ao2,cap2,rfl,-,-,-⟩:=hs2.rd;have T2:=Hz (HJ.o.Er ((Kz w).alloc (.cells #[.int .i64 i] 3)) hs2 hk2 (by simpa using ho2));have K2:=Hz (((Kz w).alloc (.cells #[.int .i64 i] 3)).au HJ.o.hc (λh=>h));have K3:=Hz (hk2.au K2.o (λhv=>by
     obtain ⟨_,l,h⟩:=(HJ.o.hw.ab ((Kz w).alloc (.cells #[.int .i64 i] 3)) (λ_ _ h=>h)).own hv
     exact K2.o.ne h (by decide) rfl))
    clear hs2 hk2 ho2 K2;have x0:=K3.o.cell 3;have xl:=K3.o.lt;have xf:=K3.o.free 3;simp only [Lz,aB] at x0;clear c0 c3 c4 p0 pl cl;go_wp2_with fail;obtain ⟨wv3,ev3,J3,k3,o3⟩:=T2.o;have J3':=Hz J3;have K4:=Hz k3;have O3:=Hz o3;clear J3 k3 o3;refine (nL (i+2) J3'.o).mono ?_;rintro e w4 ⟨rfl,t⟩;have T4:=Hz t;clear t x0 xl xf;go_wp2_with fail;go_ret;refine ⟨cS (by rw [HT.o]),?_⟩;rw [HL.o,<-HE.o];exact hH.join K4.o O3.o (J3'.o.ji T4.o)
  ·have k3':(k == 3)=false:=by simpa using k3
   rw [if_neg k3] at hLe;clear k3;by_cases k4:k=4
   ·subst k4;rw [if_pos rfl] at hLe;have HE:=Hz hLe;clear hLe;obtain ⟨eo,ec,rfl,-,-,-⟩:=HJ.o.he.rd;go_enter Tryz.func76,Tryz.ntmps76;go_wp2_with fail;refine HTH.o.mono ?_;rintro e w1 ⟨rfl,rfl⟩;go_wp2_with (at_builtin;refine cE rfl (.tmp 59) (.tmp 61) 27 rfl 3 i0 (.int .i64 0) 1 8 Tryz.underlying27 Hi.o Hz0.o Hz1.o Hz2.o rfl (by decide) _ s.ep.length (s.ep.map (Value.int .i64)) rfl ?ha ⟨w.heap.size,0,none⟩ 1 1 [.int .i64 i] rfl rfl ?hb ?hc ?hd ?he ?hf)
    case ha=>exact HJ.o.he.ab ((Kz w).alloc _) (λ_ _ h=>h)
    case hb=>exact bV w 3 _
    case hc=>intro u hu;simp at hu;subst hu;rfl
    case hd=>unfold maxLen;omega
    case he=>omega
    case hf=>
     intro v2 w2 hs2 hk2 ho2;obtain ⟨ao2,cap2,rfl,-,-,-⟩:=hs2.rd;have T2:=Hz (HJ.o.zV ((Kz w).alloc (.cells #[.int .i64 i] 3)) hs2 hk2 (by simpa using ho2));have K2:=Hz (((Kz w).alloc (.cells #[.int .i64 i] 3)).au HJ.o.hc (λh=>h));have K3:=Hz (hk2.au K2.o (λhv=>by
      obtain ⟨_,l,h⟩:=(HJ.o.he.ab ((Kz w).alloc (.cells #[.int .i64 i] 3)) (λ_ _ h=>h)).own hv
      exact K2.o.ne h (by decide) rfl))
     clear hs2 hk2 ho2 K2;have x0:=K3.o.cell 4;have xl:=K3.o.lt;have xf:=K3.o.free 4;simp only [Lz,aB] at x0;clear c0 c3 c4 p0 pl cl;go_wp2_with fail;go_ret;refine ⟨cS (by rw [HT.o]),?_⟩;rw [HL.o,<-HE.o];exact T2.o
   ·have k4':(k == 4)=false:=by simpa using k4
    rw [if_neg k4] at hLe;have HE:=Hz hLe;clear hLe k4;go_enter Tryz.func76,Tryz.ntmps76;go_wp2_with fail;refine HTH.o.mono ?_;rintro e w1 ⟨rfl,rfl⟩;go_wp2_with fail;go_ret;refine ⟨cS (by rw [HT.o]),?_⟩;rw [HL.o,<-HE.o];exact hH.refl HJ.o
theorem rC (J:cH w H wv ev s c) (hb:H.base=s.A.nur) :
  Calls Tryz.prog 73 #[.pointer (some ⟨H.pc,0,none⟩)] w λe w'=>e=.returned (.int .i64 s.A.grn)/\aa (λ_=>False) w w':=by
 have HJ:=Hz J;clear J;obtain ⟨c0,c1,-,-,-,p0,-,-,-⟩:=HJ.o.cells;have pl:=HJ.o.hp.lt;have cl:=HJ.o.hc.lt;rw [hb] at c1;have o2:=HJ.o.ha.ok.h2;have o3:=HJ.o.ha.ok.h3;have o4:=HJ.o.ha.ok.h4;have HB:=Hz hb;clear hb;go_enter Tryz.func73,Tryz.ntmps73;go_wp2_with fail;refine (mF w HJ.o.ha).mono ?_;rintro e w1 ⟨rfl,hk⟩;have J1:=Hz (HJ.o.same hk);have K1:=Hz hk;clear c0 c1 p0 pl cl hk;obtain ⟨c0,c1,-,-,-,p0,-,-,-⟩:=J1.o.cells;rw [HB.o] at c1;have cl:=J1.o.hc.lt;have hs:IntKind.i64.wrap ((s.A.nur:Int)+((s.A.grn-s.A.nur:Nat):Int))=s.A.grn:=by
  rw [IntWalk.i64_in _ (by omega)];omega
 go_wp2_with fail;go_ret;exact ⟨by first | rfl | exact cS (by omega),K1.o⟩
end
end
section
open Go.RowKit
structure CS (w:World) (H:CH) (wv ev rv qv:Value) (rg:List (Int × Int)) (d:Md):Prop where
 J:cH w H wv ev d.s d.c
 S:a7 w H.ps rv qv rg d.q
 ok:gG d.s d.c
 q:kx d.q
 nb:H.base=d.s.A.nur
 ql:d.q.length<=1000000
def gI (w:World) (H:CH) (wv ev rv qv:Value) (rg:List (Int × Int)) (d:Md) (w':World):Prop:=
 ∃ wv' ev',CS w' H wv' ev' rv qv rg d/\aa (λk=>H.Own wv ev k\/aG H.ps rv qv k) w w'/\∀ k,H.Own wv' ev' k->H.Own wv ev k\/w.heap.size<=k
def rD (w:World) (b i:Nat):Int:=match w.cell? ⟨b,i,none⟩ with | some (.int _ n)=>n | _=>0
theorem nM {w:World} {b i:Nat} {k:IntKind} {n:Int} (h:w.cell? ⟨b,i,none⟩=some (.int k n)):rD w b i=n:=by unfold rD;rw [h]
section
variable {w w':World} {H:CH} {wv ev rv qv:Value} {rg:List (Int × Int)} {d:Md} {s:Ms} {c:Int}
theorem cH.cQ {wt:List (Int × Int)} (J:cH w H wv ev s c) (S:a7 w H.ps rv qv rg wt) {k:Nat} (hk:H.Own wv ev k):¬ aG H.ps rv qv k:=λhs=>by
 obtain ⟨_,T,h,hT⟩:=J.bE hk;obtain ⟨_,U,h',hU⟩:=S.cM hs;refine h.ne h' ?_ rfl;rcases hT with rfl | rfl | rfl | rfl | rfl <;> rcases hU with rfl | rfl <;> decide
theorem CS.ab {S:Nat->Prop} (C:CS w H wv ev rv qv rg d) (k:aa S w w') (h1:∀ b,H.Own wv ev b->¬ S b) (h2:∀ b,aG H.ps rv qv b->¬ S b):CS w' H wv ev rv qv rg d:=
 ⟨C.J.ab k h1,C.S.ab k h2,C.ok,C.q,C.nb,C.ql⟩
theorem CS.same (C:CS w H wv ev rv qv rg d) (k:aa (λ_=>False) w w'):CS w' H wv ev rv qv rg d:=C.ab k (λ_ _ h=>h) (λ_ _ h=>h)
theorem gI.refl (C:CS w H wv ev rv qv rg d) (k:aa (λ_=>False) w w'):gI w H wv ev rv qv rg d w':=⟨wv,ev,C.same k,k.mono (λ_ _ h=>h.elim),λ_ h=>.inl h⟩
theorem gI.join {w1:World} {wv1 ev1:Value} (k1:aa (λk=>H.Own wv ev k\/aG H.ps rv qv k) w w1) (o1:∀ k,H.Own wv1 ev1 k->H.Own wv ev k\/w.heap.size<=k) (t:gI w1 H wv1 ev1 rv qv rg d w'):gI w H wv ev rv qv rg d w':=by
 obtain ⟨a2,b2,J2,k2,o2⟩:=t;refine ⟨a2,b2,J2,k1.then k2 (λk hk=>?_),λk hk=>?_⟩
 ·rcases hk with hk | hk
  ·exact (o1 k hk).imp .inl id
  ·exact .inl (.inr hk)
 ·rcases o2 k hk with h | h
  ·exact o1 k h
  ·exact .inr (Za k1.size h)
theorem CS.cut (C:CS w H wv ev rv qv rg d) (t:hH w H wv ev s c w') (h:gG s c) (hn:s.A.nur=d.s.A.nur):gI w H wv ev rv qv rg ⟨s,c,d.q⟩ w':=by
 obtain ⟨a,b,J,k,o⟩:=t;exact ⟨a,b,⟨J,C.S.ab k (λb hb hk=>C.J.cQ C.S hk hb),h,C.q,by rw [hn];exact C.nb,C.ql⟩,k.mono (λ_ _ h=>.inl h),o⟩
theorem cH.Db (J:cH w H wv ev s c) (c2:Int):hH w H wv ev s c2 (w.setCell ⟨H.pc,2,none⟩ (.int .i64 c2)):=by
 have set:=(aa.refl (·=H.pc) w).setCell (p:=⟨H.pc,2,none⟩) (.inl rfl) (.int .i64 c2);have ne:∀ {b:Nat} {l:List Value} {T:TypeId},ak w b l T->T≠127->¬ b=H.pc:=λhb hT=>hb.ne J.hc hT;exact ⟨wv,ev,⟨set.au J.hp (ne J.hp (by decide)),J.ha.ab set (ne J.ha.hp (by decide)) (ne J.ha.hg (by decide)),by simpa using J.hc.aE 2 (.int .i64 c2),J.hw.ab set (λb hb=>by obtain ⟨_,l,h⟩:=J.hw.own hb;exact ne h (by decide)),
  J.he.ab set (λb hb=>by obtain ⟨_,l,h⟩:=J.he.own hb;exact ne h (by decide)),J.ap⟩,set.mono (λk _ hk=>.inr (.inr (.inr (.inl hk)))),λk hk=>.inl hk⟩
def tE (pc:Nat):Value:=.agg #[.func (.func 121) #[.pointer (some ⟨pc,0,none⟩)] #[], .func (.func 74) #[.pointer (some ⟨pc,0,none⟩)] #[], .func (.func 123) #[.pointer (some ⟨pc,0,none⟩)] #[]]
theorem te (J:cH w H wv ev s c) :
  Calls Tryz.prog 126 #[.pointer (some ⟨H.pc,0,none⟩)] w λe w'=>e=.returned (tE H.pc)/\aa (λ_=>False) w w':=by
 have cl:=J.hc.lt;clear J;go_enter Tryz.func126,Tryz.ntmps126;go_wp2_with fail;go_wp2_with fail;refine bodyPost_ret (v:=tE H.pc) (by simp [tE,results,Tryz.results126,go_sem]) rfl ⟨rfl,?_⟩;exact (aa.refl _ _).alloc _
def Dc (H:CH) (wv ev:Value) (wk ep:List Int) (c:Int):eO Tryz.prog H.ps Ar where
 J:=λw A F=>cH w H wv ev ⟨A,wk,ep⟩ c/\F=H.Own wv ev
 D:=λ_ x=>bm x
 DK:=λ_ x=>bm x
 alive:=aX
 ab:=λA q x=>((jm A x).1,q,(jm A x).2)
 now:=cV
 fa:=121
 fk:=74
 fn:=123
 a1:=#[.pointer (some ⟨H.pc,0,none⟩)]
 a2:=#[]
 k1:=#[.pointer (some ⟨H.pc,0,none⟩)]
 k2:=#[]
 n1:=#[.pointer (some ⟨H.pc,0,none⟩)]
 n2:=#[]
 ea:=λargs w=>by kernel_rfl
 ek:=λargs w=>by kernel_rfl
 en:=λargs w=>by kernel_rfl
 J_keep:=λh k hn=>⟨h.1.ab k (by rw [<-h.2];exact hn),h.2⟩
 J_lt:=λh hk=>h.1.aZ (by rw [<-h.2];exact hk)
 cX:=λw t F x hJ _=>(i9 x hJ.1).mono (by rintro e w' ⟨rfl,rfl⟩;exact ⟨rfl,aa.refl _ _⟩)
 now_c:=λw t F x hJ _=>(oW x hJ.1).mono (by rintro e w' ⟨rfl,rfl⟩;exact ⟨rfl,aa.refl _ _⟩)
 keep_c:=λw t F rv qv ai wait x hJ hS hA hx _ _=>by
  obtain ⟨hJ,rfl⟩:=hJ;refine (nK x hJ).mono ?_;rintro e w' ⟨rfl,t⟩;obtain ⟨a,b,J2,k2,o2⟩:=hJ.ji t;exact ⟨rfl,H.Own wv ev,⟨hJ.bZ t,rfl⟩,hS.ab k2 (λb hb hk=>hA b ⟨hk,hb⟩),hA,k2.mono (λ_ _ h=>.inl h),λk hk=>.inl hk⟩
 DK_D:=λh=>h
 DK_keep:=λ_ h=>h
 D_keep:=λ_ h=>h
 D_new:=λh=>iu h
 D_wait:=λ_ h=>h
 keep_len:=rfl
def BI (w:World) (H:CH) (wv ev rv qv:Value) (rg:List (Int × Int)) (d:Md) (m:Value) (wr:World):Prop:=
 (∃ (n:Nat) (d1:Md),m=.bool true/\gI w H wv ev rv qv rg d1 wr/\mDrain 2000 d=mDrain (n+1) d1/\1998<=n+d1.c/\(n=1999\/d1.c<d1.s.A.grn)) \/
  (m=.bool false/\gI w H wv ev rv qv rg (mDrain 2000 d) wr)
def se (H:CH) (m:Value) (wr:World):Nat:=(4000-rD wr H.pc 2-rD wr H.pa 3).toNat+match m with | .bool true=>1 | _=>0
theorem nN (C:CS w H wv ev rv qv rg d) (b:Bool):se H (.bool b) w=(4000-d.c-d.s.A.grn).toNat+if b then 1 else 0:=by
 unfold se;rw [nM C.J.cells.2.2.1,nM C.J.ha.cells.2.2.2];cases b <;> simp
def D0 (w:World) (H:CH) (wv ev rv qv:Value) (rg:List (Int × Int)) (d:Md) (wr:World):Prop:=
 ∃ (n:Nat) (s:Ms) (c:Int),gI w H wv ev rv qv rg ⟨s,c,d.q⟩ wr/\mScan 2000 d.s d.c=mScan n s c/\1300<=n+c
theorem uP (C:CS w H wv ev rv qv rg d) :
  Calls Tryz.prog 77 #[.pointer (some ⟨H.pc,0,none⟩)] w λe w'=>e=.returned (.tuple #[])/\gI w H wv ev rv qv rg (mDrain 2000 d) w':=by
 have HC:=Hz C;clear C;go_enter Tryz.func77,Tryz.ntmps77;go_wp2_with fail;go_loopw [2] (λm wr=>BI w H wv ev rv qv rg d m wr) (λm wr=>se H m wr)
 case atStart=>exact .inl ⟨1999,d,rfl,gI.refl HC.o (aa.refl _ _),rfl,by have:=HC.o.ok.c0;omega, .inl rfl⟩
 case round=>
  rcases hrel with ⟨n,d1,rfl,ht,he,hn,hg⟩ | ⟨rfl,ht⟩
  ·obtain ⟨wv1,ev1,C1,k1,o1⟩:=ht;have HMU:=Hz (nN C1 true);have HC1:=Hz C1;have K1:=Hz k1;have O1:=Hz o1;have HE:=Hz he;have HN:=Hz hn;have HGR:=Hz hg;clear C1 k1 o1 he hn hg;obtain ⟨w1,rfl⟩:∃ x:World,x=wr:=⟨wr,rfl⟩;go_wp2_with fail;go_loopw [12] (λ_ wr=>D0 w1 H wv1 ev1 rv qv rg d1 wr) (λ_ wr=>(3000-rD wr H.pc 2).toNat)
   case atStart=>exact ⟨2000,d1.s,d1.c,gI.refl HC1.o (aa.refl _ _),rfl,by have:=HC1.o.ok.c0;omega⟩
   case round=>
    obtain ⟨m,s2,c2,⟨wv2,ev2,C2,k2,o2⟩,he2,hm2⟩:=hrel;have HC2:=Hz C2;have K2:=Hz k2;have O2:=Hz o2;have HE2:=Hz he2;have HM2:=Hz hm2;have q2:=C2.J.cells.2.2.1;have HQ:=Hz (nM q2);have cl:=C2.J.hc.lt;have b0:=C2.ok.c0;have b1:=C2.ok.c1;have g3:=C2.ok.ok.h3;have g4:=C2.ok.ok.h4;dsimp only at q2 b0 b1 g3 g4 HQ;clear C2 k2 o2 he2 hm2;by_cases hlt:c2<s2.A.grn
    ·have hd:decide (c2<(s2.A.grn:Int))=true:=by simpa using hlt
     have HLT:=Hz hlt;have hf:=s2.A.aQ c2;have hsum:IntKind.i64.wrap (c2+(1+(s2.A.ah c2).2.1))=c2+(1+(s2.A.ah c2).2.1):=IntWalk.i64_in _ (by omega);have HF:=Hz hf;clear hlt hf;go_wp2_with fail;refine a6 (ftq [0,1,2,4] (.pure 3 (.run 5 (.free 6 (.fin))))) [] (Fa q2) ?_
     iterate 5 refine Wz ?_
     refine aN rfl rfl (λK hK=>?_);unfold ax;go_simp;refine (rC (HC2.o.same ((Kz wr).drew)).J HC2.o.nb).mono ?_;rintro e w3 ⟨rfl,hk⟩;have HC3:=Hz (HC2.o.same ((Kz wr).drew.trans hk));have K3:=Hz (K2.o.trans (((Kz wr).drew.trans hk).mono (λ_ _ h=>h.elim)));refine hK _ _ (λ_=>HC3.o.J.cells.2.2.1) ?_;clear hK K hk q2 cl;refine Wz ?_;refine av ?_;have q2:=HC3.o.J.cells.2.2.1;have cl:=HC3.o.J.hc.lt;dsimp only at q2;go_wp2_with fail;refine a6 (ftq [0,1,2,4,5,6,7] (.pure 3 (.pure 8 (.run 9 (ftq [10,11,12] (.run 13 (.swi [] (.fin)))))))) [13] (Fa q2) ?_
     iterate 9 refine Wz ?_
     refine aN rfl rfl (λK hK=>?_);unfold ax;go_simp;have HC4:=Hz (HC3.o.same ((Kz w3).drew));have K4:=Hz (K3.o.trans ((Kz w3).drew.mono (λ_ _ h=>h.elim)));refine (wL c2 HC4.o.J b0 b1 (by have:=HC4.o.ok.ms.len;dsimp only at this ⊢;omega)).mono ?_;rintro e w5 ⟨rfl,t⟩;obtain ⟨wv5,ev5,J5,k5,o5⟩:=t;have HJ5:=Hz J5;have K5:=Hz k5;have O5:=Hz o5;refine hK _ _ (λ_=>J5.cells.2.2.1) ?_;clear hK K J5 k5 o5 q2 cl;have q2:=HJ5.o.cells.2.2.1;have cl:=HJ5.o.hc.lt;have fz:=HJ5.o.hc.free 2
     iterate 3 refine Wz ?_
     refine aD rfl rfl rfl (λK hK=>?_);unfold ax;go_simp;refine hK _ _ ?_;clear hK K;refine aC (λ_=>True) trivial (av ?_);clear q2 cl fz;have T6:=Hz (hH.join K5.o O5.o (HJ5.o.Db (c2+(1+(s2.A.ah c2).2.1))));have T7:=Hz (gI.join K4.o O2.o (HC4.o.cut T6.o (HC4.o.ok.look HLT.o) (Sm.look HC4.o.ok.ok c2).nur));obtain ⟨wv7,ev7,C7,-,-⟩:=T7.o;have HC7:=Hz (nM C7.J.cells.2.2.1);clear C7;go_wp2_with fail;go_roundw
     case rel=>
      refine ⟨m-1,_,_,T7.o,?_,?_⟩
      ·rw [HE2.o];obtain ⟨m,rfl⟩:∃ k,m=k+1:=⟨m-1,by have:=HM2.o;have:=HLT.o;omega⟩;exact rm m HLT.o
      ·have:=HM2.o;have:=HF.o;have:=HLT.o;omega
     case measure=>
      have h1:=HQ.o;have h2:=HC7.o;have h3:=HF.o
      try dsimp only at h2
      rw [h1,h2];omega
    ·have hstop:=rk m hlt;have hd:decide (c2<(s2.A.grn:Int))=false:=by simpa using hlt
     have HSC:=Hz (HE2.o.trans hstop);have HLT:=Hz hlt;clear hlt hstop HQ HE2 HM2;go_wp2_with fail;refine a6 (ftq [0,1,2,4] (.pure 3 (.run 5 (.free 6 (.fin))))) [] (Fa q2) ?_
     iterate 5 refine Wz ?_
     refine aN rfl rfl (λK hK=>?_);unfold ax;go_simp;refine (rC (HC2.o.same ((Kz wr).drew)).J HC2.o.nb).mono ?_;rintro e w3 ⟨rfl,hk⟩;have HC3:=Hz (HC2.o.same ((Kz wr).drew.trans hk));have K3:=Hz (K2.o.trans (((Kz wr).drew.trans hk).mono (λ_ _ h=>h.elim)));refine hK _ _ (λ_=>HC3.o.J.cells.2.2.1) ?_;clear hK K hk q2 cl;refine Wz ?_;refine av ?_;clear HC2 K2;obtain ⟨eo,ec,hev,-,-,-⟩:=HC3.o.J.he.rd;dsimp only at hev;subst hev;have q4:=HC3.o.J.cells.2.2.2.2.1;have cl:=HC3.o.J.hc.lt
     try dsimp only at q4
     have heb:=HC3.o.ok.ms.eb;have hel:=HC3.o.ok.ms.len
     try dsimp only at heb hel
     have HEB:=Hz heb;clear heb;go_wp2_with fail;go_loopw [31] (λu wr=>∃ k:Nat,k<=s2.ep.length/\u=.int .i64 k/\aU w3 H.pa H.g wr (gE s2.A (s2.ep.take k))) (λu _=>s2.ep.length-(intOf u).toNat)
     case atStart=>exact ⟨0,Zc _,rfl,aU.refl HC3.o.J.ha (aa.refl _ _)⟩
     case round=>
      clear q4 cl;obtain ⟨k,hk,rfl,t⟩:=hrel;have T:=Hz t;have JR:=Hz (HC3.o.J.bZ t);clear t;by_cases hlt:k<s2.ep.length
      ·obtain ⟨_,_,e',rd,-,-⟩:=JR.o.he.rd;cases e';obtain ⟨ge,oe,rfl,d0⟩:=rd.int k hlt;have hgl:=(JR.o.he.own rfl).1;have hin:=HEB.o (s2.ep.getD k 0) (by rw [Ld,Le hlt];exact Ze hlt);have HTK:=Hz (show gE s2.A (s2.ep.take (k+1))=j2 (gE s2.A (s2.ep.take k)) (s2.ep.getD k 0) by
        unfold gE
        rw [<-List.take_append_getElem hlt,List.foldl_append,Ld,Le hlt];rfl)
       generalize s2.ep.getD k 0=i at *;generalize gE s2.A (s2.ep.take k)=B at *;have hi1:IntKind.i64.wrap (i+1)=i+1:=IntWalk.i64_in _ (by omega);have hi2:IntKind.i64.wrap (i+2)=i+2:=IntWalk.i64_in _ (by omega);have c0:=JR.o.cells.1;have p0:=JR.o.cells.2.2.2.2.2.1;have pl:=JR.o.hp.lt;have cl:=JR.o.hc.lt;clear rd;go_wp2_with fail;refine (eW (i+1) _ JR.o.ha).mono ?_;rintro e w4 ⟨rfl,rfl⟩;go_wp2_with fail;refine (i9 (B.load (i+1)) JR.o).mono ?_;rintro e w4 ⟨rfl,rfl⟩;clear c0 p0 pl cl d0;cases hal:aX B (B.load (i+1))
       ·have HAL:=Hz hal;clear hal;go_wp2_with fail;go_roundw
        case rel=>exact ⟨k+1,hlt,by go_num,by rw [HTK.o,j2,if_neg (by rw [HAL.o];decide)];exact T.o⟩
        case measure=>simp [intOf];omega
       ·have HAL:=Hz hal;clear hal;go_wp2_with fail;refine (nL (i+1) JR.o).mono ?_;rintro e w4 ⟨rfl,t⟩;have T4:=Hz t;have J4:=Hz (JR.o.bZ t);clear t;go_wp2_with fail;refine (nL (i+2) J4.o).mono ?_;rintro e w5 ⟨rfl,t⟩;have T5:=Hz (T.o.trans (T4.o.trans t));clear t;go_wp2_with fail;go_roundw
        case rel=>exact ⟨k+1,hlt,by go_num,by rw [HTK.o,j2,if_pos HAL.o];exact T5.o⟩
        case measure=>simp [intOf];omega
      ·obtain rfl:k=s2.ep.length:=by omega
       rw [List.take_length] at T JR;have hsm:=Sm.q7 s2.ep HC3.o.ok.ok;have C4:=Hz (show CS wr H wv2 (.slice eo s2.ep.length ec) rv qv rg ⟨{ s2 with A:=gE s2.A s2.ep },c2,d1.q⟩ from by
        obtain ⟨a,b,J4,k4,o4⟩:=HC3.o.J.ji T.o
        exact ⟨JR.o,HC3.o.S.ab k4 (λb hb hk=>HC3.o.J.cQ HC3.o.S hk hb),HC3.o.ok.bZ hsm.ok,HC3.o.q,by rw [HC3.o.nb];exact congrArg (λx:Nat=>(x:Int)) hsm.nur.symm,HC3.o.ql⟩)
       have KA:=Hz (show aa (H.Own wv2 (.slice eo s2.ep.length ec)) w3 wr from T.o.k.mono (λk _ hk=>hk.elim (λh=>.inr (.inl h)) (λh=>.inr (.inr (.inl h)))));clear T JR hsm;generalize hA2:gE s2.A s2.ep=A2 at C4;have HA2:=Hz hA2;clear hA2;have c0:=C4.o.J.cells.1;have p2:=C4.o.J.cells.2.2.2.2.2.2.2.1;have pl:=C4.o.J.hp.lt;have cl:=C4.o.J.hc.lt;go_wp2_with fail;refine a6 (ftq [0,1,2,7] (.pure 3 (.free 4 (.free 5 (.pure 6 (.run 8 (.run 9 (.swi [] (.fin))))))))) [9] (Fz c0 (Fa p2)) ?_
       iterate 8 refine Wz ?_
       refine aN rfl rfl (λK hK=>?_);unfold ax;go_simp;refine (te (C4.o.J.same ((Kz wr).drew))).mono ?_;rintro e w4 ⟨rfl,hk⟩;have C5:=Hz (C4.o.same ((Kz wr).drew.trans hk));have K5:=Hz ((Kz wr).drew.trans hk);refine hK _ _ (λ_=>⟨C5.o.J.cells.1,C5.o.J.cells.2.2.2.2.2.2.2.1⟩) ?_;clear hK K hk c0 p2 pl cl C4
       skip
       refine aD rfl rfl rfl (λK hK=>?_);unfold ax;go_simp;refine (CO H.ps (Dc H wv2 (.slice eo s2.ep.length ec) s2.wk s2.ep c2) jm (λ_ _ _=>rfl) A2 (H.Own wv2 (.slice eo s2.ep.length ec)) rv qv rg d1.q w4 (λ_ _ h _=>h) ⟨C5.o.J,rfl⟩ C5.o.S (λk hk=>C5.o.J.cQ C5.o.S hk.1 hk.2) C5.o.ql (λe he=>C5.o.q e he)).mono ?_;rintro e w6 ⟨rfl,F6,hJ6,hS6,-,hk6,-,-⟩;refine hK _ _ ?_;clear hK K;refine aC (λ_=>True) trivial (av ?_);obtain ⟨⟨A3,q3,b3⟩,hW⟩:∃ t,wakeM aX jm A2 d1.q=t:=⟨_,rfl⟩;have hsw:=Sm.fy d1.q C5.o.ok.ok;have hqw:=kx.fy d1.q (A:=A2) C5.o.q;have hlw:=l5 aX jm d1.q A2;dsimp only at hsw hqw hlw;replace hJ6:cH w6 H wv2 (.slice eo s2.ep.length ec) ⟨(wakeM aX jm A2 d1.q).1,s2.wk,s2.ep⟩ c2:=hJ6.1;replace hS6:a7 w6 H.ps rv qv rg (wakeM aX jm A2 d1.q).2.1:=hS6;replace hk6:aa (λb=>H.Own wv2 (.slice eo s2.ep.length ec) b\/aG H.ps rv qv b) w4 w6:=hk6;rw [hW] at hsw hqw hlw hJ6 hS6;dsimp only at hsw hqw hlw hJ6 hS6;have HRD:=Hz (yw HSC.o HA2.o hW);have C6:=Hz (show CS w6 H wv2 (.slice eo s2.ep.length ec) rv qv rg (bJ d1) by
        rw [HRD.o]
        exact ⟨hJ6,hS6,C5.o.ok.bZ hsw.ok,hqw,by rw [hsw.nur];exact C5.o.nb,by dsimp only;rw [hlw];exact C5.o.ql⟩)
       have T6:=Hz (show gI w H wv ev rv qv rg (bJ d1) w6 from gI.join K1.o O1.o ⟨wv2,_,C6.o,by
        have k1:aa (λk=>H.Own wv1 ev1 k\/aG H.ps rv qv k) w1 w3:=K3.o;have k2:aa (λk=>H.Own wv2 (.slice eo s2.ep.length ec) k\/aG H.ps rv qv k) w3 w6:=((KA.o.mono (λ_ _ h=>.inl h)).trans (K5.o.mono (λ_ _ h=>h.elim))).trans hk6;exact k1.then k2 (λk hk=>by
         rcases hk with hk | hk
         ·exact (O2.o k hk).imp .inl id
         ·exact .inl (.inr hk)),O2.o⟩)
       have HG:=Hz (show (bJ d1).s.A.grn=A3.grn/\(bJ d1).c=c2 by rw [HRD.o];exact ⟨rfl,rfl⟩);clear hW hsw hqw hlw hJ6 hS6 hk6 C5 K5 KA HA2 HSC HRD hel;have q2:=C6.o.J.cells.2.2.1;have cl:=C6.o.J.hc.lt;rw [HG.o.2] at q2;go_wp2_with fail;refine a6 (ftq [0,1,2,4] (.pure 3 (.run 5 (.free 6 (.free 7 (.fin)))))) [] (Fa q2) ?_
       iterate 5 refine Wz ?_
       refine aN rfl rfl (λK hK=>?_);unfold ax;go_simp;refine (rC (C6.o.same ((Kz w6).drew)).J C6.o.nb).mono ?_;rintro e w7 ⟨rfl,hk⟩;have K7:=Hz ((Kz w6).drew.trans hk);have C7:=Hz (C6.o.same K7.o);refine hK _ _ (λ_=>by have:=C7.o.J.cells.2.2.1;rw [HG.o.2] at this;exact this) ?_;clear hK K hk q2 cl;rw [HG.o.1];have T7:=Hz (show gI w H wv ev rv qv rg (bJ d1) w7 by
        obtain ⟨a,b,c,k,o⟩:=T6.o
        exact ⟨a,b,c.same K7.o,k.trans (K7.o.mono (λ_ _ h=>h.elim)),o⟩)
       have HRO:=Hz (gG.round HC1.o.ok);have HSR:=Hz (Sm.round d1 HC1.o.ok.ok).grn;have HD1:=Hz (And.intro HC1.o.ok.c1 (And.intro HC1.o.ok.ok.h3 HC1.o.ok.ok.h4));have HD2:=Hz (And.intro C7.o.ok.c1 (And.intro C7.o.ok.ok.h3 C7.o.ok.ok.h4));by_cases hmore:c2<A3.grn
       ·have hd:decide (c2<(A3.grn:Int))=true:=by simpa using hmore
        have HM:=Hz (show (bJ d1).c<(bJ d1).s.A.grn by rw [HG.o.1,HG.o.2];exact hmore);have HMU7:=Hz (nN C7.o true);clear hmore
        iterate 2 refine Wz ?_
        refine av ?_;go_wp2_with fail;go_roundw
        case rel=>
         refine .inl ⟨n-1,bJ d1,rfl,T7.o,?_,?_, .inr HM.o⟩
         ·rw [HE.o];obtain ⟨n,rfl⟩:∃ k,n=k+1:=⟨n-1,by have:=HN.o;have:=HD1.o;omega⟩;exact vC _ HM.o
         ·have h1:=HN.o;have h2:=HRO.o;have h3:=HGR.o;have h4:=HD1.o;rcases h3 with h3 | h3
          ·have:=h2.1.c0;omega
          ·have:=h2.2.2 h3;omega
        case measure=>
         have h1:=HMU.o;have h2:=HMU7.o;have h3:=HRO.o;have h4:=HSR.o;have h5:=HM.o;have h6:=HD1.o;have h7:=HD2.o;rw [h1,h2];have:=h3.2.1;by_cases hq:d1.c<d1.s.A.grn
         ·have:=h3.2.2 hq;simp only [if_true];omega
         ·simp only [if_true];omega
       ·have hd:decide (c2<(A3.grn:Int))=false:=by simpa using hmore
        have HM:=Hz (show ¬ (bJ d1).c<(bJ d1).s.A.grn by rw [HG.o.1,HG.o.2];exact hmore);have HMU7:=Hz (nN C7.o false);clear hmore
        iterate 2 refine Wz ?_
        refine av ?_;go_wp2_with fail;go_roundw
        case rel=>exact .inr ⟨rfl,by rw [HE.o,vD _ HM.o];exact T7.o⟩
        case measure=>
         have h1:=HMU.o;have h2:=HMU7.o;have h3:=HRO.o;have h4:=HSR.o;have h6:=HD1.o;have h7:=HD2.o;rw [h1,h2];have:=h3.2.1;simp only [if_true,Bool.false_eq_true,if_false];omega
  ·have HT:=Hz ht;clear ht;go_wp2_with fail;go_end0;exact ⟨rfl,HT.o⟩
end
end
section
open Go.RowKit
section
variable {w w':World} {H:CH} {wv ev rv qv:Value} {rg:List (Int × Int)} {d:Md} {s:Ms} {c:Int}
abbrev nO (w:World) (b:Nat) (H:CH):Prop:=ak w b [.pointer (some ⟨H.pc,0,none⟩)] 125
def zW (w:World) (H:CH) (e:Ending) (w':World):Prop:=
 ∃ b,e=.returned (.agg #[.func (.func 121) #[.pointer (some ⟨H.pc,0,none⟩)] #[], .func (.func 127) #[] #[.pointer (some ⟨b,0,none⟩)], .func (.func 123) #[.pointer (some ⟨H.pc,0,none⟩)] #[]]) /\
  nO w' b H/\aa (λ_=>False) w w'/\w.heap.size<=b
theorem zX (J:cH w H wv ev s c) :
  Calls Tryz.prog 79 #[.pointer (some ⟨H.pc,0,none⟩)] w (zW w H):=by
 have HJ:=Hz J;clear J;go_enter Tryz.func79,Tryz.ntmps79;go_wp2_with fail;generalize hwa:(w.alloc (.cells #[.pointer (some ⟨H.pc,0,none⟩)] 125)).alloc (.cells #[.nilFunc, .nilFunc, .nilFunc] 135)=wa;have HB:=Hz (show nO wa w.heap.size H by rw [<-hwa];exact ak.alloc (ak.newAt _ rfl rfl) _);have HR:=Hz (show ak wa (w.heap.size+1) [.nilFunc, .nilFunc, .nilFunc] 135 by rw [<-hwa];exact ak.newAt _ (by simp) rfl);have HK:=Hz (show aa (λ_=>False) w wa by rw [<-hwa];exact ((aa.refl _ _).alloc _).alloc _);clear hwa;refine (te (HJ.o.same HK.o)).mono ?_;rintro e w1 ⟨rfl,hk⟩;have HB1:=Hz (hk.au HB.o (λh=>h));have HR1:=Hz (hk.au HR.o (λh=>h));have HK1:=Hz (HK.o.trans hk);clear hk HB HR HK;unfold tE;have r0:=HR1.o.cell 0;have r1:=HR1.o.cell 1;have r2:=HR1.o.cell 2;have rl:=HR1.o.lt;have f0:=HR1.o.free 0;have f1:=HR1.o.free 1;have f2:=HR1.o.free 2;simp only [Lz,aB] at r0 r1 r2;go_wp2_with fail;have ew:=(((HR1.o.aE 0 (.func (.func 121) #[.pointer (some ⟨H.pc,0,none⟩)] #[])).aE 1 (.func (.func 127) #[] #[.pointer (some ⟨w.heap.size,0,none⟩)])).aE 2 (.func (.func 123) #[.pointer (some ⟨H.pc,0,none⟩)] #[])).alloc (.cells #[.func (.func 121) #[.pointer (some ⟨H.pc,0,none⟩)] #[], .func (.func 127) #[] #[.pointer (some ⟨w.heap.size,0,none⟩)], .func (.func 123) #[.pointer (some ⟨H.pc,0,none⟩)] #[]] 135);have hk3:=((((aa.refl (·=w.heap.size+1) w1).setCell (p:=⟨w.heap.size+1,0,none⟩) (.inl rfl) (.func (.func 121) #[.pointer (some ⟨H.pc,0,none⟩)] #[])).setCell (p:=⟨w.heap.size+1,1,none⟩) (.inl rfl) (.func (.func 127) #[] #[.pointer (some ⟨w.heap.size,0,none⟩)])).setCell (p:=⟨w.heap.size+1,2,none⟩) (.inl rfl) (.func (.func 123) #[.pointer (some ⟨H.pc,0,none⟩)] #[])).alloc (.cells #[.func (.func 121) #[.pointer (some ⟨H.pc,0,none⟩)] #[], .func (.func 127) #[] #[.pointer (some ⟨w.heap.size,0,none⟩)], .func (.func 123) #[.pointer (some ⟨H.pc,0,none⟩)] #[]] 135);have l0:=ew.cell 0;have l1:=ew.cell 1;have l2:=ew.cell 2;simp only [Lz,aB,Zu,Zv] at l0 l1 l2;refine bodyPost_ret (v:=.agg #[.func (.func 121) #[.pointer (some ⟨H.pc,0,none⟩)] #[], .func (.func 127) #[] #[.pointer (some ⟨w.heap.size,0,none⟩)], .func (.func 123) #[.pointer (some ⟨H.pc,0,none⟩)] #[]]) (by simp [results,Tryz.results79,go_sem,l0,l1,l2]) rfl ⟨w.heap.size,rfl,hk3.au HB1.o (by omega),HK1.o.then hk3 (λk hk=>.inr (by omega)),Zb _⟩
theorem yH (x:Int) (b:Nat) (C:CS w H wv ev rv qv rg d) (hb:nO w b H) :
  Calls Tryz.prog 127 #[.int .i64 x, .pointer (some ⟨b,0,none⟩)] w λe w'=>e=.returned (.int .i64 (cV (bI d.s.A x) x))/\gI w H wv ev rv qv rg (mDrain 2000 ⟨{ d.s with A:=bI d.s.A x },d.c,d.q⟩) w':=by
 have HC:=Hz C;have HB:=Hz hb;have b0:=hb.cell 0;have bl:=hb.lt;simp only [Lz] at b0;clear C hb;go_enter Tryz.func127,Tryz.ntmps127;go_wp2_with fail;refine (nK x HC.o.J).mono ?_;rintro e w1 ⟨rfl,t⟩;have hsm:=Sm.iU HC.o.ok.ok x;obtain ⟨a1,b1,J1,k1,o1⟩:=HC.o.J.ji t;have C1:=Hz (show CS w1 H wv ev rv qv rg ⟨{ d.s with A:=bI d.s.A x },d.c,d.q⟩ from
  ⟨HC.o.J.bZ t,HC.o.S.ab k1 (λb hb hk=>HC.o.J.cQ HC.o.S hk hb),HC.o.ok.bZ hsm.ok,HC.o.q,by rw [HC.o.nb];exact congrArg (λx:Nat=>(x:Int)) hsm.nur.symm,HC.o.ql⟩)
 have K1:=Hz (show aa (H.Own wv ev) w w1 from k1);have HB1:=Hz (show nO w1 b H from k1.au HB.o (λh=>by
  obtain ⟨_,T,h',hT⟩:=HC.o.J.bE h;refine HB.o.ne h' ?_ rfl
  rcases hT with rfl | rfl | rfl | rfl | rfl <;> decide))
 clear b0 bl t hsm J1 k1 o1;have b0:=HB1.o.cell 0;have bl:=HB1.o.lt;simp only [Lz] at b0;go_wp2_with fail;refine (uP C1.o).mono ?_;rintro e w2 ⟨rfl,t⟩;have T2:=Hz (gI.join (K1.o.mono (λ_ _ h=>.inl h)) (λk hk=>.inl hk) t);clear t b0 bl;go_wp2_with fail;go_ret;exact ⟨rfl,T2.o⟩
def qs (H:CH) (b:Nat):eO Tryz.prog H.ps Mt where
 J:=λw t F=>∃ wv ev,cH w H wv ev t.1 t.2/\gG t.1 t.2/\H.base=t.1.A.nur/\nO w b H/\F=λk=>H.Own wv ev k\/k=b
 D:=λ_ x=>bm x
 DK:=λ_ x=>bm x
 alive:=bQ
 ab:=gN
 now:=fB
 fa:=121
 fk:=127
 fn:=123
 a1:=#[.pointer (some ⟨H.pc,0,none⟩)]
 a2:=#[]
 k1:=#[]
 k2:=#[.pointer (some ⟨b,0,none⟩)]
 n1:=#[.pointer (some ⟨H.pc,0,none⟩)]
 n2:=#[]
 ea:=λargs w=>by kernel_rfl
 ek:=λargs w=>by kernel_rfl
 en:=λargs w=>by kernel_rfl
 J_keep:=λh k hn=>by
  obtain ⟨wv,ev,h1,h2,h3,h4,rfl⟩:=h;exact ⟨wv,ev,h1.ab k (λb hb=>hn b (.inl hb)),h2,h3,k.au h4 (hn _ (.inr rfl)),rfl⟩
 J_lt:=λh hk=>by
  obtain ⟨wv,ev,h1,h2,h3,h4,rfl⟩:=h;rcases hk with hk | rfl
  ·exact h1.aZ hk
  ·exact h4.lt
 cX:=λw t F x hJ _=>by
  obtain ⟨wv,ev,h1,-⟩:=hJ;exact (i9 x h1).mono (by rintro e w' ⟨rfl,rfl⟩;exact ⟨rfl,aa.refl _ _⟩)
 now_c:=λw t F x hJ _=>by
  obtain ⟨wv,ev,h1,-⟩:=hJ;exact (oW x h1).mono (by rintro e w' ⟨rfl,rfl⟩;exact ⟨rfl,aa.refl _ _⟩)
 keep_c:=λw t F rv qv ai wait x hJ hS hA hx hq hl=>by
  obtain ⟨wv,ev,h1,h2,h3,h4,rfl⟩:=hJ;refine (yH (d:=⟨t.1,t.2,wait⟩) x b ⟨h1,hS,h2,λe he=>hq e he,h3,hl⟩ h4).mono ?_;rintro e w' ⟨rfl,wv',ev',C',k',o'⟩;refine ⟨rfl,_,⟨wv',ev',C'.J,C'.ok,C'.nb,k'.au h4 (λh=>?_),rfl⟩,C'.S,λk hk=>?_,k'.mono (λk _ hk=>hk.elim (λh=>.inl (.inl h)) .inr),λk hk=>?_⟩
  ·rcases h with h | h
   ·obtain ⟨_,T,h',hT⟩:=h1.bE h;refine h4.ne h' ?_ rfl;rcases hT with rfl | rfl | rfl | rfl | rfl <;> decide
   ·exact hA b ⟨.inr rfl,h⟩
  ·rcases hk with ⟨hk | hk,hs⟩
   ·exact C'.J.cQ C'.S hk hs
   ·exact hA k ⟨.inr hk,hs⟩
  ·rcases hk with hk | hk
   ·exact (o' k hk).imp .inl id
   ·exact .inl (.inr hk)
 DK_D:=λh=>h
 DK_keep:=λ_ h=>h
 D_keep:=λ_ h=>h
 D_new:=λh=>iu h
 D_wait:=λ{t wait x} _ h=>kx.drain 2000 (d:=⟨{ t.1 with A:=bI t.1.A x },t.2,wait⟩) h
 keep_len:=ns _ _
theorem uQ (i:Int) (q:Bool) (b:Nat) (J:cH w H wv ev s c) (hb:nO w b H) :
  Calls Tryz.prog 128 #[.int .i64 i, .bool q, .pointer (some ⟨b,0,none⟩)] w λe w'=>e=.returned (.tuple #[])/\aU w H.pa H.g w' (gY s.A i q):=by
 have HJ:=Hz J;have HB:=Hz hb;have b0:=hb.cell 0;have bl:=hb.lt;simp only [Lz] at b0;clear J hb;obtain ⟨c0,-,-,-,-,p0,-,-,-⟩:=HJ.o.cells;have pl:=HJ.o.hp.lt;have cl:=HJ.o.hc.lt;have HD:=Hz (HJ.o.same ((Kz w).drew));cases q
 ·go_enter Tryz.func128,Tryz.ntmps128;go_wp2_with fail;refine a6 (.free 7 (.free 16 (.pure 0 (.free 1 (.free 2 (.pure 3 (.free 4 (.free 5 (ptq [6,8,9] (.free 10 (.free 11 (.pure 12 (.free 13 (.free 14 (.pure 15 (.run 17 (.run 18 (.run 19 (.swi [] (.fin)))))))))))))))))))) [19] (Fz b0 (Fz c0 (Fa p0))) ?_
  iterate 17 refine Wz ?_
  refine aN rfl rfl (λK hK=>?_);unfold ax;go_simp;refine (eW i _ HD.o.ha).mono ?_;rintro e w1 ⟨rfl,rfl⟩;refine hK _ _ (λh=>h) ?_;clear hK K;refine aN rfl rfl (λK hK=>?_);unfold ax;go_simp;refine (oW (s.A.load i) HD.o).mono ?_;rintro e w1 ⟨rfl,rfl⟩;refine hK _ _ (λh=>h) ?_;clear hK K
  skip
  refine aD rfl rfl rfl (λK hK=>?_);unfold ax;go_simp;have HR:=Hz (iu (A:=s.A) (HD.o.ha.ok.load i));refine (gR i _ _ HD.o.ha HR.o).mono ?_;rintro e w3 ⟨rfl,t⟩;have T2:=Hz (aU.aL (w:=w) ((Kz w).drew) t);clear t;refine hK _ _ ?_;clear hK K c0 p0 pl cl;refine aC (λ_=>True) trivial (av ?_);go_wp2_with fail;go_end0;exact ⟨rfl,T2.o⟩
 ·go_enter Tryz.func128,Tryz.ntmps128;go_wp2_with fail;refine a6 (.free 7 (.pure 0 (.free 1 (.free 2 (.pure 3 (.free 4 (.free 5 (.pure 6 (.run 8 (.run 9 (.swi [] (.fin)))))))))))) [9] (Fz b0 (Fz c0 (Fa p0))) ?_
  iterate 8 refine Wz ?_
  refine aN rfl rfl (λK hK=>?_);unfold ax;go_simp;refine (tL _).mono ?_;rintro e w1 ⟨rfl,rfl⟩;refine hK _ _ (λh=>h) ?_;clear hK K
  skip
  refine aD rfl rfl rfl (λK hK=>?_);unfold ax;go_simp;refine (gR i 3 _ HD.o.ha (by unfold bm;omega)).mono ?_;rintro e w3 ⟨rfl,t⟩;have T2:=Hz (aU.aL (w:=w) ((Kz w).drew) t);clear t;refine hK _ _ ?_;clear hK K c0 p0 pl cl;refine aC (λ_=>True) trivial (av ?_);go_wp2_with fail;go_end0;exact ⟨rfl,T2.o⟩
end
end
section
open Go.RowKit
def BJ (A:Ar) (i:Int):Ar:=gY A (i+1) (!aX A (A.load (i+1)))
theorem vI {A:Ar} {l:List Int} {k:Nat} (h:k<l.length):fK A (l.take (k+1))=BJ (fK A (l.take k)) (l.getD k 0):=by
 unfold fK;rw [<-List.take_append_getElem h,List.foldl_append,Ld,Le h];rfl
theorem vJ {A:Ar} {l:List Int} {k:Nat} (h:k<l.length):(l.take (k+1)).foldl db A=db ((l.take k).foldl db A) (l.getD k 0):=by
 rw [<-List.take_append_getElem h,List.foldl_append,Ld,Le h];rfl
section
variable {w w':World} {H:CH} {wv ev rv qv:Value} {rg:List (Int × Int)} {d:Md} {s:Ms} {c:Int}
theorem cH.var (J:cH w H wv ev s c) {b:Nat} (hb:nO w b H) {A:Ar} (t:aU w H.pa H.g w' A):nO w' b H:=t.k.au hb (λh=>by
 rcases h with h | h
 ·exact hb.ne J.ha.hp (by decide) h
 ·exact hb.ne J.ha.hg (by decide) h)
theorem BK (J:cH w H wv ev s c) (hs:kC s 100000) :
  Calls Tryz.prog 80 #[.pointer (some ⟨H.pc,0,none⟩)] w λe w'=>e=.returned (.tuple #[])/\aU w H.pa H.g w' (j3 s):=by
 obtain ⟨wo,wc,hwv,-,-,-⟩:=J.hw.rd;obtain ⟨eo,ec,hev,-,-,-⟩:=J.he.rd;subst hwv;subst hev;have HJ0:=Hz J;have hwb:=hs.wb;have heb:=hs.eb;have hl:=hs.len;have HWB:=Hz hwb;have HEB:=Hz heb;clear J hwb heb hs;generalize hwx:w.alloc (.cells #[.pointer (some ⟨H.pc,0,none⟩)] 125)=wx;have HK:=Hz (show aa (λ_=>False) w wx by rw [<-hwx];exact (aa.refl _ _).alloc _);have HB:=Hz (show nO wx w.heap.size H by rw [<-hwx];exact ak.newAt _ rfl rfl);have HX:=Hz hwx;have HJ:=Hz (HJ0.o.same HK.o);clear hwx;have q3:=HJ0.o.cells.2.2.2.1;have cl:=HJ0.o.hc.lt;go_enter Tryz.func80,Tryz.ntmps80;go_wp2_with fail;rw [HX.o];go_loopw [14] (λu wr=>∃ k:Nat,k<=s.wk.length/\u=.int .i64 k/\aU wx H.pa H.g wr (fK s.A (s.wk.take k))) (λu _=>s.wk.length-(intOf u).toNat)
 case atStart=>exact ⟨0,Zc _,rfl,aU.refl HJ.o.ha (aa.refl _ _)⟩
 case round=>
  clear q3 cl;obtain ⟨k,hk,rfl,t⟩:=hrel;have T:=Hz t;have JR:=Hz (HJ.o.bZ t);have BR:=Hz (HJ.o.var HB.o t);clear t;have b0:=BR.o.cell 0;have bl:=BR.o.lt;simp only [Lz] at b0;have c0:=JR.o.cells.1;have p0:=JR.o.cells.2.2.2.2.2.1;have pl:=JR.o.hp.lt;have cl:=JR.o.hc.lt;by_cases hlt:k<s.wk.length
  ·obtain ⟨_,_,e',rd,-,-⟩:=JR.o.hw.rd;cases e';obtain ⟨ge,oe,rfl,d0⟩:=rd.int k hlt;have hgl:=(JR.o.hw.own rfl).1;have hin:=HWB.o (s.wk.getD k 0) (by rw [Ld,Le hlt];exact Ze hlt);have HTK:=Hz (vI (A:=s.A) hlt);generalize s.wk.getD k 0=i at *;generalize fK s.A (s.wk.take k)=B at *;have hi1:IntKind.i64.wrap (i+1)=i+1:=IntWalk.i64_in _ (by omega);clear rd;go_wp2_with fail;have JD:=Hz (JR.o.same ((Kz wr).drew));have BD:=Hz (((Kz wr).drew).au BR.o (λh=>h));refine a6 (ftq [0,1,2,11,12] (.pure 3 (.pure 4 (.free 5 (.free 6 (.pure 7 (.free 8 (.free 9 (.pure 10 (.run 13 (.run 14 (.swi [16] (.free 15 (.run 16 (.swi [] (.fin)))))))))))))))) [14,15,16] (Fz b0 (Fz c0 (Fa p0))) ?_
   iterate 13 refine Wz ?_
   refine aN rfl rfl (λK hK=>?_);unfold ax;go_simp;refine (eW (i+1) _ JD.o.ha).mono ?_;rintro e w1 ⟨rfl,rfl⟩;refine hK _ _ (λh=>h) ?_;clear hK K;refine aD rfl rfl rfl (λK hK=>?_);unfold ax;go_simp;refine (i9 (B.load (i+1)) JD.o).mono ?_;rintro e w1 ⟨rfl,rfl⟩;refine hK _ _ ?_;clear hK K;refine aC (λ_=>True) trivial ?_;refine Wz ?_;refine aD rfl rfl rfl (λK hK=>?_);unfold ax;go_simp;refine (uQ (i+1) (!aX B (B.load (i+1))) w.heap.size JD.o BD.o).mono ?_;rintro e w2 ⟨rfl,t⟩;have T2:=Hz (T.o.trans (aU.aL ((Kz wr).drew) t));clear t;refine hK _ _ ?_;clear hK K;refine aC (λ_=>True) trivial (av ?_);clear b0 bl c0 p0 pl cl d0;go_wp2_with fail;go_roundw
   case rel=>exact ⟨k+1,hlt,by go_num,by rw [HTK.o];exact T2.o⟩
   case measure=>simp [intOf];omega
  ·obtain rfl:k=s.wk.length:=by omega
   rw [List.take_length] at T JR;have HW0:=Hz (show j3 s=s.ep.foldl db (fK s.A s.wk) from rfl);generalize fK s.A s.wk=B at *;obtain ⟨w1,rfl⟩:∃ x:World,x=wr:=⟨wr,rfl⟩;have q4:=JR.o.cells.2.2.2.2.1
   try dsimp only at q4
   go_wp2_with fail;go_loopw [41] (λu wr=>∃ k:Nat,k<=s.ep.length/\u=.int .i64 k/\aU w1 H.pa H.g wr ((s.ep.take k).foldl db B)) (λu _=>s.ep.length-(intOf u).toNat)
   case atStart=>exact ⟨0,Zc _,rfl,aU.refl JR.o.ha (aa.refl _ _)⟩
   case round=>
    clear b0 bl c0 p0 pl cl q4;obtain ⟨k,hk,rfl,t⟩:=hrel;have T4:=Hz t;have JQ:=Hz (JR.o.bZ t);have BQ:=Hz (JR.o.var BR.o t);clear t;have b0:=BQ.o.cell 0;have bl:=BQ.o.lt;simp only [Lz] at b0;have c0:=JQ.o.cells.1;have p0:=JQ.o.cells.2.2.2.2.2.1;have pl:=JQ.o.hp.lt;have cl:=JQ.o.hc.lt;by_cases hlt2:k<s.ep.length
    ·obtain ⟨_,_,e',rd,-,-⟩:=JQ.o.he.rd;cases e';obtain ⟨ge,oe,rfl,d0⟩:=rd.int k hlt2;have hgl:=(JQ.o.he.own rfl).1;have hin:=HEB.o (s.ep.getD k 0) (by rw [Ld,Le hlt2];exact Ze hlt2);have HTK:=Hz (vJ (A:=B) hlt2);generalize s.ep.getD k 0=i at *;generalize (s.ep.take k).foldl db B=D at *;have hi1:IntKind.i64.wrap (i+1)=i+1:=IntWalk.i64_in _ (by omega);have hi2:IntKind.i64.wrap (i+2)=i+2:=IntWalk.i64_in _ (by omega);clear rd;go_wp2_with fail;have JD:=Hz (JQ.o.same ((Kz wr).drew));have BD:=Hz (((Kz wr).drew).au BQ.o (λh=>h));refine a6 (.free 8 (.free 9 (.pure 0 (.pure 1 (.free 2 (.free 3 (.pure 4 (.free 5 (.free 6 (.pure 7 (.run 10 (.run 11 (.swi [] (.free 12 (.free 13 (.fin)))))))))))))))) [11,12,13] (Fz b0 (Fz c0 (Fa p0))) ?_
     iterate 10 refine Wz ?_
     refine aN rfl rfl (λK hK=>?_);unfold ax;go_simp;refine (eW (i+1) _ JD.o.ha).mono ?_;rintro e w2 ⟨rfl,rfl⟩;refine hK _ _ (λh=>h) ?_;clear hK K;refine aD rfl rfl rfl (λK hK=>?_);unfold ax;go_simp;refine (i9 (D.load (i+1)) JD.o).mono ?_;rintro e w2 ⟨rfl,rfl⟩;refine hK _ _ ?_;clear hK K;refine aC (λ_=>True) trivial ?_
     iterate 2 refine Wz ?_
     refine av ?_;clear b0 bl c0 p0 pl cl d0;generalize hdd:(!aX D (D.load (i+1)))=dd;have HDD:=Hz hdd;clear hdd;go_wp2_with fail;refine (uQ (i+1) dd w.heap.size JD.o BD.o).mono ?_;rintro e w3 ⟨rfl,t⟩;have T3:=Hz (T4.o.trans (aU.aL ((Kz wr).drew) t));have J3:=Hz (JD.o.bZ t);have B3:=Hz (JD.o.var BD.o t);clear t;go_wp2_with fail;refine (uQ (i+2) dd w.heap.size J3.o B3.o).mono ?_;rintro e w4 ⟨rfl,t⟩;have T5:=Hz (T3.o.trans t);clear t;go_wp2_with fail;go_roundw
     case rel=>exact ⟨k+1,hlt2,by go_num,by rw [HTK.o,db,HDD.o];exact T5.o⟩
     case measure=>simp [intOf];omega
    ·obtain rfl:k=s.ep.length:=by omega
     rw [List.take_length,<-HW0.o] at T4;have T6:=Hz (aU.aL HK.o (T.o.trans T4.o));clear T4 JQ BQ;go_wp2_with fail;go_end0;exact ⟨rfl,T6.o⟩
end
end
section
open Go.RowKit
theorem pP:∀ (l:List Int) (A:Ar) (x:Int),mRoots A (l ++ [x])=(bI (mRoots A l).1 x,(mRoots A l).2 ++ [cV (bI (mRoots A l).1 x) x])
 | [],A,x=>rfl
 | y :: l,A,x=>by
  show ((mRoots (bI A y) (l ++ [x])).1,cV (bI A y) y :: (mRoots (bI A y) (l ++ [x])).2)=_
  rw [pP l]
  rfl
theorem kX:∀ (l:List Int) (A:Ar),(mRoots A l).2.length=l.length
 | [],A=>rfl
 | y :: l,A=>by
  show (cV (bI A y) y :: (mRoots (bI A y) l).2).length=_
  rw [List.length_cons,kX l,List.length_cons]
def iC (A:Ar) (rt:List Int) (k:Nat):List Int:=(mRoots A (rt.take k)).2 ++ rt.drop k
theorem xE {A:Ar} {rt:List Int} {k:Nat} (h:k<=rt.length):(iC A rt k).length=rt.length:=by
 unfold iC;rw [Zq,kX,Zx,List.length_drop];omega
theorem xF {A:Ar} {rt:List Int} {k:Nat} (h:k<rt.length):(iC A rt k).getD k 0=rt.getD k 0:=by
 unfold iC;have hl:(mRoots A (rt.take k)).2.length=k:=by rw [kX,Zx];omega
 rw [Ld,List.getElem?_append_right (by omega),hl,Nat.sub_self,List.getElem?_drop,Nat.add_zero,Ld]
theorem vK {A:Ar} {rt:List Int} {k:Nat} (h:k<rt.length):(mRoots A (rt.take (k+1))).1=bI (mRoots A (rt.take k)).1 (rt.getD k 0) /\
  (iC A rt k).set k (cV (bI (mRoots A (rt.take k)).1 (rt.getD k 0)) (rt.getD k 0))=iC A rt (k+1):=by
 have e:rt.getD k 0=rt[k]:=by rw [Ld,Le h];rfl
 have hs:=pP (rt.take k) A (rt[k]);rw [List.take_append_getElem h] at hs;have hl:(mRoots A (rt.take k)).2.length=k:=by rw [kX,Zx];omega
 rw [e];refine ⟨by rw [hs],?_⟩;unfold iC;rw [hs,List.set_append_right _ _ (by omega),hl,Nat.sub_self,List.drop_eq_getElem_cons h,Zu,List.append_assoc]
 rfl
structure MC (w0:World) (h:WH) (w:World) (pc:Nat) (n0:Int) (wv ev rv qv:Value) (cd:List Bool) (rt:List Int) (rg:List (Int × Int)) (d:Md):Prop where
 C:CS w ⟨h.p,h.pa,h.g,h.pc,h.ps,h.ro,pc,n0⟩ wv ev rv qv rg d
 hc:cU w h.pc h.cb n0 cd
 hr:Sl w 2 1 h.ro rt.length (rt.map (Value.int .i64))
 ap:¬ aq h.ro h.g
 K:aa h.Own w0 w
 own:∀ k,((CH.mk h.p h.pa h.g h.pc h.ps h.ro pc n0).Own wv ev k\/aG h.ps rv qv k)->h.Own k\/w0.heap.size<=k
section
variable {w0 w w':World} {h:WH} {pc:Nat} {n0:Int} {wv ev rv qv:Value} {cd:List Bool} {rt:List Int} {rg:List (Int × Int)} {d d':Md}
theorem MC.type (M:MC w0 h w pc n0 wv ev rv qv cd rt rg d) {b:Nat} {l:List Value} {T:TypeId} (hb:ak w b l T) (h1:T≠75/\T≠162/\T≠2/\T≠127/\T≠3/\T≠84/\T≠119) :
  ¬ ((CH.mk h.p h.pa h.g h.pc h.ps h.ro pc n0).Own wv ev b\/aG h.ps rv qv b):=by
 rintro (hk | hk)
 ·obtain ⟨_,U,h',hU⟩:=M.C.J.bE hk;refine hb.ne h' ?_ rfl;rcases hU with rfl | rfl | rfl | rfl | rfl
  ·exact h1.1
  ·exact h1.2.1
  ·exact h1.2.2.1
  ·exact h1.2.2.2.1
  ·exact h1.2.2.2.2.1
 ·obtain ⟨_,U,h',hU⟩:=M.C.S.cM hk;refine hb.ne h' ?_ rfl;rcases hU with rfl | rfl
  ·exact h1.2.2.2.2.2.1
  ·exact h1.2.2.2.2.2.2
theorem MC.nP (M:MC w0 h w pc n0 wv ev rv qv cd rt rg d) {b:Nat} (hb:aq h.ro b):¬ ((CH.mk h.p h.pa h.g h.pc h.ps h.ro pc n0).Own wv ev b\/aG h.ps rv qv b):=by
 obtain ⟨_,l,hbl⟩:=M.hr.own hb;rintro ((hk | hk | hk | hk | hk | hk) | hk)
 ·exact hbl.ne M.C.J.hp (by decide) hk
 ·exact hbl.ne M.C.J.ha.hp (by decide) hk
 ·subst hk;exact M.ap hb
 ·exact hbl.ne M.C.J.hc (by decide) hk
 ·obtain ⟨_,l',h'⟩:=M.C.J.hw.own hk;exact hbl.ne h' (by decide) rfl
 ·obtain ⟨_,l',h'⟩:=M.C.J.he.own hk;exact hbl.ne h' (by decide) rfl
 ·obtain ⟨_,U,h',hU⟩:=M.C.S.cM hk;refine hbl.ne h' ?_ rfl;rcases hU with rfl | rfl <;> decide
theorem MC.step (M:MC w0 h w pc n0 wv ev rv qv cd rt rg d) (t:gI w ⟨h.p,h.pa,h.g,h.pc,h.ps,h.ro,pc,n0⟩ wv ev rv qv rg d' w'):∃ wv' ev',MC w0 h w' pc n0 wv' ev' rv qv cd rt rg d'/\∀ k,(CH.mk h.p h.pa h.g h.pc h.ps h.ro pc n0).Own wv' ev' k->(CH.mk h.p h.pa h.g h.pc h.ps h.ro pc n0).Own wv ev k\/w.heap.size<=k:=by
 obtain ⟨a,b,C',k,o⟩:=t;refine ⟨a,b,⟨C',M.hc.ab k (M.type M.hc.hp (by decide)) (M.type M.hc.hq (by decide)),M.hr.ab k (λb hb=>M.nP hb),M.ap,M.K.then k (λk hk=>M.own k hk),λk hk=>?_⟩,o⟩;rcases hk with hk | hk
 ·rcases o k hk with h1 | h1
  ·exact M.own k (.inl h1)
  ·exact .inr (Za M.K.size h1)
 ·exact M.own k (.inr hk)
theorem MC.same (M:MC w0 h w pc n0 wv ev rv qv cd rt rg d) (k:aa (λ_=>False) w w'):MC w0 h w' pc n0 wv ev rv qv cd rt rg d:=
 ⟨M.C.same k,M.hc.ab k (λh=>h) (λh=>h),M.hr.ab k (λ_ _ h=>h),M.ap,M.K.trans (k.mono λ_ _ h=>h.elim),M.own⟩
def nQ (h:WH) (pc:Nat) (n0:Int) (sz:Nat) (wv ev:Value):Prop:=∀ k,(CH.mk h.p h.pa h.g h.pc h.ps h.ro pc n0).Own wv ev k->(k=h.p\/k=h.pa\/k=h.g\/k=pc)\/sz<=k
theorem nQ.nil (h:WH) (pc:Nat) (n0:Int) (sz:Nat):nQ h pc n0 sz (.slice none 0 0) (.slice none 0 0):=by
 rintro k (h | h | h | h | h | h)
 ·exact .inl (.inl h)
 ·exact .inl (.inr (.inl h))
 ·exact .inl (.inr (.inr (.inl h)))
 ·exact .inl (.inr (.inr (.inr h)))
 ·exact (b9 h).elim
 ·exact (b9 h).elim
theorem nQ.step {sz:Nat} {wv' ev':Value} (hI:nQ h pc n0 sz wv ev) (o:∀ k,(CH.mk h.p h.pa h.g h.pc h.ps h.ro pc n0).Own wv' ev' k->(CH.mk h.p h.pa h.g h.pc h.ps h.ro pc n0).Own wv ev k\/w.heap.size<=k) (hsz:sz<=w.heap.size):nQ h pc n0 sz wv' ev':=λk hk=>by
 rcases o k hk with h1 | h1
 ·exact hI k h1
 ·exact .inr (Za hsz h1)
theorem MC.rE (M:MC w0 h w pc n0 wv ev rv qv cd rt rg d) {sz n:Nat} {v:Value} {xs:List Value} (hI:nQ h pc n0 sz wv ev) (hs:Sl w 3 1 v n xs) (hlt:∀ b,aq v b->b<sz) {b:Nat} (hb:aq v b) :
  ¬ ((CH.mk h.p h.pa h.g h.pc h.ps h.ro pc n0).Own wv ev b\/aG h.ps rv qv b):=by
 obtain ⟨_,l,h'⟩:=hs.own hb;rintro (hk | hk)
 ·rcases hI b hk with (h1 | h1 | h1 | h1) | h1
  ·exact h'.ne M.C.J.hp (by decide) h1
  ·exact h'.ne M.C.J.ha.hp (by decide) h1
  ·exact h'.ne M.C.J.ha.hg (by decide) h1
  ·exact h'.ne M.C.J.hc (by decide) h1
  ·have:=hlt b hb;omega
 ·obtain ⟨_,U,h2,hU⟩:=M.C.S.cM hk;refine h'.ne h2 ?_ rfl;rcases hU with rfl | rfl <;> decide
theorem MC.root (M:MC w0 h w pc n0 wv ev rv qv cd rt rg d) {g o cap k:Nat} {x:Int} (e:h.ro=.slice (some ⟨g,o,none⟩) rt.length cap) (hk:k<rt.length) :
  MC w0 h (w.setCell ⟨g,o+k,none⟩ (.int .i64 x)) pc n0 wv ev rv qv cd (rt.set k x) rg d:=by
 have hown:aq h.ro g:=by rw [e];rfl
 have kk:aa (aq h.ro) w (w.setCell ⟨g,o+k,none⟩ (.int .i64 x)):=(aa.refl _ _).setCell (p:=⟨g,o+k,none⟩) (.inl hown) _;have ne:∀ {b:Nat} {c:List Value} {T:TypeId},ak w b c T->T≠2->¬ aq h.ro b:=λhb h1 hf=>by
  obtain ⟨_,c',hc⟩:=M.hr.own hf;exact hb.ne hc h1 rfl
 refine ⟨M.C.ab kk (λb hb ho=>M.nP ho (.inl hb)) (λb hb ho=>M.nP ho (.inr hb)),M.hc.ab kk (ne M.hc.hp (by decide)) (ne M.hc.hq (by decide)),?_,M.ap,M.K.trans (kk.mono (λk _ hk=>.inr (.inr (.inr (.inr hk))))),M.own⟩;have hs:=M.hr;rw [e] at hs ⊢;have:=hs.set (j:=k) (u:=.int .i64 x) (by omega);rw [List.length_set,List.map_set];exact this
theorem MC.gz (M:MC w0 h w pc n0 wv ev rv qv cd rt rg d) (h12:rt.length=12):∃ g o cap,h.ro=.slice (some ⟨g,o,none⟩) 12 cap/\g<w.heap.size/\(∀ k,w.frozen? ⟨g,k,none⟩=false)/\∀ k,k<rt.length->w.cell? ⟨g,o+k,none⟩=some (.int .i64 (rt.getD k 0)):=by
 obtain ⟨ao,cap,e,hrd,-,-⟩:=M.hr.rd;obtain ⟨g,o,rfl,hg,hc⟩:=hrd (by intro e;have:=congrArg List.length e;rw [Zp,h12] at this;cases this);have hown:aq h.ro g:=by rw [e];rfl
 obtain ⟨-,cur,hb⟩:=M.hr.own hown;refine ⟨g,o,cap,by rw [e,h12],hg,λk=>hb.free k,λk hk=>?_⟩;rw [hc k (by simpa using hk)];simp [List.getD,hk]
structure ME (w0:World) (h:WH) (w:World) (pc:Nat) (n0:Int) (wv ev rv qv:Value) (cd:List Bool) (rt:List Int) (rg wt:List (Int × Int)) (s:Ms) (c:Int):Prop where
 J:cH w ⟨h.p,h.pa,h.g,h.pc,h.ps,h.ro,pc,n0⟩ wv ev s c
 S:a7 w h.ps rv qv rg wt
 hc:cU w h.pc h.cb n0 cd
 hr:Sl w 2 1 h.ro rt.length (rt.map (Value.int .i64))
 ap:¬ aq h.ro h.g
 K:aa h.Own w0 w
 own:∀ k,aG h.ps rv qv k->h.Own k\/w0.heap.size<=k
theorem ME.bZ {wt:List (Int × Int)} {s:Ms} {c:Int} {A:Ar} (M:ME w0 h w pc n0 wv ev rv qv cd rt rg wt s c) (t:aU w h.pa h.g w' A):ME w0 h w' pc n0 wv ev rv qv cd rt rg wt { s with A:=A } c:=by
 have n1:∀ {b:Nat} {c:List Value} {T:TypeId},ak w b c T->T≠162->T≠2->¬ (b=h.pa\/b=h.g):=λhb h1 h2 e=>by
  rcases e with e | e
  ·exact hb.ne M.J.ha.hp h1 e
  ·exact hb.ne M.J.ha.hg h2 e
 refine ⟨M.J.bZ t,M.S.ab t.k (λb hb=>?_),M.hc.ab t.k (n1 M.hc.hp (by decide) (by decide)) (n1 M.hc.hq (by decide) (by decide)),M.hr.ab t.k (λb hb=>?_),M.ap,M.K.trans (t.k.mono (λk _ hk=>.inr (.inl hk))),M.own⟩
 ·obtain ⟨c,T,hc,hT⟩:=M.S.cM hb;rcases hT with rfl | rfl
  ·exact n1 hc (by decide) (by decide)
  ·exact n1 hc (by decide) (by decide)
 ·obtain ⟨_,l,hb'⟩:=M.hr.own hb;rintro (rfl | rfl)
  ·exact hb'.ne M.J.ha.hp (by decide) rfl
  ·exact M.ap hb
theorem ME.cards {wt:List (Int × Int)} {s:Ms} {c:Int} {l:List Bool} (M:ME w0 h w pc n0 wv ev rv qv cd rt rg wt s c) (t:cU w' h.pc h.cb n0 l) (k:aa (·=h.cb) w w'):ME w0 h w' pc n0 wv ev rv qv l rt rg wt s c:=by
 have n1:∀ {b:Nat} {c:List Value} {T:TypeId},ak w b c T->T≠4->¬ (b=h.cb):=λhb h1 e=>hb.ne M.hc.hq h1 e;refine ⟨M.J.ab k (λb hb=>?_),M.S.ab k (λb hb=>?_),t,M.hr.ab k (λb hb=>?_),M.ap,M.K.trans (k.mono (λk _ hk=>.inr (.inr (.inl (.inr hk))))),M.own⟩
 ·obtain ⟨_,T,hc,hT⟩:=M.J.bE hb;refine n1 hc ?_;rcases hT with rfl | rfl | rfl | rfl | rfl <;> decide
 ·obtain ⟨c,T,hc,hT⟩:=M.S.cM hb;refine n1 hc ?_;rcases hT with rfl | rfl <;> decide
 ·obtain ⟨_,l,hb'⟩:=M.hr.own hb;exact n1 hb' (by decide)
theorem ME.done {wt:List (Int × Int)} {s:Ms} {c:Int} (M:ME w0 h w pc n0 wv ev rv qv cd rt rg wt s c) (hn:n0=s.A.nur) (hok:(Wo.mk s.A cd rt rg wt).ok):gd w0 h w ⟨s.A,cd,rt,rg,wt⟩:=by
 refine ⟨⟨h.p,h.pa,h.g,h.pc,h.cb,h.ps,rv,qv,h.ro⟩,⟨M.J.hp,M.J.ha,by dsimp only;rw [<-hn];exact M.hc,M.S,M.hr,M.ap,hok⟩,rfl,M.K,?_⟩;rintro k (hk | hk | hk | hk | hk)
 ·exact .inl (.inl hk)
 ·exact .inl (.inr (.inl hk))
 ·exact .inl (.inr (.inr (.inl hk)))
 ·exact M.own k hk
 ·exact .inl (.inr (.inr (.inr (.inr hk))))
end
theorem pQ (A:Ar):∀ (n:Nat) (i j:Int), ∀ p ∈ A.list n i j,i<=p/\p<j
 | 0,i,j,p,h=>by unfold Ar.list at h;cases h
 | n+1,i,j,p,h=>by
  unfold Ar.list at h;split at h
  ·split at h
   ·rename_i h1 h2;have hf:=A.aQ i;rcases Zm.1 h with rfl | h
    ·omega
    ·have:=pQ A n _ _ p h;omega
   ·cases h
  ·cases h
theorem Sm.AH {A:Ar}:∀ (l:List Int) {B:Ar},Sm A B->Sm A (fK B l)
 | [],B,h=>h
 | i :: l,B,h=>Sm.AH l (h.trans (Sm.fix h.ok (i+1) _))
theorem Sm.AJ {A:Ar}:∀ (l:List Int) {B:Ar},Sm A B->Sm A (l.foldl db B)
 | [],B,h=>h
 | i :: l,B,h=>Sm.AJ l ((h.trans (Sm.fix h.ok (i+1) _)).trans (Sm.fix (Sm.fix h.ok (i+1) _).ok (i+2) _))
theorem Sm.gone {s:Ms} (h:s.A.ok):Sm s.A (j3 s):=Sm.AJ s.ep (Sm.AH s.wk (Sm.refl h))
theorem vL {base:Int} {cd:List Bool} {s:Ms} {l:List Int} {k:Nat} (h:k<l.length):eK base cd s (l.take (k+1))=if du base cd (l.getD k 0)=true then eD (eK base cd s (l.take k)) (l.getD k 0) else eK base cd s (l.take k):=by
 unfold eK;rw [<-List.take_append_getElem h,List.foldl_append,Ld,Le h];rfl
end
section
open Go.RowKit
def zY (w:World) (h:WH) (O:Wo) (e:Ending) (w':World):Prop:=e=.returned (.int .i64 (ir O).1)/\gd w h w' (ir O).2
section
variable {w w':World} {h:WH} {O:Wo}
theorem rF {W:Wd} {φ:Int->Int} (R:aI O W φ) (H:bh w h O) :
  Calls Tryz.prog 37 #[.pointer (some ⟨h.p,0,none⟩)] w (zY w h O):=by
 have HH:=Hz H;have hok:=H.ok;obtain ⟨p0,p1,p2,p3⟩:=H.eJ;have pl:=H.hp.lt;have o1:=hok.ha.h1;have o2:=hok.ha.h2;have o3:=hok.ha.h3;have o4:=hok.ha.h4;have HR:=Hz R;clear H R;have HOK:=Hz hok;clear hok;go_enter Tryz.func37,Tryz.ntmps37;go_wp2_with fail;refine (mF w HH.o.ha).mono ?_;rintro e w1 ⟨rfl,hk⟩;have H1:=Hz (HH.o.ab hk (λ_ _ h=>h));have K1:=Hz hk;clear p0 p1 p2 p3 pl hk;obtain ⟨p0,p1,p2,p3⟩:=H1.o.eJ;have pl:=H1.o.hp.lt;go_wp2_with fail;refine (kj w1 H1.o.ha).mono ?_;rintro e w2 ⟨rfl,hk⟩;have H2:=Hz (H1.o.ab hk (λ_ _ h=>h));have K2:=Hz (K1.o.trans hk);clear p0 p1 p2 p3 pl hk H1 K1;by_cases hfull:(O.ar.yng:Int) > (O.ar.ws.length:Int)-O.ar.grn
 ·have HE:=Hz (show ir O=(3,O) by unfold ir;rw [if_pos hfull]);have hd:decide (((O.ar.ws.length-O.ar.grn:Nat):Int)<(O.ar.yng:Int))=true:=by simp;omega
  have hd2:decide (O.ar.ws.length-O.ar.grn<O.ar.yng)=true:=by simp;omega
  clear hfull;go_wp2_with fail;go_ret;refine ⟨by rw [HE.o];rfl,?_⟩;rw [HE.o];exact gd.same HH.o K2.o
 ·have hd:decide (((O.ar.ws.length-O.ar.grn:Nat):Int)<(O.ar.yng:Int))=false:=by simp;omega
  have hd2:decide (O.ar.ws.length-O.ar.grn<O.ar.yng)=false:=by simp;omega
  have HF:=Hz hfull;clear hfull;obtain ⟨p0,p1,p2,p3⟩:=H2.o.eJ;have pl:=H2.o.hp.lt;go_wp2_with fail;clear hd hd2;refine (tO w2 H2.o.ha).mono ?_;rintro e w3 ⟨rfl,hk⟩;have H3:=Hz (H2.o.ab hk (λ_ _ h=>h));have K3:=Hz (K2.o.trans hk);clear p0 p1 p2 p3 pl hk H2 K2;obtain ⟨p0,p1,p2,p3⟩:=H3.o.eJ;have pl:=H3.o.hp.lt;go_wp2_with fail;generalize hwb:w3.alloc (.cells #[.pointer (some ⟨h.p,0,none⟩), .int .i64 O.ar.nur, .int .i64 0, .slice none 0 0, .slice none 0 0] 127)=wb;have KB:=Hz (show aa (λ_=>False) w3 wb by rw [<-hwb];exact (aa.refl _ _).alloc _);have HB:=Hz (show ak wb w3.heap.size [.pointer (some ⟨h.p,0,none⟩), .int .i64 O.ar.nur, .int .i64 0, .slice none 0 0, .slice none 0 0] 127 by rw [<-hwb];exact ak.newAt _ rfl rfl);have MB:=Hz (show MC w h wb w3.heap.size O.ar.nur (.slice none 0 0) (.slice none 0 0) h.rv h.wv O.cd O.rt O.rg ⟨⟨O.ar,[],[]⟩,0,O.wt⟩ by
   have HBW:=H3.o.ab KB.o (λ_ _ h=>h);have hok:=HOK.o;refine ⟨⟨⟨HBW.hp,HBW.ha,HB.o,Sl.nil _ _ _,Sl.nil _ _ _,λk hk=>b9 hk.1⟩,HBW.hs,⟨hok.ha,⟨by simp,(λi hi=>by cases hi),(λi hi=>by cases hi)⟩,by show (0:Int)<=0;omega,by show (0:Int)<=1300;omega⟩,λe he=>hok.hw e he,rfl,by have:=hok.hq;dsimp only;omega⟩,HBW.hc,HBW.hr,HBW.ap,(K3.o.trans KB.o).mono (λ_ _ h=>h.elim),?_⟩;rintro k ((rfl | rfl | rfl | rfl | hk | hk) | hk)
   ·exact .inl (.inl rfl)
   ·exact .inl (.inr (.inl (.inl rfl)))
   ·exact .inl (.inr (.inl (.inr rfl)))
   ·exact .inr K3.o.size
   ·exact (b9 hk).elim
   ·exact (b9 hk).elim
   ·exact .inl (.inr (.inr (.inr (.inl hk)))))
  clear hwb p0 p1 p2 p3 pl H3 HB KB;generalize w3.heap.size=pc at *;go_wp2_with fail;refine (pY wb MB.o.C.J.ha).mono ?_;rintro e w4 ⟨ao,ac,bo,bc,rfl,-,hls,hk,-,hlo⟩;have M4:=Hz (MB.o.same hk);have HLS:=Hz hls;have HLO:=Hz hlo;have HLT:=Hz (λb hb=>(hls.own (k:=b) hb).1);clear hls hlo hk;have cl:=M4.o.C.J.hc.lt;go_wp2_with fail;refine (rC M4.o.C.J M4.o.C.nb).mono ?_;rintro e w5 ⟨rfl,hk⟩;have HSZ5:=Hz hk.size;have M5:=Hz (M4.o.same hk);have HLS5:=Hz (HLS.o.ab hk (λ_ _ h=>h));clear hk cl HLS;have q2:=M5.o.C.J.cells.2.2.1;have cl:=M5.o.C.J.hc.lt;have fz:=M5.o.C.J.hc.free 2;have q3:=M5.o.C.J.cells.2.2.2.2.2.2.2.2;have pl:=M5.o.C.J.hp.lt;dsimp only at q2 q3;obtain ⟨gr,og,rcap,ero,-,-,-⟩:=M5.o.gz HOK.o.h12;have HRO:=Hz ero;rw [ero] at q3;clear ero;have HA5:=Hz M5.o.C.ok.ok;have hsto:=(M5.o.C.J.Db (O.ar.grn:Int));obtain ⟨wv6,ev6,M6',o6⟩:=M5.o.step (M5.o.C.cut hsto ⟨M5.o.C.ok.ok,M5.o.C.ok.ms.more (by dsimp only;omega),by omega,by omega⟩ rfl);have M6:=Hz M6';have HI6:=Hz ((nQ.nil h pc O.ar.nur w4.heap.size).step o6 HSZ5.o);have HLS6:=Hz (HLS5.o.ab ((aa.refl (·=pc) w5).setCell (p:=⟨pc,2,none⟩) (.inl rfl) (.int .i64 (O.ar.grn:Int))) (λb hb e=>by
   obtain ⟨_,l,h'⟩:=HLS5.o.own hb
   exact h'.ne M5.o.C.J.hc (by decide) e))
  clear M6' hsto o6;dsimp only at M6 HLS6;go_wp2_with fail;have HSZ6:=Hz (show w5.heap.size<=(w5.setCell ⟨pc,2,none⟩ (.int .i64 (O.ar.grn:Int))).heap.size by simp);generalize w5.setCell ⟨pc,2,none⟩ (.int .i64 (O.ar.grn:Int))=w6 at *;clear M5 HLS5 q2 q3 cl fz pl MB M4;go_loopw [65] (λu wr=>∃ k:Nat,k<=12/\u=.int .i64 k/\∃ wv ev,MC w h wr pc O.ar.nur wv ev h.rv h.wv O.cd (iC O.ar O.rt k) O.rg ⟨⟨(mRoots O.ar (O.rt.take k)).1,[],[]⟩,O.ar.grn,O.wt⟩/\nQ h pc O.ar.nur w4.heap.size wv ev/\w4.heap.size<=wr.heap.size/\Sl wr 3 1 (.slice bo O.ar.aO.2.length bc) O.ar.aO.2.length (O.ar.aO.2.map (Value.int .i64))) (λu _=>12-(intOf u).toNat)
  case atStart=>exact ⟨0,Zc _,rfl,_,_,M6.o,HI6.o,by have:=HSZ5.o;have:=HSZ6.o;omega,HLS6.o⟩
  case round=>
   clear M6 HLS6 HI6 ev6 wv6;obtain ⟨k,hk,rfl,wv,ev,hM,hI,hsz,hls⟩:=hrel;have M:=Hz hM;have HLS:=Hz hls;have HI:=Hz hI;have HSR:=Hz hsz;clear hM hls hI hsz;by_cases hlt:k<12
   ·have hl12:=HOK.o.h12;have hrl:(iC O.ar O.rt k).length=12:=by rw [xE (by omega)];exact hl12
    have hst:=vK (A:=O.ar) (rt:=O.rt) (k:=k) (by omega);have hgt:=xF (A:=O.ar) (rt:=O.rt) (k:=k) (by omega);have HST:=Hz hst;obtain ⟨gr',og',rcap',ero,hgl,hfz,hcl⟩:=M.o.gz hrl;rw [HRO.o] at ero;cases ero;have d0:=hcl k (by omega);rw [hgt] at d0;have q3:=M.o.C.J.cells.2.2.2.2.2.2.2.2;have pl:=M.o.C.J.hp.lt;dsimp only at q3;rw [HRO.o] at q3;have hf:=hfz (og+k);have HFZ:=Hz hfz;clear hst hgt hcl hl12 hfz;generalize O.rt.getD k 0=x at *;go_wp2_with fail;have MD:=Hz (M.o.same ((Kz wr).drew));refine a6 (ftq [0,1,2,4,5,6] (.pure 3 (.run 7 (.free 8 (.run 9 (.swi [] (.fin))))))) [9] (Fa q3) ?_
    iterate 7 refine Wz ?_
    refine aN rfl rfl (λK hK=>?_);unfold ax;go_simp;refine (nK x MD.o.C.J).mono ?_;rintro e w7 ⟨rfl,t⟩;have T:=Hz t;have hsm:=Sm.iU MD.o.C.ok.ok x;obtain ⟨wv7,ev7,M7',o7⟩:=MD.o.step (MD.o.C.cut (MD.o.C.J.ji t) (MD.o.C.ok.bZ hsm.ok) hsm.nur);have M7:=Hz M7';have HI7:=Hz (HI.o.step o7 HSR.o);have HS7:=Hz (Za HSR.o t.k.size);have q3':=M7.o.C.J.cells.2.2.2.2.2.2.2.2;dsimp only at q3';rw [HRO.o] at q3';refine hK _ _ (λ_=>q3') ?_;clear hK K M7' o7 hsm t q3 q3' d0 hgl pl hf;obtain ⟨gr',og',rcap',ero,hgl,hfz,hcl⟩:=M7.o.gz hrl;rw [HRO.o] at ero;cases ero;have d0:=hcl k (by omega);have hf:=hfz (og+k);clear hcl hfz;refine Wz ?_;refine aD rfl rfl rfl (λK hK=>?_);unfold ax;go_simp;refine hK _ _ ?_;clear hK K d0 hf;refine aC (λ_=>True) trivial (av ?_);have M8:=Hz (M7.o.root (x:=cV (bI (mRoots O.ar (O.rt.take k)).1 x) x) (by rw [HRO.o,hrl]) (by rw [hrl];exact hlt));have HL8:=Hz (show Sl (w7.setCell ⟨gr,og+k,none⟩ (.int .i64 (cV (bI (mRoots O.ar (O.rt.take k)).1 x) x))) 3 1 (.slice bo O.ar.aO.2.length bc) O.ar.aO.2.length (O.ar.aO.2.map (Value.int .i64)) by
     have k1:=(Kz wr).drew;have h1:=HLS.o.ab k1 (λ_ _ h=>h);have h2:=h1.ab T.o.k (λb hb e=>MD.o.rE HI.o h1 HLT.o hb (.inl (e.elim (λe=>.inr (.inl e)) (λe=>.inr (.inr (.inl e))))));refine h2.ab ((aa.refl (·=gr) w7).setCell (p:=⟨gr,og+k,none⟩) (.inl rfl) _) (λb hb e=>?_);obtain ⟨_,l,h'⟩:=M7.o.hr.own (k:=gr) (by rw [HRO.o];rfl);obtain ⟨_,l2,h3⟩:=h2.own hb
     exact h3.ne h' (by decide) e)
    rw [HST.o.2] at M8;clear M7 T MD;go_wp2_with fail;go_roundw
    case rel=>exact ⟨k+1,hlt,by go_num,_,_,by rw [HST.o.1];exact M8.o,HI7.o,by have:=HS7.o;simpa using this,HL8.o⟩
    case measure=>simp [intOf];omega
   ·obtain rfl:k=12:=by omega
    have hr12:iC O.ar O.rt 12=(mRoots O.ar O.rt).2:=by
     unfold iC;rw [List.take_of_length_le (by rw [HOK.o.h12];exact Nat.le_refl _),List.drop_eq_nil_of_le (by rw [HOK.o.h12];exact Nat.le_refl _),List.append_nil]
    rw [hr12,List.take_of_length_le (by rw [HOK.o.h12];exact Nat.le_refl _)] at M;clear hr12 hlt hk;obtain ⟨w7,rfl⟩:∃ x:World,x=wr:=⟨wr,rfl⟩;have HLL:=Hz (show O.ar.aO.2.length<=1300 from Ar.ia O.ar 1300 _ _);have HLB:=Hz (show ∀ p ∈ O.ar.aO.2,0<=p/\p<=1300 from λp hp=>by have:=pQ O.ar 1300 _ _ p hp;omega);obtain ⟨L,hL⟩:∃ L,O.ar.aO.2=L:=⟨_,rfl⟩;have HLE:=Hz hL;rw [hL] at HLS HLL HLB HLT;obtain ⟨A1,hA1⟩:∃ A,(mRoots O.ar O.rt).1=A:=⟨_,rfl⟩;have HA1:=Hz hA1;rw [hA1] at M;obtain ⟨rt1,hrt1⟩:∃ l,(mRoots O.ar O.rt).2=l:=⟨_,rfl⟩;have HRT:=Hz hrt1;rw [hrt1] at M;rw [hL];clear hL hA1 hrt1;have hll:=HLL.o;go_wp2_with fail;go_loopw [82] (λu wr=>∃ k:Nat,k<=L.length/\u=.int .i64 k/\∃ wv ev,MC w h wr pc O.ar.nur wv ev h.rv h.wv O.cd rt1 O.rg ⟨eK O.ar.nur O.cd ⟨A1,[],[]⟩ (L.take k),O.ar.grn,O.wt⟩/\kC (eK O.ar.nur O.cd ⟨A1,[],[]⟩ (L.take k)) k/\nQ h pc O.ar.nur w4.heap.size wv ev/\w4.heap.size<=wr.heap.size/\Sl wr 3 1 (.slice bo L.length bc) L.length (L.map (Value.int .i64))) (λu _=>L.length-(intOf u).toNat)
    case atStart=>exact ⟨0,Zc _,rfl,_,_,M.o,⟨by simp [eK],(λi hi=>by cases hi),(λi hi=>by cases hi)⟩,HI.o,HSR.o,HLS.o⟩
    case round=>
     clear M HI HSR HLS wv ev;obtain ⟨k,hk,rfl,wv,ev,hM,hms,hI,hsz,hls⟩:=hrel;have M:=Hz hM;have HLS:=Hz hls;have HI:=Hz hI;have HSR:=Hz hsz;have HMS:=Hz hms;clear hM hls hI hsz hms;by_cases hlt:k<L.length
     ·obtain ⟨_,_,e',rd,-,-⟩:=HLS.o.rd;cases e';obtain ⟨ge,oe,rfl,d0⟩:=rd.int k hlt;have hgl:=(HLS.o.own rfl).1;have hin:=HLB.o (L.getD k 0) (by rw [Ld,Le hlt];exact Ze hlt);have HDS:=Hz (vL (base:=O.ar.nur) (cd:=O.cd) (s:=⟨A1,[],[]⟩) hlt);have hml:=HMS.o.len;generalize L.getD k 0=i at *;obtain ⟨sk,hsk⟩:∃ s,eK O.ar.nur O.cd ⟨A1,[],[]⟩ (L.take k)=s:=⟨_,rfl⟩;rw [hsk] at M HMS HDS hml;clear hsk rd;have p1:=M.o.C.J.cells.2.2.2.2.2.2.1;have pl:=M.o.C.J.hp.lt;dsimp only at p1;have hcd:=HOK.o.hc;go_wp2_with fail;refine (A6 h.pc h.cb O.ar.nur i O.cd wr M.o.hc (by omega) (by omega) (by omega) (by omega) (by omega)).mono ?_;rintro e w8 ⟨rfl,rfl⟩;clear p1 pl d0;cases hdi:du O.ar.nur O.cd i
      ·have HE:=Hz (HDS.o.trans (if_neg (by rw [hdi];decide)));clear hdi HDS;go_wp2_with fail;go_roundw
       case rel=>
        (repeat apply Exists.intro)
        exact ⟨⟨k+1,hlt,by go_num,wv,ev,by rw [HE.o];exact M.o,by rw [HE.o];exact HMS.o.more (by omega),HI.o,HSR.o,HLS.o⟩,rfl⟩
       case measure=>simp [intOf];omega
      ·have HE:=Hz (HDS.o.trans (if_pos hdi));clear hdi HDS;go_wp2_with fail;refine (wL i M.o.C.J hin.1 hin.2 (by dsimp only;have:=HLL.o;omega)).mono ?_;rintro e w8 ⟨rfl,t⟩;have hml2:=(HMS.o.look hin.1 hin.2);have HMS2:=Hz hml2;have hsm:=Sm.look M.o.C.ok.ok i;obtain ⟨_,_,_,kt,_⟩:=id t;have HL8:=Hz (HLS.o.ab kt (λb hb ho=>M.o.rE HI.o HLS.o HLT.o hb (.inl ho)));obtain ⟨wv8,ev8,M8',o8⟩:=M.o.step (M.o.C.cut t ⟨hsm.ok,hml2.more (by have:=HLL.o;dsimp only;omega),by dsimp only;omega,by dsimp only;omega⟩ hsm.nur);have M8:=Hz M8';have HI8:=Hz (HI.o.step o8 HSR.o);have HS8:=Hz (Za HSR.o kt.size);clear t kt hml2 hsm M8' o8;go_wp2_with fail;go_roundw
       case rel=>
        (repeat apply Exists.intro)
        exact ⟨⟨k+1,hlt,by go_num,wv8,ev8,by rw [HE.o];exact M8.o,by rw [HE.o];exact HMS2.o.more (by omega),HI8.o,HS8.o,HL8.o⟩,rfl⟩
       case measure=>simp [intOf];omega
     ·obtain rfl:k=L.length:=by omega
      rw [List.take_length] at M;clear HMS HLS hlt hk;have HPRE:=Hz (show iL O=mDrain 2000 ⟨eK O.ar.nur O.cd ⟨A1,[],[]⟩ L,O.ar.grn,O.wt⟩ by unfold iL;rw [HLE.o,HA1.o]);go_wp2_with fail;refine (uP M.o.C).mono ?_;rintro e w8 ⟨rfl,t⟩;obtain ⟨wv8,ev8,M8',-⟩:=M.o.step t;rw [<-HPRE.o] at M8';have M8:=Hz M8';clear t M8' M;have p2:=M8.o.C.J.cells.2.2.2.2.2.2.2.1;have pl:=M8.o.C.J.hp.lt;dsimp only at p2;go_wp2_with fail;refine a6 (ftq [0,1,2,4] (.pure 3 (.run 5 (.run 6 (.swi [] (.fin)))))) [6] (Fa p2) ?_
      iterate 5 refine Wz ?_
      refine aN rfl rfl (λK hK=>?_);unfold ax;go_simp;refine (zX (M8.o.same ((Kz w8).drew)).C.J).mono ?_;rintro e w9 ⟨b,rfl,hb,hk,hlo⟩;have M9:=Hz (M8.o.same ((Kz w8).drew.trans hk));have HB9:=Hz hb;have HLO9:=Hz (show w8.heap.size<=b from hlo);have p2':=M9.o.C.J.cells.2.2.2.2.2.2.2.1;dsimp only at p2';refine hK _ _ (λ_=>p2') ?_;clear hK K hb hk hlo p2 p2' pl
      skip
      refine aD rfl rfl rfl (λK hK=>?_);unfold ax;go_simp;have hq24:=HOK.o.hq;refine (uO h.ps (qs ⟨h.p,h.pa,h.g,h.pc,h.ps,h.ro,pc,O.ar.nur⟩ b) ((iL O).s,(iL O).c) (λk=>(CH.mk h.p h.pa h.g h.pc h.ps h.ro pc O.ar.nur).Own wv8 ev8 k\/k=b) h.rv h.wv O.rg (iL O).q w9 ⟨wv8,ev8,M9.o.C.J,M9.o.C.ok,M9.o.C.nb,HB9.o,rfl⟩ M9.o.C.S (λk hk=>by
       rcases hk with ⟨h1 | h1,h2⟩
       ·exact M9.o.C.J.cQ M9.o.C.S h1 h2
       ·subst h1;obtain ⟨_,U,h3,hU⟩:=M9.o.C.S.cM h2;refine HB9.o.ne h3 ?_ rfl
        rcases hU with rfl | rfl <;> decide) (by omega) (by rw [HPRE.o,ns];dsimp only;omega) (λe he=>HOK.o.hg e he) (λe he=>M9.o.C.q e he)).mono ?_
      rintro e w10 ⟨rfl,F',rv',qv',⟨wv',ev',hJ',hsc,hnb,hb',rfl⟩,hS',-,hk',-,hsf⟩;refine hK _ _ ?_;clear hK K;refine aC (λ_=>True) trivial (av ?_);have HPS:=Hz (show dw (qs ⟨h.p,h.pa,h.g,h.pc,h.ps,h.ro,pc,O.ar.nur⟩ b).alive (qs ⟨h.p,h.pa,h.g,h.pc,h.ps,h.ro,pc,O.ar.nur⟩ b).ab ((iL O).s,(iL O).c) O.rg (iL O).q=bN O from rfl);rw [HPS.o] at hJ' hsc hnb hS';have M10:=Hz (show ME w h w10 pc O.ar.nur wv' ev' rv' qv' O.cd rt1 (bq bQ fB (bN O).1 (bN O).2.2) (bt bQ fB (bN O).1 (bN O).2.1) (bN O).1.1 (bN O).1.2 by
       have hne:∀ {k:Nat} {l:List Value} {T:TypeId},ak w9 k l T->T≠125->¬ ((CH.mk h.p h.pa h.g h.pc h.ps h.ro pc O.ar.nur).Own wv8 ev8 k\/aG h.ps h.rv h.wv k)->¬ (((CH.mk h.p h.pa h.g h.pc h.ps h.ro pc O.ar.nur).Own wv8 ev8 k\/k=b)\/aG h.ps h.rv h.wv k):=λhb hT hn hx=>by
        rcases hx with (h1 | h1) | h1
        ·exact hn (.inl h1)
        ·subst h1;exact hb.ne HB9.o hT rfl
        ·exact hn (.inr h1)
       have M:=M9.o;refine ⟨hJ',hS',M.hc.ab hk' (hne M.hc.hp (by decide) (M.type M.hc.hp (by decide))) (hne M.hc.hq (by decide) (M.type M.hc.hq (by decide))),M.hr.ab hk' (λk hk=>?_),M.ap,M.K.then hk' (λk hk=>?_),λk hk=>?_⟩
       ·obtain ⟨_,l,h'⟩:=M.hr.own hk;exact hne h' (by decide) (M.nP hk)
       ·rcases hk with (h1 | h1) | h1
        ·exact M.own k (.inl h1)
        ·subst h1;exact .inr (Za M8.o.K.size HLO9.o)
        ·exact M.own k (.inr h1)
       ·rcases hsf k hk with h1 | h1
        ·exact M.own k (.inr h1)
        ·exact .inr (Za M.K.size h1))
      have HSC:=Hz (show gG (bN O).1.1 (bN O).1.2 from hsc);have HNB:=Hz (show (O.ar.nur:Int)=(bN O).1.1.A.nur from hnb);clear hJ' hsc hnb hb' hS' hk' hsf HPS M8 M9;go_wp2_with fail;refine (BK M10.o.J (HSC.o.ms.more (by have:=HSC.o.c1;omega))).mono ?_;rintro e w11 ⟨rfl,t⟩;have M11:=Hz (M10.o.bZ t);clear t M10;have p1:=M11.o.J.cells.2.2.2.2.2.2.1;have pl:=M11.o.J.hp.lt;dsimp only at p1;go_wp2_with fail;refine (vU h.pc h.cb O.ar.nur O.cd w11 M11.o.hc).mono ?_;rintro e w12 ⟨rfl,hc,hk⟩;have M12:=Hz (M11.o.cards hc hk);clear hc hk p1 pl M11;have p0:=M12.o.J.cells.2.2.2.2.2.1;have pl:=M12.o.J.hp.lt;dsimp only at p0;go_wp2_with fail;refine (tN w12 M12.o.J.ha).mono ?_;rintro e w13 ⟨rfl,t⟩;have M13:=Hz (M12.o.bZ t);clear t M12 p0 pl;have HE:=Hz (show ir O=(0,⟨(j3 (bN O).1.1).clear,List.replicate O.cd.length false,rt1,bq bQ fB (bN O).1 (bN O).2.2,bt bQ fB (bN O).1 (bN O).2.1⟩) by
       unfold ir;rw [if_neg (by have:=HF.o;omega),HRT.o];congr 2
       simp [List.eq_replicate_iff])
      have HRM:=Hz (HR.o.minor.2);go_wp2_with fail;go_ret;refine ⟨by rw [HE.o];rfl,?_⟩;obtain ⟨ψ,R'⟩:=HRM.o;have hok':=R'.ho;rw [HE.o] at hok' ⊢;refine M13.o.done ?_ hok';rw [HNB.o];have:=(Sm.gone HSC.o.ok).nur
      show ((bN O).1.1.A.nur:Int)=((j3 (bN O).1.1).clear.nur:Int)
      rw [<-this];rfl
end
end
section
open Go.RowKit
theorem nR:(Tryz.prog.info? 3).map (λi=>(i.zero,i.size,i.bytes))=some (some (.int .i64 0),1,8):=by kernel_rfl
structure JH where
 p:Nat
 pa:Nat
 g:Nat
 cp:Nat
 ps:Nat
 ro:Value
 pc:Nat
 lb:Nat
 tb:Nat
def JH.Own (H:JH) (sv ev:Value) (k:Nat):Prop:=k=H.p\/k=H.pa\/k=H.g\/k=H.pc\/k=H.lb\/k=H.tb\/aq sv k\/aq ev k
structure cA (w:World) (H:JH) (sv ev:Value) (A:Ar) (s:Gs) (f:List Int):Prop where
 hp:ak w H.p [.pointer (some ⟨H.pa,0,none⟩), .pointer (some ⟨H.cp,0,none⟩), .pointer (some ⟨H.ps,0,none⟩),H.ro] 75
 ha:bH w H.pa H.g A
 hc:ak w H.pc [.pointer (some ⟨H.p,0,none⟩), .slice (some ⟨H.lb,0,none⟩) s.lv.length s.lv.length, .slice (some ⟨H.tb,0,none⟩) f.length f.length,sv,ev] 140
 hl:ak w H.lb (s.lv.map Value.bool) 4
 ht:ak w H.tb (f.map (Value.int .i64)) 3
 hs:Sl w 3 1 sv s.st.length (s.st.map (Value.int .i64))
 he:Sl w 3 1 ev s.ep.length (s.ep.map (Value.int .i64))
 ap:∀ k,¬ (aq sv k/\aq ev k)
 at_:¬ aq sv H.tb/\¬ aq ev H.tb
def me (w:World) (H:JH) (sv ev:Value) (A:Ar) (s:Gs) (f:List Int) (w':World):Prop:=
 ∃ sv' ev',cA w' H sv' ev' A s f/\aa (H.Own sv ev) w w'/\∀ k,H.Own sv' ev' k->H.Own sv ev k\/w.heap.size<=k
section
variable {w w':World} {H:JH} {sv ev:Value} {A:Ar} {s:Gs} {f:List Int}
theorem cA.bE (J:cA w H sv ev A s f) {k:Nat} (hk:H.Own sv ev k):∃ l T,ak w k l T/\(T=75\/T=162\/T=2\/T=140\/T=4\/T=3):=by
 rcases hk with rfl | rfl | rfl | rfl | rfl | rfl | hk | hk
 ·exact ⟨_,_,J.hp, .inl rfl⟩
 ·exact ⟨_,_,J.ha.hp, .inr (.inl rfl)⟩
 ·exact ⟨_,_,J.ha.hg, .inr (.inr (.inl rfl))⟩
 ·exact ⟨_,_,J.hc, .inr (.inr (.inr (.inl rfl)))⟩
 ·exact ⟨_,_,J.hl, .inr (.inr (.inr (.inr (.inl rfl))))⟩
 ·exact ⟨_,_,J.ht, .inr (.inr (.inr (.inr (.inr rfl))))⟩
 ·obtain ⟨_,l,h⟩:=J.hs.own hk;exact ⟨_,_,h, .inr (.inr (.inr (.inr (.inr rfl))))⟩
 ·obtain ⟨_,l,h⟩:=J.he.own hk;exact ⟨_,_,h, .inr (.inr (.inr (.inr (.inr rfl))))⟩
theorem cA.aZ (J:cA w H sv ev A s f) {k:Nat} (hk:H.Own sv ev k):k<w.heap.size:=by
 obtain ⟨_,_,h,_⟩:=J.bE hk;exact h.lt
theorem cA.ab {S:Nat->Prop} (J:cA w H sv ev A s f) (k:aa S w w') (hn:∀ b,H.Own sv ev b->¬ S b):cA w' H sv ev A s f:=
 ⟨k.au J.hp (hn _ (.inl rfl)),J.ha.ab k (hn _ (.inr (.inl rfl))) (hn _ (.inr (.inr (.inl rfl)))),k.au J.hc (hn _ (.inr (.inr (.inr (.inl rfl))))),k.au J.hl (hn _ (.inr (.inr (.inr (.inr (.inl rfl)))))),
  k.au J.ht (hn _ (.inr (.inr (.inr (.inr (.inr (.inl rfl))))))),J.hs.ab k (λb hb=>hn b (.inr (.inr (.inr (.inr (.inr (.inr (.inl hb)))))))),J.he.ab k (λb hb=>hn b (.inr (.inr (.inr (.inr (.inr (.inr (.inr hb)))))))),J.ap,J.at_⟩
theorem cA.same (J:cA w H sv ev A s f) (k:aa (λ_=>False) w w'):cA w' H sv ev A s f:=J.ab k (λ_ _ h=>h)
theorem me.refl (J:cA w H sv ev A s f):me w H sv ev A s f w:=⟨sv,ev,J,aa.refl _ _,λ_ h=>.inl h⟩
theorem me.join {w1:World} {sv1 ev1:Value} (k1:aa (H.Own sv ev) w w1) (o1:∀ k,H.Own sv1 ev1 k->H.Own sv ev k\/w.heap.size<=k) (t:me w1 H sv1 ev1 A s f w'):me w H sv ev A s f w':=by
 obtain ⟨a2,b2,J2,k2,o2⟩:=t;refine ⟨a2,b2,J2,k1.then k2 o1,λk hk=>?_⟩;rcases o2 k hk with h | h
 ·exact o1 k h
 ·exact .inr (Za k1.size h)
def mL (w:World) (H:JH) (sv ev:Value) (A:Ar) (s:Gs) (f:List Int) (w':World):Prop:=
 ∃ sv',cA w' H sv' ev A s f/\aa (H.Own sv ev) w w'/\∀ k,H.Own sv' ev k->H.Own sv ev k\/w.heap.size<=k
theorem mL.to (t:mL w H sv ev A s f w'):me w H sv ev A s f w':=by
 obtain ⟨a,J,k,o⟩:=t;exact ⟨a,ev,J,k,o⟩
theorem mL.refl (J:cA w H sv ev A s f):mL w H sv ev A s f w:=⟨sv,J,aa.refl _ _,λ_ h=>.inl h⟩
theorem mL.join {w1:World} {sv1:Value} (k1:aa (H.Own sv ev) w w1) (o1:∀ k,H.Own sv1 ev k->H.Own sv ev k\/w.heap.size<=k) (t:mL w1 H sv1 ev A s f w'):mL w H sv ev A s f w':=by
 obtain ⟨a2,J2,k2,o2⟩:=t;refine ⟨a2,J2,k1.then k2 o1,λk hk=>?_⟩;rcases o2 k hk with h | h
 ·exact o1 k h
 ·exact .inr (Za k1.size h)
theorem cA.cells (J:cA w H sv ev A s f):w.cell? ⟨H.pc,0,none⟩=some (.pointer (some ⟨H.p,0,none⟩))/\w.cell? ⟨H.pc,1,none⟩=some (.slice (some ⟨H.lb,0,none⟩) s.lv.length s.lv.length)/\w.cell? ⟨H.pc,2,none⟩=some (.slice (some ⟨H.tb,0,none⟩) f.length f.length) /\
  w.cell? ⟨H.pc,3,none⟩=some sv/\w.cell? ⟨H.pc,4,none⟩=some ev/\w.cell? ⟨H.p,0,none⟩=some (.pointer (some ⟨H.pa,0,none⟩)):=
 ⟨J.hc.cell 0,J.hc.cell 1,J.hc.cell 2,J.hc.cell 3,J.hc.cell 4,J.hp.cell 0⟩
theorem cA.rG (J:cA w H sv ev A s f) {i:Nat} (hi:i<s.lv.length):w.cell? ⟨H.lb,i,none⟩=some (.bool (s.lv.getD i false)):=by
 rw [J.hl.cell];simp [List.getD,hi]
theorem cA.toCell (J:cA w H sv ev A s f) {i:Nat} (hi:i<f.length):w.cell? ⟨H.tb,i,none⟩=some (.int .i64 (f.getD i 0)):=by
 rw [J.ht.cell];simp [List.getD,hi]
theorem cA.D3 (J:cA w H sv ev A s f) (i:Nat):cA (w.setCell ⟨H.lb,i,none⟩ (.bool true)) H sv ev A { s with lv:=s.lv.set i true } f:=by
 have k:=(aa.refl (·=H.lb) w).setCell (p:=⟨H.lb,i,none⟩) (.inl rfl) (.bool true);have ne:∀ {b:Nat} {l:List Value} {T:TypeId},ak w b l T->T≠4->¬ b=H.lb:=λhb hT=>hb.ne J.hl hT;refine ⟨k.au J.hp (ne J.hp (by decide)),J.ha.ab k (ne J.ha.hp (by decide)) (ne J.ha.hg (by decide)),?_,?_,k.au J.ht (ne J.ht (by decide)),J.hs.ab k (λb hb=>by obtain ⟨_,l,h⟩:=J.hs.own hb;exact ne h (by decide)),J.he.ab k (λb hb=>by obtain ⟨_,l,h⟩:=J.he.own hb;exact ne h (by decide)),J.ap,J.at_⟩
 ·have:=k.au J.hc (ne J.hc (by decide));simpa using this
 ·simpa [List.map_set] using J.hl.aE i (.bool true)
theorem cA.D4 (J:cA w H sv ev A s f) (i:Nat) (x:Int):cA (w.setCell ⟨H.tb,i,none⟩ (.int .i64 x)) H sv ev A s (f.set i x):=by
 have k:=(aa.refl (·=H.tb) w).setCell (p:=⟨H.tb,i,none⟩) (.inl rfl) (.int .i64 x);have ne:∀ {b:Nat} {l:List Value} {T:TypeId},ak w b l T->T≠3->¬ b=H.tb:=λhb hT=>hb.ne J.ht hT;refine ⟨k.au J.hp (ne J.hp (by decide)),J.ha.ab k (ne J.ha.hp (by decide)) (ne J.ha.hg (by decide)),?_,k.au J.hl (ne J.hl (by decide)),?_,J.hs.ab k (λb hb e=>J.at_.1 (e ▸ hb)),J.he.ab k (λb hb e=>J.at_.2 (e ▸ hb)),J.ap,J.at_⟩
 ·have:=k.au J.hc (ne J.hc (by decide));simpa using this
 ·simpa [List.map_set] using J.ht.aE i (.int .i64 x)
theorem cA.Es {w1 w2:World} {v2:Value} {i:Int} (J:cA w H sv ev A s f) (k1:aa (λ_=>False) w w1) (hs:Sl w2 3 1 v2 (s.st.length+1) (s.st.map (Value.int .i64) ++ [.int .i64 i])) (k2:aa (aq sv) w1 w2)
  (ho:∀ k,aq v2 k->aq sv k\/w1.heap.size<=k):mL w H sv ev A { s with st:=s.st ++ [i] } f (w2.setCell ⟨H.pc,3,none⟩ v2):=by
 have J1:=J.same k1;have nw:∀ {b:Nat} {l:List Value} {T:TypeId},ak w1 b l T->T≠3->¬ aq sv b:=λhb hT hv=>by
  obtain ⟨_,l',h⟩:=J1.hs.own hv;exact hb.ne h hT rfl
 have hp2:=k2.au J1.hp (nw J1.hp (by decide));have hc2:=k2.au J1.hc (nw J1.hc (by decide));have hl2:=k2.au J1.hl (nw J1.hl (by decide));have ht2:=k2.au J1.ht J.at_.1;have ha2:=J1.ha.ab k2 (nw J1.ha.hp (by decide)) (nw J1.ha.hg (by decide));have he2:=J1.he.ab k2 (λb hb hv=>J.ap b ⟨hv,hb⟩);have set:=(aa.refl (·=H.pc) w2).setCell (p:=⟨H.pc,3,none⟩) (.inl rfl) v2;have ne:∀ {b:Nat} {l:List Value} {T:TypeId},ak w2 b l T->T≠140->¬ b=H.pc:=λhb hT=>hb.ne hc2 hT;refine ⟨v2,⟨set.au hp2 (ne hp2 (by decide)),ha2.ab set (ne ha2.hp (by decide)) (ne ha2.hg (by decide)),by simpa using hc2.aE 3 v2,set.au hl2 (ne hl2 (by decide)),set.au ht2 (ne ht2 (by decide)),?_,he2.ab set (λb hb=>by obtain ⟨_,l,h⟩:=he2.own hb;exact ne h (by decide)),?_,⟨λh=>?_,J.at_.2⟩⟩,?_,?_⟩
 ·have:({ s with st:=s.st ++ [i] }:Gs).st.length=s.st.length+1:=by simp
  rw [this];simpa using hs.ab set (λb hb=>by obtain ⟨_,l,h⟩:=hs.own hb;exact ne h (by decide))
 ·rintro k ⟨h1,h2⟩;rcases ho k h1 with h | h
  ·exact J.ap k ⟨h,h2⟩
  ·have:=(J1.he.own h2).1;omega
 ·rcases ho _ h with h | h
  ·exact J.at_.1 h
  ·have:=J1.ht.lt;omega
 ·refine aa.setCell ?_ (p:=⟨H.pc,3,none⟩) (.inl (.inr (.inr (.inr (.inl rfl))))) v2;exact (k1.mono λ_ _ h=>h.elim).trans (k2.mono λk _ hk=>.inr (.inr (.inr (.inr (.inr (.inr (.inl hk)))))))
 ·rintro k (h | h | h | h | h | h | h | h)
  ·exact .inl (.inl h)
  ·exact .inl (.inr (.inl h))
  ·exact .inl (.inr (.inr (.inl h)))
  ·exact .inl (.inr (.inr (.inr (.inl h))))
  ·exact .inl (.inr (.inr (.inr (.inr (.inl h)))))
  ·exact .inl (.inr (.inr (.inr (.inr (.inr (.inl h))))))
  ·rcases ho k h with h | h
   ·exact .inl (.inr (.inr (.inr (.inr (.inr (.inr (.inl h)))))))
   ·exact .inr (Za k1.size h)
  ·exact .inl (.inr (.inr (.inr (.inr (.inr (.inr (.inr h)))))))
theorem cA.zV {w1 w2:World} {v2:Value} {i:Int} (J:cA w H sv ev A s f) (k1:aa (λ_=>False) w w1) (hs:Sl w2 3 1 v2 (s.ep.length+1) (s.ep.map (Value.int .i64) ++ [.int .i64 i])) (k2:aa (aq ev) w1 w2)
  (ho:∀ k,aq v2 k->aq ev k\/w1.heap.size<=k):me w H sv ev A { s with ep:=s.ep ++ [i] } f (w2.setCell ⟨H.pc,4,none⟩ v2):=by
 have J1:=J.same k1;have nw:∀ {b:Nat} {l:List Value} {T:TypeId},ak w1 b l T->T≠3->¬ aq ev b:=λhb hT hv=>by
  obtain ⟨_,l',h⟩:=J1.he.own hv;exact hb.ne h hT rfl
 have hp2:=k2.au J1.hp (nw J1.hp (by decide));have hc2:=k2.au J1.hc (nw J1.hc (by decide));have hl2:=k2.au J1.hl (nw J1.hl (by decide));have ht2:=k2.au J1.ht J.at_.2;have ha2:=J1.ha.ab k2 (nw J1.ha.hp (by decide)) (nw J1.ha.hg (by decide));have hs2:=J1.hs.ab k2 (λb hb hv=>J.ap b ⟨hb,hv⟩);have set:=(aa.refl (·=H.pc) w2).setCell (p:=⟨H.pc,4,none⟩) (.inl rfl) v2;have ne:∀ {b:Nat} {l:List Value} {T:TypeId},ak w2 b l T->T≠140->¬ b=H.pc:=λhb hT=>hb.ne hc2 hT;refine ⟨sv,v2,⟨set.au hp2 (ne hp2 (by decide)),ha2.ab set (ne ha2.hp (by decide)) (ne ha2.hg (by decide)),by simpa using hc2.aE 4 v2,set.au hl2 (ne hl2 (by decide)),set.au ht2 (ne ht2 (by decide)),hs2.ab set (λb hb=>by obtain ⟨_,l,h⟩:=hs2.own hb;exact ne h (by decide)),?_,?_,⟨J.at_.1,λh=>?_⟩⟩,?_,?_⟩
 ·have:({ s with ep:=s.ep ++ [i] }:Gs).ep.length=s.ep.length+1:=by simp
  rw [this];simpa using hs.ab set (λb hb=>by obtain ⟨_,l,h⟩:=hs.own hb;exact ne h (by decide))
 ·rintro k ⟨h1,h2⟩;rcases ho k h2 with h | h
  ·exact J.ap k ⟨h1,h⟩
  ·have:=(J1.hs.own h1).1;omega
 ·rcases ho _ h with h | h
  ·exact J.at_.2 h
  ·have:=J1.ht.lt;omega
 ·refine aa.setCell ?_ (p:=⟨H.pc,4,none⟩) (.inl (.inr (.inr (.inr (.inl rfl))))) v2;exact (k1.mono λ_ _ h=>h.elim).trans (k2.mono λk _ hk=>.inr (.inr (.inr (.inr (.inr (.inr (.inr hk)))))))
 ·rintro k (h | h | h | h | h | h | h | h)
  ·exact .inl (.inl h)
  ·exact .inl (.inr (.inl h))
  ·exact .inl (.inr (.inr (.inl h)))
  ·exact .inl (.inr (.inr (.inr (.inl h))))
  ·exact .inl (.inr (.inr (.inr (.inr (.inl h)))))
  ·exact .inl (.inr (.inr (.inr (.inr (.inr (.inl h))))))
  ·exact .inl (.inr (.inr (.inr (.inr (.inr (.inr (.inl h)))))))
  ·rcases ho k h with h | h
   ·exact .inl (.inr (.inr (.inr (.inr (.inr (.inr (.inr h)))))))
   ·exact .inr (Za k1.size h)
theorem Sl.drop {w:World} {e g o n cap:Nat} {l:List Int} (h:Sl w e 1 (.slice (some ⟨g,o,none⟩) (n+1) cap) (n+1) (l.map (Value.int .i64))):Sl w e 1 (.slice (some ⟨g,o,none⟩) n cap) n (l.dropLast.map (Value.int .i64)):=by
 obtain ⟨g',o',cap',cur,e',hb,h1,h2,h3,h4⟩:=h.laid (by omega);cases e';have hl:=h.len;rw [Zp] at hl;refine ⟨by rw [Zp,List.length_dropLast];omega, .inr ⟨g,o,cap,cur,rfl,hb,by omega,h2,h3,?_⟩⟩;have e1:l.dropLast=l.take n:=by rw [List.dropLast_eq_take];congr 1;omega
 rw [e1,List.map_take,<-h4,List.take_take];congr 1;omega
theorem cA.pop {g o n cap:Nat} (J:cA w H (.slice (some ⟨g,o,none⟩) (n+1) cap) ev A s f) (hn:s.st.length=n+1) :
  cA (w.setCell ⟨H.pc,3,none⟩ (.slice (some ⟨g,o,none⟩) n cap)) H (.slice (some ⟨g,o,none⟩) n cap) ev A { s with st:=s.st.dropLast } f:=by
 have set:=(aa.refl (·=H.pc) w).setCell (p:=⟨H.pc,3,none⟩) (.inl rfl) (.slice (some ⟨g,o,none⟩) n cap);have ne:∀ {b:Nat} {l:List Value} {T:TypeId},ak w b l T->T≠140->¬ b=H.pc:=λhb hT=>hb.ne J.hc hT;have hs:=J.hs;rw [hn] at hs;have hl:({ s with st:=s.st.dropLast }:Gs).st.length=n:=by show s.st.dropLast.length=n;rw [List.length_dropLast];omega
 refine ⟨set.au J.hp (ne J.hp (by decide)),J.ha.ab set (ne J.ha.hp (by decide)) (ne J.ha.hg (by decide)),by simpa using J.hc.aE 3 (.slice (some ⟨g,o,none⟩) n cap),set.au J.hl (ne J.hl (by decide)),set.au J.ht (ne J.ht (by decide)),?_,J.he.ab set (λb hb=>by obtain ⟨_,l,h⟩:=J.he.own hb;exact ne h (by decide)),J.ap,J.at_⟩;rw [hl];exact hs.drop.ab set (λb hb=>by obtain ⟨_,l,h⟩:=hs.own (k:=b) hb;exact ne h (by decide))
theorem cA.bZ (J:cA w H sv ev A s f) {B:Ar} (t:aU w H.pa H.g w' B):cA w' H sv ev B s f:=by
 have n1:∀ {b:Nat} {c:List Value} {T:TypeId},ak w b c T->T≠162->T≠2->¬ (b=H.pa\/b=H.g):=λhb h1 h2 e=>by
  rcases e with e | e
  ·exact hb.ne J.ha.hp h1 e
  ·exact hb.ne J.ha.hg h2 e
 exact ⟨t.k.au J.hp (n1 J.hp (by decide) (by decide)),t.at_,t.k.au J.hc (n1 J.hc (by decide) (by decide)),t.k.au J.hl (n1 J.hl (by decide) (by decide)),t.k.au J.ht (n1 J.ht (by decide) (by decide)),
  J.hs.ab t.k (λb hb=>by obtain ⟨_,l,h⟩:=J.hs.own hb;exact n1 h (by decide) (by decide)),J.he.ab t.k (λb hb=>by obtain ⟨_,l,h⟩:=J.he.own hb;exact n1 h (by decide) (by decide)),J.ap,J.at_⟩
theorem qt (x:Int) (J:cA w H sv ev A s f) (hx:x%4=1->0<=x/4/\x/4<s.lv.length) (hl:s.lv.length<=1000000) :
  Calls Tryz.prog 88 #[.pointer (some ⟨H.pc,0,none⟩), .int .i64 x] w λe w'=>e=.returned (.bool (aS s x))/\w=w':=by
 obtain ⟨-,c1,-,-,-,-⟩:=J.cells;have cl:=J.hc.lt;have ll:=J.hl.lt;by_cases h1:x%4=1
 ·obtain ⟨b0,b1⟩:=hx h1;have hi:=J.rG (i:=(x/4).toNat) (by omega);have HE:=Hz (show aS s x=s.lv.getD (x/4).toNat false by simp [aS,h1,aw,b0]);have AY:=Hz (λw=>dH x w h1);clear J hx h1;generalize s.lv.getD (x/4).toNat false=b at *;generalize x/4=i at *;obtain ⟨i,rfl⟩:=Zg b0;simp only [Zt] at hi;generalize s.lv.length=n at *;go_enter Tryz.func88,Tryz.ntmps88;go_wp2_with fail;refine (AY.o _).mono ?_;rintro e w1 ⟨rfl,rfl⟩;go_wp2_with fail;go_ret;exact ⟨de HE.o.symm,rfl⟩
 ·have HE:=Hz (show aS s x=true by simp [aS,h1]);have AN:=Hz (λw=>lV x w h1);clear J hx h1;go_enter Tryz.func88,Tryz.ntmps88;go_wp2_with fail;refine (AN.o _).mono ?_;rintro e w1 ⟨rfl,rfl⟩;go_wp2_with fail;go_ret;exact ⟨de HE.o.symm,rfl⟩
end
end
section
open Go.RowKit
section
variable {w w':World} {H:JH} {sv ev:Value} {A:Ar} {s:Gs} {f:List Int} {T:Int->Prop} {L:Nat}
theorem cA.cX (x:Int) (J:cA w H sv ev A s f) (S:dT A T) (G:bM A T s L) (hx:Dm T x) :
  Calls Tryz.prog 88 #[.pointer (some ⟨H.pc,0,none⟩), .int .i64 x] w λe w'=>e=.returned (.bool (aS s x))/\w=w':=
 qt x J (λh=>by rw [G.len];exact S.bd _ (hx h)) (by rw [G.len];have:=S.ok.h4;omega)
theorem lq (x:Int) (J:cA w H sv ev A s f) (S:dT A T) (G:bM A T s L) (hx:Dm T x) (hL:L<=100000) :
  Calls Tryz.prog 84 #[.pointer (some ⟨H.pc,0,none⟩), .int .i64 x] w λe w'=>e=.returned (.tuple #[])/\mL w H sv ev A (cP s x) f w':=by
 have HAL:=Hz (J.cX x S G hx);have HJ:=Hz J;obtain ⟨-,c1,-,c3,-,-⟩:=J.cells;have cl:=J.hc.lt;have ll:=J.hl.lt;cases hal:aS s x
 ·have hnew:=sZ (by rw [hal];decide);obtain ⟨b0,b1⟩:=S.bd _ (hx hnew.1);have hsum:=G.sum;have hlen:=G.len;have h4:=S.ok.h4;have AY:=Hz (λw=>dH x w hnew.1);have HE:=Hz (show cP s x=⟨s.lv.set (x/4).toNat true,s.st ++ [x/4],s.ep⟩ by unfold cP;rw [hal];rfl);rw [hal] at HAL;have hi:=J.rG (i:=(x/4).toNat) (by omega);have hf:=J.hl.free (x/4).toNat
  obtain ⟨i0,hi0,hz0,hz1,hz2⟩:=info_parts nR;have Hi:=Hz hi0;have Hz0:=Hz hz0;have Hz1:=Hz hz1;have Hz2:=Hz hz2;clear hi0 hz0 hz1 hz2;obtain ⟨so,sc,rfl,-,-,-⟩:=J.hs.rd;have hst:s.st.length<=100000:=by omega
  have ay:(x/4)<s.lv.length:=by omega
  have ew:s.lv.length<=1000000:=by omega
  clear J hal hnew hsum hlen b1 hx S G;generalize s.lv.getD (x/4).toNat false=b at *;generalize x/4=i at *;obtain ⟨i,rfl⟩:=Zg b0;simp only [Zt] at hi hf HE;have bG:i<s.lv.length:=by omega
  go_enter Tryz.func84,Tryz.ntmps84;go_wp2_with fail;refine HAL.o.mono ?_;rintro e w1 ⟨rfl,rfl⟩;go_wp2_with fail;refine (AY.o _).mono ?_;rintro e w1 ⟨rfl,rfl⟩;have J1:=Hz (HJ.o.D3 i);have KS:=Hz (show aa (H.Own (.slice so s.st.length sc) ev) w (w.setCell ⟨H.lb,i,none⟩ (.bool true)) from (aa.refl _ w).setCell (p:=⟨H.lb,i,none⟩) (.inl (.inr (.inr (.inr (.inr (.inl rfl)))))) _);have hlt2:(i:Int)<s.lv.length:=by omega
  go_upto_region 3 with fail;generalize w.setCell ⟨H.lb,i,none⟩ (.bool true)=w2 at *;clear c1 c3 cl ll hi hf;have c3:=J1.o.cells.2.2.2.1;have cl:=J1.o.hc.lt;go_wp2_with (at_builtin;refine cE rfl (.tmp 25) (.tmp 27) 27 rfl 3 i0 (.int .i64 0) 1 8 Tryz.underlying27 Hi.o Hz0.o Hz1.o Hz2.o rfl (by decide) _ s.st.length (s.st.map (Value.int .i64)) rfl ?ha ⟨w2.heap.size,0,none⟩ 1 1 [.int .i64 i] rfl rfl ?hb ?hc ?hd ?he ?hf)
  case ha=>exact J1.o.hs.ab ((Kz w2).alloc _) (λ_ _ h=>h)
  case hb=>exact bV w2 3 _
  case hc=>intro u hu;simp at hu;subst hu;rfl
  case hd=>unfold maxLen;omega
  case he=>omega
  case hf=>
   intro v2 w3 hs2 hk2 ho2;obtain ⟨ao2,cap2,rfl,-,-,-⟩:=hs2.rd;have T2:=Hz (J1.o.Es ((Kz w2).alloc (.cells #[.int .i64 i] 3)) hs2 hk2 (by simpa using ho2));have K2:=Hz (((Kz w2).alloc (.cells #[.int .i64 i] 3)).au J1.o.hc (λh=>h));have K3:=Hz (hk2.au K2.o (λhv=>by
    obtain ⟨_,l,h⟩:=(J1.o.hs.ab ((Kz w2).alloc (.cells #[.int .i64 i] 3)) (λ_ _ h=>h)).own hv
    exact K2.o.ne h (by decide) rfl))
   clear hs2 hk2 ho2 K2 c3 cl;have x0:=K3.o.cell 3;have xl:=K3.o.lt;have xf:=K3.o.free 3;simp only [Lz,aB] at x0;go_wp2_with fail;go_end0;refine ⟨rfl,?_⟩;rw [HE.o];exact mL.join KS.o (λk hk=>.inl hk) T2.o
 ·have HE:=Hz (show cP s x=s by unfold cP;rw [hal];rfl);rw [hal] at HAL;clear J hal;go_enter Tryz.func84,Tryz.ntmps84;go_wp2_with fail;refine HAL.o.mono ?_;rintro e w1 ⟨rfl,rfl⟩;go_wp2_with fail;go_end0;refine ⟨rfl,?_⟩;rw [HE.o];exact mL.refl HJ.o
theorem BL (i:Int) (J:cA w H sv ev A s f) (S:dT A T) (G:bM A T s L) (hi:T i) (hL:L<=90000) :
  Calls Tryz.prog 132 #[.pointer (some ⟨H.pc,0,none⟩), .int .i64 i] w λe w'=>e=.returned (.tuple #[])/\me w H sv ev A (jy A s i) f w':=by
 have HJ:=Hz J;have HS:=Hz S;have HG:=Hz G;have bd:=S.bd i hi;have h4:=S.ok.h4;have FD:=Hz (S.fd i hi);have TW:=Hz (S.two i hi);have hsum:=G.sum;obtain ⟨c0,-,-,-,c4,p0⟩:=J.cells;have pl:=J.hp.lt;have cl:=J.hc.lt;have HTH:=Hz (gS i w J.ha);have hb:=A.aQ i;obtain ⟨G2,hGe⟩:∃ G,jy A s i=G:=⟨_,rfl⟩;have HL:=Hz hGe;clear J S G hi;unfold jy at hGe;have hfields:A.fields i=(List.range (A.ah i).2.1.toNat).map λ(j:Nat)=>A.load (i+1+(j:Int)):=rfl;obtain ⟨F,hF⟩:∃ F,A.fields i=F:=⟨_,rfl⟩;rw [hF] at hGe FD TW hfields;obtain ⟨⟨k,n,cd⟩,hT⟩:∃ t,A.ah i=t:=⟨_,rfl⟩;rw [hT] at HTH hb hGe hfields TW;dsimp only at HTH hb hGe hfields TW;have HFI:=Hz hfields;clear hT hF hfields;have hi1:IntKind.i64.wrap (i+1)=i+1:=IntWalk.i64_in _ (by omega);by_cases k12:k=1\/k=2
 ·rw [if_pos k12] at hGe;have HE:=Hz hGe;clear hGe;obtain ⟨m,rfl⟩:∃ m:Nat,n=m:=⟨n.toNat,by omega⟩;have hFl:F.length=m:=by rw [HFI.o];simp
  have HFL:=Hz hFl;have HFG:=Hz (show ∀ q:Nat,q<m->A.load (i+1+q)=F.getD q 0 from λq hq=>by
   rw [HFI.o,Ld,Zw,List.getElem?_range (by simpa using hq)];rfl)
  clear hFl;rcases k12 with rfl | rfl
  all_goals
   go_enter Tryz.func132,Tryz.ntmps132;go_wp2_with fail;refine HTH.o.mono ?_;rintro e w1 ⟨rfl,rfl⟩;go_wp2_with fail;go_loopw [26] (λu wr=>∃ q:Nat,q<=m/\u=.int .i64 q/\me w H sv ev A (eL s (F.take q)) f wr) (λu _=>m-(intOf u).toNat)
   case atStart=>exact ⟨0,Zc _,rfl,me.refl HJ.o⟩
   case round=>
    obtain ⟨q,hq,rfl,t⟩:=hrel;obtain ⟨sv1,ev1,J1,k1,o1⟩:=t;have HJ1:=Hz J1;have K1:=Hz k1;have O1:=Hz o1;clear k1 o1 c0 c4 p0 pl cl;by_cases hlt:q<m
    ·obtain ⟨c0,-,-,-,-,p0⟩:=J1.cells;have pl:=J1.hp.lt;have cl:=J1.hc.lt;have G1:=Hz (bM.marks HS.o (F.take q) HG.o (λx hx=>FD.o x (List.mem_of_mem_take hx))).1;have HMS:=Hz (pM (s:=s) (l:=F) (k:=q) (by rw [HFL.o];exact hlt));have DM:=Hz (show Dm T (F.getD q 0) from FD.o _ (by rw [Ld,Le (by rw [HFL.o];exact hlt)];exact Ze _));have HLQ:=Hz (HFG.o q hlt);have hiq:IntKind.i64.wrap (i+1+q)=i+1+q:=IntWalk.i64_in _ (by omega);clear J1;generalize F.getD q 0=x at *;go_wp2_with fail;refine (eW (i+1+q) _ HJ1.o.ha).mono ?_;rintro e w2 ⟨rfl,rfl⟩;rw [HLQ.o];go_wp2_with fail;refine (lq x HJ1.o HS.o G1.o DM.o (by omega)).mono ?_;rintro e w2 ⟨rfl,t⟩;have T2:=Hz (me.join K1.o O1.o t.to);clear t c0 p0 pl cl;go_wp2_with fail;go_roundw
     case rel=>exact ⟨q+1,hlt,by go_num,by rw [HMS.o];exact T2.o⟩
     case measure=>simp [intOf];omega
    ·obtain rfl:q=m:=by omega
     clear J1;go_wp2_with fail;go_end0;refine ⟨rfl,?_⟩;rw [HL.o,<-HE.o];refine me.join K1.o O1.o (me.refl ?_);have:=HJ1.o;rw [List.take_of_length_le (by rw [HFL.o];exact Nat.le_refl _)] at this;exact this
 ·have k1:(k == 1)=false:=by simp;omega
  have k2:(k == 2)=false:=by simp;omega
  rw [if_neg k12] at hGe;clear k12;obtain ⟨i0,hi0,hz0,hz1,hz2⟩:=info_parts nR;have Hi:=Hz hi0;have Hz0:=Hz hz0;have Hz1:=Hz hz1;have Hz2:=Hz hz2;clear hi0 hz0 hz1 hz2;by_cases k3:k=3
  ·subst k3;rw [if_pos rfl] at hGe;have HE:=Hz hGe;have DM:=Hz (show Dm T (A.load (i+2)) from FD.o _ (TW.o (.inl rfl)).2);clear hGe;have hi2:IntKind.i64.wrap (i+2)=i+2:=IntWalk.i64_in _ (by omega);go_enter Tryz.func132,Tryz.ntmps132;go_wp2_with fail;refine HTH.o.mono ?_;rintro e w1 ⟨rfl,rfl⟩;go_wp2_with fail;refine (eW (i+2) _ HJ.o.ha).mono ?_;rintro e w2 ⟨rfl,rfl⟩;go_wp2_with fail;refine (lq _ HJ.o HS.o HG.o DM.o (by omega)).mono ?_;rintro e w2 ⟨rfl,t⟩;have T2:=Hz t.to;clear t;go_wp2_with fail;go_end0;refine ⟨rfl,?_⟩;rw [HL.o,<-HE.o];exact T2.o
  ·have k3':(k == 3)=false:=by simpa using k3
   rw [if_neg k3] at hGe;clear k3;by_cases k4:k=4
   ·subst k4;rw [if_pos rfl] at hGe;have HE:=Hz hGe;clear hGe;obtain ⟨eo,ec,rfl,-,-,-⟩:=HJ.o.he.rd;go_enter Tryz.func132,Tryz.ntmps132;go_wp2_with fail;refine HTH.o.mono ?_;rintro e w1 ⟨rfl,rfl⟩;go_wp2_with (at_builtin;refine cE rfl (.tmp 64) (.tmp 66) 27 rfl 3 i0 (.int .i64 0) 1 8 Tryz.underlying27 Hi.o Hz0.o Hz1.o Hz2.o rfl (by decide) _ s.ep.length (s.ep.map (Value.int .i64)) rfl ?ha ⟨w.heap.size,0,none⟩ 1 1 [.int .i64 i] rfl rfl ?hb ?hc ?hd ?he ?hf)
    case ha=>exact HJ.o.he.ab ((Kz w).alloc _) (λ_ _ h=>h)
    case hb=>exact bV w 3 _
    case hc=>intro u hu;simp at hu;subst hu;rfl
    case hd=>unfold maxLen;omega
    case he=>omega
    case hf=>
     intro v2 w2 hs2 hk2 ho2;obtain ⟨ao2,cap2,rfl,-,-,-⟩:=hs2.rd;have T2:=Hz (HJ.o.zV ((Kz w).alloc (.cells #[.int .i64 i] 3)) hs2 hk2 (by simpa using ho2));have K2:=Hz (((Kz w).alloc (.cells #[.int .i64 i] 3)).au HJ.o.hc (λh=>h));have K3:=Hz (hk2.au K2.o (λhv=>by
      obtain ⟨_,l,h⟩:=(HJ.o.he.ab ((Kz w).alloc (.cells #[.int .i64 i] 3)) (λ_ _ h=>h)).own hv
      exact K2.o.ne h (by decide) rfl))
     clear hs2 hk2 ho2 K2;have x0:=K3.o.cell 4;have xl:=K3.o.lt;have xf:=K3.o.free 4;simp only [Lz,aB] at x0;clear c0 c4 p0 pl cl;go_wp2_with fail;go_end0;refine ⟨rfl,?_⟩;rw [HL.o,<-HE.o];exact T2.o
   ·have k4':(k == 4)=false:=by simpa using k4
    rw [if_neg k4] at hGe;have HE:=Hz hGe;clear hGe k4;go_enter Tryz.func132,Tryz.ntmps132;go_wp2_with fail;refine HTH.o.mono ?_;rintro e w1 ⟨rfl,rfl⟩;go_wp2_with fail;go_end0;refine ⟨rfl,?_⟩;rw [HL.o,<-HE.o];exact me.refl HJ.o
end
end
section
open Go.RowKit
def jg (w:World) (b:Nat) (H:JH):Prop:=ak w b [.pointer (some ⟨H.pc,0,none⟩)] 138
def EA:Value->Bool
 | .bool b=>!b
 | _=>false
def nS (w:World) (b:Nat):Nat:=match w.heap[b]? with | some (.cells cs _ _)=>(cs.toList.filter EA).length | _=>0
def uR (w:World) (b i:Nat):Nat:=match w.cell? ⟨b,i,none⟩ with | some (.slice _ n _)=>n | _=>0
theorem qu {w:World} {b:Nat} {l:List Bool} {T:TypeId} (h:ak w b (l.map Value.bool) T):nS w b=bS l:=by
 unfold nS bS;unfold ak at h;rw [h];simp only [List.filter_map,Zp];congr 1
theorem BM {w:World} {b i n cap:Nat} {ao:Option Addr} (h:w.cell? ⟨b,i,none⟩=some (.slice ao n cap)):uR w b i=n:=by unfold uR;rw [h]
section
variable {w w':World} {H:JH} {sv ev rv qv:Value} {A:Ar} {s:Gs} {f:List Int} {T:Int->Prop} {L sp:Nat} {rg q:List (Int × Int)}
theorem cA.rH (J:cA w H sv ev A s f) {b:Nat} (hb:jg w b H):¬ H.Own sv ev b:=λh=>by
 obtain ⟨_,T,h',hT⟩:=J.bE h;refine hb.ne h' ?_ rfl;rcases hT with rfl | rfl | rfl | rfl | rfl | rfl <;> decide
theorem cA.cQ {p:Nat} (J:cA w H sv ev A s f) (S:a7 w p rv qv rg q) {k:Nat} (hk:H.Own sv ev k):¬ aG p rv qv k:=λhs=>by
 obtain ⟨_,T,h,hT⟩:=J.bE hk;obtain ⟨_,U,h',hU⟩:=S.cM hs;refine h.ne h' ?_ rfl;rcases hT with rfl | rfl | rfl | rfl | rfl | rfl <;> rcases hU with rfl | rfl <;> decide
theorem wM (x:Int) (w:World):Calls Tryz.prog 87 #[.int .i64 x] w λe w'=>e=.returned (.int .i64 x)/\w=w':=by
 go_enter Tryz.func87,Tryz.ntmps87;go_wp2_with fail;go_ret;exact ⟨rfl,rfl⟩
theorem yI (x:Int) (b:Nat) (J:cA w H sv ev A s f) (S:dT A T) (G:bM A T s L) (hx:Dm T x) (hL:L<=100000) (hb:jg w b H) :
  Calls Tryz.prog 133 #[.int .i64 x, .pointer (some ⟨b,0,none⟩)] w λe w'=>e=.returned (.int .i64 x)/\mL w H sv ev A (cP s x) f w':=by
 have HM:=Hz (lq x J S G hx hL);have b0:=hb.cell 0;have bl:=hb.lt;simp only [Lz] at b0;clear J S G hb;go_enter Tryz.func133,Tryz.ntmps133;go_wp2_with fail;refine HM.o.mono ?_;rintro e w1 ⟨rfl,t⟩;have T1:=Hz t;clear t b0 bl;go_wp2_with fail;go_ret;exact ⟨rfl,T1.o⟩
def Dd (H:JH) (A:Ar) (f:List Int) (T:Int->Prop) (L:Nat) (S:dT A T) (hL:L<=100000) (sp b:Nat):eO Tryz.prog sp Gs where
 J:=λw s F=>∃ sv ev,cA w H sv ev A s f/\bM A T s L/\jg w b H/\F=λk=>H.Own sv ev k\/k=b
 D:=λ_ x=>Dm T x
 DK:=λ_ x=>Dm T x
 alive:=aS
 ab:=λs q x=>((lN s x).1,q,(lN s x).2)
 now:=λ_ x=>x
 fa:=88
 fk:=133
 fn:=87
 a1:=#[.pointer (some ⟨H.pc,0,none⟩)]
 a2:=#[]
 k1:=#[]
 k2:=#[.pointer (some ⟨b,0,none⟩)]
 n1:=#[]
 n2:=#[]
 ea:=λargs w=>by kernel_rfl
 ek:=λargs w=>by kernel_rfl
 en:=λargs w=>by kernel_rfl
 J_keep:=λh k hn=>by
  obtain ⟨sv,ev,h1,h2,h3,rfl⟩:=h;exact ⟨sv,ev,h1.ab k (λb hb=>hn b (.inl hb)),h2,k.au h3 (hn _ (.inr rfl)),rfl⟩
 J_lt:=λh hk=>by
  obtain ⟨sv,ev,h1,h2,h3,rfl⟩:=h;rcases hk with hk | rfl
  ·exact h1.aZ hk
  ·exact h3.lt
 cX:=λw t F x hJ hx=>by
  obtain ⟨sv,ev,h1,h2,-⟩:=hJ;exact (h1.cX x S h2 hx).mono (by rintro e w' ⟨rfl,rfl⟩;exact ⟨rfl,aa.refl _ _⟩)
 now_c:=λw t F x hJ _=>(wM x w).mono (by rintro e w' ⟨rfl,rfl⟩;exact ⟨rfl,aa.refl _ _⟩)
 keep_c:=λw t F rv qv ai wait x hJ hS hA hx hq hl=>by
  obtain ⟨sv,ev,h1,h2,h3,rfl⟩:=hJ;refine (yI x b h1 S h2 hx hL h3).mono ?_;rintro e w' ⟨rfl,sv',J',k',o'⟩;have hS':=hS.ab k' (λb hb hk=>hA b ⟨.inl hk,hb⟩);refine ⟨rfl,_,⟨sv',ev,J',(h2.mark S hx).1,k'.au h3 (h1.rH h3),rfl⟩,hS',λk hk=>?_,k'.mono (λ_ _ h=>.inl (.inl h)),λk hk=>?_⟩
  ·rcases hk with ⟨hk | hk,hs⟩
   ·exact J'.cQ hS' hk hs
   ·exact hA k ⟨.inr hk,hs⟩
  ·rcases hk with hk | hk
   ·exact (o' k hk).imp .inl id
   ·exact .inl (.inr hk)
 DK_D:=λh=>h
 DK_keep:=λ_ h=>h
 D_keep:=λ_ h=>h
 D_new:=λh=>h
 D_wait:=λ_ h=>h
 keep_len:=rfl
structure JS (w:World) (H:JH) (sp:Nat) (sv ev rv qv:Value) (A:Ar) (f:List Int) (T:Int->Prop) (L:Nat) (rg q:List (Int × Int)) (s:Gs):Prop where
 J:cA w H sv ev A s f
 S:a7 w sp rv qv rg q
 ok:bM A T s L
def gq (w:World) (H:JH) (sp:Nat) (sv ev rv qv:Value) (A:Ar) (f:List Int) (T:Int->Prop) (L:Nat) (rg q:List (Int × Int)) (s:Gs) (w':World):Prop:=
 ∃ sv' ev',JS w' H sp sv' ev' rv qv A f T L rg q s/\aa (λk=>H.Own sv ev k\/aG sp rv qv k) w w'/\∀ k,H.Own sv' ev' k->H.Own sv ev k\/w.heap.size<=k
theorem JS.ab {S:Nat->Prop} (C:JS w H sp sv ev rv qv A f T L rg q s) (k:aa S w w') (h1:∀ b,H.Own sv ev b->¬ S b) (h2:∀ b,aG sp rv qv b->¬ S b):JS w' H sp sv ev rv qv A f T L rg q s:=
 ⟨C.J.ab k h1,C.S.ab k h2,C.ok⟩
theorem JS.same (C:JS w H sp sv ev rv qv A f T L rg q s) (k:aa (λ_=>False) w w'):JS w' H sp sv ev rv qv A f T L rg q s:=C.ab k (λ_ _ h=>h) (λ_ _ h=>h)
theorem gq.refl (C:JS w H sp sv ev rv qv A f T L rg q s) (k:aa (λ_=>False) w w'):gq w H sp sv ev rv qv A f T L rg q s w':=⟨sv,ev,C.same k,k.mono (λ_ _ h=>h.elim),λ_ h=>.inl h⟩
theorem gq.join {w1:World} {sv1 ev1:Value} (k1:aa (λk=>H.Own sv ev k\/aG sp rv qv k) w w1) (o1:∀ k,H.Own sv1 ev1 k->H.Own sv ev k\/w.heap.size<=k) (t:gq w1 H sp sv1 ev1 rv qv A f T L rg q s w'):gq w H sp sv ev rv qv A f T L rg q s w':=by
 obtain ⟨a2,b2,J2,k2,o2⟩:=t;refine ⟨a2,b2,J2,k1.then k2 (λk hk=>?_),λk hk=>?_⟩
 ·rcases hk with hk | hk
  ·exact (o1 k hk).imp .inl id
  ·exact .inl (.inr hk)
 ·rcases o2 k hk with h | h
  ·exact o1 k h
  ·exact .inr (Za k1.size h)
theorem JS.var (C:JS w H sp sv ev rv qv A f T L rg q s) {b:Nat} (hb:jg w b H) (k:aa (λk=>H.Own sv ev k\/aG sp rv qv k) w w'):jg w' b H:=k.au hb (λh=>by
 rcases h with h | h
 ·exact C.J.rH hb h
 ·obtain ⟨_,U,h',hU⟩:=C.S.cM h;refine hb.ne h' ?_ rfl
  rcases hU with rfl | rfl <;> decide)
def De (w:World) (H:JH) (sp b:Nat) (sv ev rv qv:Value) (A:Ar) (f:List Int) (T:Int->Prop) (L:Nat) (rg q:List (Int × Int)) (s:Gs) (m:Value) (wr:World):Prop:=
 (∃ (n:Nat) (s1:Gs),m=.bool true/\gq w H sp sv ev rv qv A f T L rg q s1 wr/\jg wr b H/\eM A q 2000 s=eM A q (n+1) s1/\bS s1.lv<=n) \/
  (m=.bool false/\gq w H sp sv ev rv qv A f T L rg q (eM A q 2000 s) wr)
def lR (H:JH) (m:Value) (wr:World):Nat:=nS wr H.lb+match m with | .bool true=>1 | _=>0
def D5 (w:World) (H:JH) (sp b:Nat) (sv ev rv qv:Value) (A:Ar) (f:List Int) (T:Int->Prop) (L:Nat) (rg q:List (Int × Int)) (s:Gs) (wr:World):Prop:=
 ∃ (n:Nat) (s2:Gs),gq w H sp sv ev rv qv A f T L rg q s2 wr/\jg wr b H/\jPops A 2000 s=jPops A n s2/\jM s2<n
theorem xG (h:bM A T s L) (hL:L<=1900):jM s<2000:=by have:=h.sum;unfold jM;omega
theorem cA.jM (J:cA w H sv ev A s f):uR w H.pc 3+nS w H.lb=Proofs.YtjifdalflepcoadGreat.jM s:=by
 obtain ⟨so,sc,e,-,-,-⟩:=J.hs.rd;have c3:=J.cells.2.2.2.1;rw [e] at c3;rw [BM c3,qu J.hl]
 rfl
theorem gq.jM (t:gq w H sp sv ev rv qv A f T L rg q s w'):uR w' H.pc 3+nS w' H.lb=Proofs.YtjifdalflepcoadGreat.jM s:=by
 obtain ⟨_,_,C,-,-⟩:=t;exact C.J.jM
theorem gq.bS (t:gq w H sp sv ev rv qv A f T L rg q s w'):nS w' H.lb=Proofs.YtjifdalflepcoadGreat.bS s.lv:=by
 obtain ⟨_,_,C,-,-⟩:=t;exact qu C.J.hl
theorem uS (C:JS w H sp sv ev rv qv A f T L rg q s) (S:dT A T) (hq:∀ e ∈ q,Dm T e.1/\Dm T e.2) (hql:q.length<=1000000) (hL:L<=1900) :
  Calls Tryz.prog 86 #[.pointer (some ⟨H.pc,0,none⟩), .pointer (some ⟨sp,0,none⟩)] w λe w'=>e=.returned (.tuple #[])/\gq w H sp sv ev rv qv A f T L rg q (eM A q 2000 s) w':=by
 have HC0:=Hz C;have HS:=Hz S;have HQ:=Hz hq;have HQL:=Hz hql;clear C S hq hql;generalize hwx:w.alloc (.cells #[.pointer (some ⟨H.pc,0,none⟩)] 138)=wx;have HK:=Hz (show aa (λ_=>False) w wx by rw [<-hwx];exact (aa.refl _ _).alloc _);have HB:=Hz (show jg wx w.heap.size H by rw [<-hwx];exact ak.newAt _ rfl rfl);have HX:=Hz hwx;have HC:=Hz (HC0.o.same HK.o);have HTJ:=Hz (gq.refl HC0.o HK.o);clear hwx HC0;go_enter Tryz.func86,Tryz.ntmps86;go_wp2_with fail;rw [HX.o];generalize hbe:w.heap.size=b at HB HX ⊢;have BG:=Hz (Nat.le_of_eq hbe);clear HX hbe;go_loopw [4] (λm wr=>De w H sp b sv ev rv qv A f T L rg q s m wr) (λm wr=>lR H m wr)
 case atStart=>exact .inl ⟨1999,s,rfl,HTJ.o,HB.o,rfl,by have:=HC.o.ok.sum;omega⟩
 case round=>
  rcases hrel with ⟨n,s1,rfl,ht,ay,he,hn⟩ | ⟨rfl,ht⟩
  ·obtain ⟨sv1,ev1,C1,k1,o1⟩:=ht;have HMU:=Hz (show lR H (.bool true) wr=bS s1.lv+1 by unfold lR;rw [qu C1.J.hl]);have HC1:=Hz C1;have K1:=Hz k1;have O1:=Hz o1;have HE:=Hz he;have HN:=Hz hn;have HB1:=Hz ay;clear C1 k1 o1 he hn ay HB;obtain ⟨w1,rfl⟩:∃ x:World,x=wr:=⟨wr,rfl⟩;go_wp2_with fail;go_loopw [14] (λ_ wr=>D5 w1 H sp b sv1 ev1 rv qv A f T L rg q s1 wr) (λ_ wr=>uR wr H.pc 3+nS wr H.lb)
   case atStart=>exact ⟨2000,s1,gq.refl HC1.o (aa.refl _ _),HB1.o,rfl,xG HC1.o.ok hL⟩
   case round=>
    obtain ⟨m,s2,⟨sv2,ev2,C2,k2,o2⟩,bG,he2,hm2⟩:=hrel;have HC2:=Hz C2;have K2:=Hz k2;have O2:=Hz o2;have HE2:=Hz he2;have HM2:=Hz hm2;have HB2:=Hz bG;clear k2 o2 he2 hm2;have b0:=bG.cell 0;have bl:=bG.lt;simp only [Lz] at b0;have c3:=C2.J.cells.2.2.2.1;have c4:=C2.J.cells.2.2.2.2.1;have cl:=C2.J.hc.lt;clear bG C2;obtain ⟨so,sc,rfl,hsr,-,hsc⟩:=HC2.o.J.hs.rd;obtain ⟨eo,ec,rfl,-,-,-⟩:=HC2.o.J.he.rd;have HLF:=Hz HC2.o.J.jM;have hstl:s2.st.length<=2000:=by have:=HC2.o.ok.sum;omega
    have hepl:s2.ep.length<=2000:=by have:=HC2.o.ok.sum;omega
    by_cases hne:s2.st=[]
    ·have hl0:s2.st.length=0:=by rw [hne];rfl
     have HST:=Hz (show jPops A 2000 s1=s2 by rw [HE2.o,xy _ hne]);rw [hl0] at c3;clear hne hsr hsc HE2 HM2 HLF hstl hl0;obtain ⟨w2,rfl⟩:∃ x:World,x=wr:=⟨wr,rfl⟩;go_wp2_with fail;go_loopw [49] (λu wr=>∃ k:Nat,k<=s2.ep.length/\u=.int .i64 k/\∃ sv',JS wr H sp sv' (.slice eo s2.ep.length ec) rv qv A f T L rg q (iz A s2 (s2.ep.take k))/\aa (λk=>H.Own (.slice so s2.st.length sc) (.slice eo s2.ep.length ec) k\/aG sp rv qv k) w2 wr/\(∀ k,H.Own sv' (.slice eo s2.ep.length ec) k->H.Own (.slice so s2.st.length sc) (.slice eo s2.ep.length ec) k\/w2.heap.size<=k)/\jg wr b H) (λu _=>s2.ep.length-(intOf u).toNat)
     case atStart=>exact ⟨0,Zc _,rfl,_,HC2.o,aa.refl _ _,λ_ h=>.inl h,HB2.o⟩
     case round=>
      clear c3 c4 cl b0 bl;obtain ⟨k,hk,rfl,sv3,C3,k3,o3,ew⟩:=hrel;have HC3:=Hz C3;have K3:=Hz k3;have O3:=Hz o3;have HB3:=Hz ew;clear C3 k3 o3 ew;have hee:=wH A (s2.ep.take k) s2;have b0:=HB3.o.cell 0;have bl:=HB3.o.lt;simp only [Lz] at b0;have c0:=HC3.o.J.cells.1;have p0:=HC3.o.J.cells.2.2.2.2.2;have pl:=HC3.o.J.hp.lt;have cl:=HC3.o.J.hc.lt;by_cases hlt:k<s2.ep.length
      ·have he3:=HC3.o.J.he;rw [hee] at he3;obtain ⟨_,_,e',rd,-,-⟩:=he3.rd;cases e';obtain ⟨ge,oe,rfl,d0⟩:=rd.int k hlt;have hgl:=(he3.own rfl).1;have hmem:s2.ep.getD k 0 ∈ s2.ep:=by rw [Ld,Le hlt];exact Ze hlt
       have hin:=HC2.o.ok.ep _ hmem;have hbd:=HS.o.bd _ hin.1;have h4:=HS.o.ok.h4;have HTK:=Hz (yx (A:=A) (s:=s2) hlt);generalize s2.ep.getD k 0=i at *;have D1:=Hz (show Dm T (A.load (i+1)) from HS.o.fd i hin.1 _ (HS.o.two i hin.1 (.inr hin.2)).1);have D2:=Hz (show Dm T (A.load (i+2)) from HS.o.fd i hin.1 _ (HS.o.two i hin.1 (.inr hin.2)).2);have GE:=Hz (HC3.o.ok.uj HS.o hin).1;have hi1:IntKind.i64.wrap (i+1)=i+1:=IntWalk.i64_in _ (by omega);have hi2:IntKind.i64.wrap (i+2)=i+2:=IntWalk.i64_in _ (by omega);obtain ⟨s3,hs3⟩:∃ s,iz A s2 (s2.ep.take k)=s:=⟨_,rfl⟩;rw [hs3] at HC3 HTK GE hee;have HEE:=Hz hee;clear rd hmem he3 hs3 hin hee;go_wp2_with fail;refine a6 (.free 8 (.free 9 (.pure 0 (.pure 1 (.free 2 (.free 3 (.pure 4 (.free 5 (.free 6 (.pure 7 (.run 10 (.run 11 (.swi [] (.fin)))))))))))))) [11] (Fz b0 (Fz c0 (Fa p0))) ?_
       iterate 10 refine Wz ?_
       have HC4:=Hz (HC3.o.same ((Kz wr).drew));have HB4:=Hz ((Kz wr).drew.au HB3.o (λh=>h));have K4:=Hz (K3.o.trans ((Kz wr).drew.mono (λ_ _ h=>h.elim)));refine aN rfl rfl (λK hK=>?_);unfold ax;go_simp;refine (eW (i+1) _ HC4.o.J.ha).mono ?_;rintro e w4 ⟨rfl,rfl⟩;refine hK _ _ (λh=>h) ?_;clear hK K;refine aD rfl rfl rfl (λK hK=>?_);unfold ax;go_simp;refine (HC4.o.J.cX _ HS.o HC4.o.ok D1.o).mono ?_;rintro e w4 ⟨rfl,rfl⟩;refine hK _ _ ?_;clear hK K b0 bl c0 p0 pl cl d0 hgl HC3 HB3 K3;refine aC (λ_=>True) trivial (av ?_);generalize wr.drew=wr at *;cases hal:aS s3 (A.load (i+1))
       ·have HJ1:=Hz (show fL A s3 i=s3 by unfold fL;rw [hal];rfl);clear hal;go_wp2_with fail;go_roundw
        case rel=>exact ⟨k+1,hlt,by go_num,_,by rw [HTK.o,HJ1.o];exact HC4.o,K4.o,O3.o,HB4.o⟩
        case measure=>simp [intOf];omega
       ·have HJ1:=Hz (show fL A s3 i=cP s3 (A.load (i+2)) by unfold fL;rw [hal];rfl);clear hal;have b0:=HB4.o.cell 0;have bl:=HB4.o.lt;simp only [Lz] at b0;have c0:=HC4.o.J.cells.1;have p0:=HC4.o.J.cells.2.2.2.2.2;have pl:=HC4.o.J.hp.lt;have cl:=HC4.o.J.hc.lt;go_wp2_with fail;refine a6 (.free 8 (.free 9 (.pure 0 (.pure 1 (.free 2 (.free 3 (.pure 4 (.free 5 (.free 6 (.pure 7 (.run 10 (.run 11 (.swi [] (.fin)))))))))))))) [11] (Fz b0 (Fz c0 (Fa p0))) ?_
        iterate 10 refine Wz ?_
        have HC5:=Hz (HC4.o.same ((Kz wr).drew));have HB5:=Hz ((Kz wr).drew.au HB4.o (λh=>h));have K5:=Hz (K4.o.trans ((Kz wr).drew.mono (λ_ _ h=>h.elim)));refine aN rfl rfl (λK hK=>?_);unfold ax;go_simp;refine (eW (i+2) _ HC5.o.J.ha).mono ?_;rintro e w4 ⟨rfl,rfl⟩;refine hK _ _ (λh=>h) ?_;clear hK K;refine aD rfl rfl rfl (λK hK=>?_);unfold ax;go_simp;refine (lq _ HC5.o.J HS.o HC5.o.ok D2.o (by omega)).mono ?_;rintro e w6 ⟨rfl,sv6,J6,k6,o6⟩;have HB6:=Hz (k6.au HB5.o (HC5.o.J.rH HB5.o));have GE':=GE.o;rw [HJ1.o] at GE';have C6:=Hz (show JS w6 H sp sv6 (.slice (some ⟨ge,oe,none⟩) s2.ep.length ec) rv qv A f T L rg q (cP s3 (A.load (i+2))) from ⟨J6,HC5.o.S.ab k6 (λb hb hk=>HC5.o.J.cQ HC5.o.S hk hb),GE'⟩);have K6:=Hz (K5.o.then (k6.mono (T:=λk=>H.Own sv3 (.slice (some ⟨ge,oe,none⟩) s2.ep.length ec) k\/aG sp rv qv k) (λ_ _ h=>.inl h)) (λk hk=>by
         rcases hk with hk | hk
         ·exact (O3.o k hk).imp .inl id
         ·exact .inl (.inr hk)))
        have O6:=Hz (show ∀ k,H.Own sv6 (.slice (some ⟨ge,oe,none⟩) s2.ep.length ec) k->H.Own (.slice so s2.st.length sc) (.slice (some ⟨ge,oe,none⟩) s2.ep.length ec) k\/w2.heap.size<=k from λk hk=>by
         rcases o6 k hk with h | h
         ·exact O3.o k h
         ·exact .inr (Za K5.o.size h))
        refine hK _ _ ?_;clear hK K b0 bl c0 p0 pl cl J6 k6 o6 GE';refine aC (λ_=>True) trivial (av ?_);go_wp2_with fail;go_roundw
        case rel=>exact ⟨k+1,hlt,by go_num,_,by rw [HTK.o,HJ1.o];exact C6.o,K6.o,O6.o,HB6.o⟩
        case measure=>simp [intOf];omega
      ·obtain rfl:k=s2.ep.length:=by omega
       rw [List.take_length] at HC3 hee;obtain ⟨s3,hs3⟩:∃ s,iz A s2 s2.ep=s:=⟨_,rfl⟩;have HS3:=Hz hs3;rw [hs3] at HC3;clear hs3 hee hlt hk;go_wp2_with fail;refine (Bt sp (Dd H A f T L HS.o (by omega) sp b) lN (λ_ _ _=>rfl) s3 (λk=>H.Own sv3 (.slice eo s2.ep.length ec) k\/k=b) rv qv rg q wr (λ_ _ h _=>h) ⟨_,_,HC3.o.J,HC3.o.ok,HB3.o,rfl⟩ HC3.o.S (λk hk=>by
        rcases hk with ⟨hk | hk,hs⟩
        ·exact HC3.o.J.cQ HC3.o.S hk hs
        ·subst hk;obtain ⟨_,U,h',hU⟩:=HC3.o.S.cM hs;refine HB3.o.ne h' ?_ rfl
         rcases hU with rfl | rfl <;> decide) HQL.o (λe he=>HQ.o e he)).mono ?_
       rintro e w6 ⟨rfl,F6,⟨sv6,ev6,hJ6,hG6,hB6,rfl⟩,hS6,-,hk6,hF6,-⟩;replace hS6:a7 w6 sp rv qv rg (wakeM aS lN s3 q).2.1:=hS6;rw [nA] at hS6;replace hJ6:cA w6 H sv6 ev6 A (wakeM aS lN s3 q).1 f:=hJ6;replace hG6:bM A T (wakeM aS lN s3 q).1 L:=hG6;have HRD:=Hz (show dv A q s1=(wakeM aS lN s3 q).1 by unfold dv;rw [HST.o,HS3.o]);rw [<-HRD.o] at hJ6 hG6;have C6:=Hz (show JS w6 H sp sv6 ev6 rv qv A f T L rg q (dv A q s1) from ⟨hJ6,hS6,hG6⟩);have KB:=Hz hB6;have T6:=Hz (show gq w H sp sv ev rv qv A f T L rg q (dv A q s1) w6 from by
        have k12:=K1.o.then K2.o (λk hk=>hk.elim (λh=>(O1.o k h).imp .inl id) (λh=>.inl (.inr h)));have o12:∀ k,H.Own (.slice so s2.st.length sc) (.slice eo s2.ep.length ec) k->H.Own sv ev k\/w.heap.size<=k:=λk hk=>by
         rcases O2.o k hk with h | h
         ·exact O1.o k h
         ·exact .inr (Za K1.o.size h)
        have k13:=k12.then K3.o (λk hk=>hk.elim (λh=>(o12 k h).imp .inl id) (λh=>.inl (.inr h)));have o13:∀ k,H.Own sv3 (.slice eo s2.ep.length ec) k->H.Own sv ev k\/w.heap.size<=k:=λk hk=>by
         rcases O3.o k hk with h | h
         ·exact o12 k h
         ·exact .inr (Za k12.size h)
        refine ⟨sv6,ev6,C6.o,k13.then hk6 (λk hk=>?_),λk hk=>?_⟩
        ·rcases hk with (hk | hk) | hk
         ·exact (o13 k hk).imp .inl id
         ·exact .inr (by rw [hk];exact BG.o)
         ·exact .inl (.inr hk)
        ·rcases hF6 k (.inl hk) with (h | h) | h
         ·exact o13 k h
         ·exact .inr (by rw [h];exact BG.o)
         ·exact .inr (Za k13.size h))
       have RD:=Hz (HC1.o.ok.round HS.o HQ.o (xG HC1.o.ok hL));have RF:=Hz (vE HC1.o.ok HS.o HQ.o (xG HC1.o.ok hL));have PF:=Hz (nH HS.o 2000 HC1.o.ok);have FW:=Hz T6.o.bS;clear hJ6 hG6 hB6 hS6 hk6 hF6 b0 bl c0 p0 pl cl HRD HS3 HC3 HB3 K3 O3;have b0:=KB.o.cell 0;have bl:=KB.o.lt;simp only [Lz] at b0;have c3:=C6.o.J.cells.2.2.2.1;have cl:=C6.o.J.hc.lt;obtain ⟨so6,sc6,rfl,-,-,-⟩:=C6.o.J.hs.rd;obtain ⟨s4,hs4⟩:∃ s,dv A q s1=s:=⟨_,rfl⟩;have HS4:=Hz hs4;rw [hs4] at C6 T6 RD RF FW c3;clear hs4;by_cases hne:s4.st=[]
       ·have hl0:s4.st.length=0:=by rw [hne];rfl
        have HNE:=Hz hne;rw [hl0] at c3;clear hne hl0;go_wp2_with fail;go_roundw
        case rel=>exact .inr ⟨rfl,by rw [HE.o,eM,if_pos (by rw [HS4.o];exact HNE.o),HS4.o];exact T6.o⟩
        case measure=>
         have h1:=HMU.o;have h2:=RF.o;have h3:=FW.o;rw [h1];unfold lR;rw [h3];dsimp only;omega
       ·have HNE:=Hz hne;have hpos:=List.length_pos_iff.2 hne;obtain ⟨l,hl⟩:∃ l,s4.st.length=l+1:=⟨s4.st.length-1,by omega⟩;rw [hl] at c3;have hlt:=RD.o.2.2.1 hne;have HLT:=Hz hlt;have hll:l<=2000:=by have:=RD.o.1.sum;omega
        have hd2:(0:Int)<(l:Int)+1:=by omega
        have hd:decide ((0:Int)<(l:Int)+1)=true:=decide_eq_true hd2;clear hne hpos hl hlt;go_wp2_with fail;go_roundw
        case rel=>
         refine .inl ⟨n-1,s4,rfl,T6.o,KB.o,?_,?_⟩
         ·rw [HE.o];obtain ⟨n,rfl⟩:∃ k,n=k+1:=⟨n-1,by have:=HN.o;have:=HLT.o;have:=PF.o;omega⟩
          show eM A q (n+1+1) s1=eM A q (n+1) s4
          rw [eM,HS4.o,if_neg HNE.o]
         ·have:=HN.o;have:=HLT.o;have:=PF.o;omega
        case measure=>
         have h1:=HMU.o;have h2:=RF.o;have h3:=FW.o;have h4:=HLT.o;have h5:=PF.o;rw [h1];unfold lR;rw [h3];dsimp only;omega
    ·have hpos:=List.length_pos_iff.2 hne;obtain ⟨l,hl⟩:∃ l,s2.st.length=l+1:=⟨s2.st.length-1,by omega⟩;obtain ⟨g,o,rfl,d0⟩:=hsr.int l (by omega);have hgl:=(HC2.o.J.hs.own rfl).1;obtain ⟨hpG,hpM⟩:=HC2.o.ok.pop HS.o hne;obtain ⟨hdG,hdM,hdT⟩:=HC2.o.ok.drop hne;have hlast:s2.st.getLastD 0=s2.st.getD l 0:=by
      rw [List.getLastD_eq_getLast?,List.getLast?_eq_getElem?,hl,Ld];rfl
     have HP:=Hz (show i7 A s2=jy A { s2 with st:=s2.st.dropLast } (s2.st.getD l 0) by unfold i7;rw [hlast]);rw [hlast] at hdT;have PG:=Hz hpG;have PM:=Hz hpM;have DG:=Hz hdG;have DT:=Hz hdT;have HNE:=Hz hne;have HSL:=Hz hl;rw [hl] at HC2 c3 hsc O2;clear hpG hpM hdG hdM hdT hlast hne hpos hl hsr;generalize s2.st.getD l 0=x at *;have hll:l<=2000:=by have:=HSL.o;omega
     have hwl:IntKind.i64.wrap (l:Int)=l:=IntWalk.i64_in _ (by omega);have hl1:(l:Int)<(l:Int)+1:=by omega
     have hlc:l<=sc:=by omega
     go_wp2_with fail;refine a6 (.pure 0 (.free 1 (.free 2 (.pure 3 (.pure 4 (.free 5 (.free 6 (.pure 7 (ftq [8,9,10] (.pure 11 (.free 12 (.fin)))))))))))) [] (Fz b0 (Fz c3 (Fa d0))) ?_
     iterate 13 refine Wz ?_
     refine av ?_;have HC3:=Hz (HC2.o.same ((Kz wr).drew));have HB3:=Hz ((Kz wr).drew.au HB2.o (λh=>h));have K3:=Hz (K2.o.trans ((Kz wr).drew.mono (λ_ _ h=>h.elim)));clear b0 c3 d0 bl c4 cl hgl;generalize wr.drew=wr at *;have b0:=HB3.o.cell 0;have bl:=HB3.o.lt;simp only [Lz] at b0;have c3:=HC3.o.J.cells.2.2.2.1;have cl:=HC3.o.J.hc.lt;have cf:=HC3.o.J.hc.free 3;go_wp2_with fail;refine a6 (.pure 0 (.pure 1 (.free 2 (.free 3 (.pure 4 (.pure 5 (.free 6 (.free 7 (.pure 8 (ftq [9,10,11,12,13] (.run 14 (.swi [] (.fin))))))))))))) [14] (Fz b0 (Fa c3)) ?_
     iterate 14 refine Wz ?_
     refine aD rfl rfl rfl (λK hK=>?_);unfold ax;go_simp;refine hK _ _ ?_;clear hK K;refine aC (λ_=>True) trivial (av ?_);have EV:=Hz (show aa (λk=>H.Own (.slice (some ⟨g,o,none⟩) (l+1) sc) (.slice eo s2.ep.length ec) k\/aG sp rv qv k) wr (wr.setCell ⟨H.pc,3,none⟩ (.slice (some ⟨g,o,none⟩) l sc)).drew from
      ((aa.refl _ wr).setCell (p:=⟨H.pc,3,none⟩) (.inl (.inl (.inr (.inr (.inr (.inl rfl)))))) _).drew)
     have HC4:=Hz (show JS (wr.setCell ⟨H.pc,3,none⟩ (.slice (some ⟨g,o,none⟩) l sc)).drew H sp (.slice (some ⟨g,o,none⟩) l sc) (.slice eo s2.ep.length ec) rv qv A f T (L-1) rg q { s2 with st:=s2.st.dropLast } from
      ⟨(HC3.o.J.pop HSL.o).same (Kz _).drew,HC3.o.S.ab (((aa.refl (·=H.pc) wr).setCell (p:=⟨H.pc,3,none⟩) (.inl rfl) _).drew) (λb' hb' e=>HC3.o.J.cQ HC3.o.S (k:=H.pc) (.inr (.inr (.inr (.inl rfl)))) (e ▸ hb')),DG.o⟩)
     have HB4:=Hz (show jg (wr.setCell ⟨H.pc,3,none⟩ (.slice (some ⟨g,o,none⟩) l sc)).drew b H from HC3.o.var HB3.o EV.o);clear b0 bl c3 cl cf;generalize (wr.setCell ⟨H.pc,3,none⟩ (.slice (some ⟨g,o,none⟩) l sc)).drew=w4 at *;have b0:=HB4.o.cell 0;have bl:=HB4.o.lt;simp only [Lz] at b0;go_wp2_with fail;refine (BL x HC4.o.J HS.o HC4.o.ok DT.o (by omega)).mono ?_;rintro e w6 ⟨rfl,t⟩;have HB6:=Hz (show jg w6 b H from by
      obtain ⟨_,_,_,k6,_⟩:=id t
      exact k6.au HB4.o (HC4.o.J.rH HB4.o))
     rw [<-HP.o] at t;have T6:=Hz (show gq w1 H sp sv1 ev1 rv qv A f T L rg q (i7 A s2) w6 from by
      obtain ⟨a,b',J6,k6,o6⟩:=t;have k14:=K3.o.then EV.o (λk hk=>hk.elim (λh=>(O2.o k h).imp .inl id) (λh=>.inl (.inr h)));refine gq.join k14 (sv1:=.slice (some ⟨g,o,none⟩) l sc) (ev1:=.slice eo s2.ep.length ec) (λk hk=>O2.o k hk) ?_
      exact ⟨a,b',⟨J6,HC4.o.S.ab k6 (λb hb hk=>HC4.o.J.cQ HC4.o.S hk hb),PG.o⟩,k6.mono (λ_ _ h=>.inl h),o6⟩)
     clear t b0 bl;go_wp2_with fail;go_roundw
     case rel=>
      refine ⟨m-1,i7 A s2,T6.o,HB6.o,?_,by have:=PM.o;have:=HM2.o;omega⟩;rw [HE2.o];obtain ⟨m,rfl⟩:∃ k,m=k+1:=⟨m-1,by have:=HM2.o;omega⟩
      show jPops A (m+1) s2=jPops A m (i7 A s2)
      rw [jPops,if_neg HNE.o]
     case measure=>
      have h1:=HLF.o;have h2:=T6.o.jM;have h3:=PM.o;rw [h1,h2];omega
  ·have HT:=Hz ht;clear ht;go_wp2_with fail;go_end0;exact ⟨rfl,HT.o⟩
end
end
section
open Go.RowKit
def uT (w:World) (b sp:Nat):Prop:=ak w b [.pointer (some ⟨sp,0,none⟩)] 72
section
variable {w w':World} {H:JH} {sv ev rv qv:Value} {A:Ar} {s:Gs} {f:List Int} {T:Int->Prop} {L sp:Nat} {rg q:List (Int × Int)}
theorem JS.zZ (C:JS w H sp sv ev rv qv A f T L rg q s) {b:Nat} (hb:uT w b sp) (k:aa (λk=>H.Own sv ev k\/aG sp rv qv k) w w'):uT w' b sp:=k.au hb (λh=>by
 rcases h with h | h
 ·obtain ⟨_,T,h',hT⟩:=C.J.bE h;refine hb.ne h' ?_ rfl;rcases hT with rfl | rfl | rfl | rfl | rfl | rfl <;> decide
 ·obtain ⟨_,U,h',hU⟩:=C.S.cM h;refine hb.ne h' ?_ rfl
  rcases hU with rfl | rfl <;> decide)
theorem BO (x:Int) (b b2:Nat) (C:JS w H sp sv ev rv qv A f T L rg q s) (S:dT A T) (hq:∀ e ∈ q,Dm T e.1/\Dm T e.2) (hql:q.length<=1000000) (hL:L<=1900) (hx:Dm T x) (hb:jg w b H) (bG:uT w b2 sp) :
  Calls Tryz.prog 89 #[.int .i64 x, .pointer (some ⟨b,0,none⟩), .pointer (some ⟨b2,0,none⟩)] w λe w'=>e=.returned (.int .i64 x)/\gq w H sp sv ev rv qv A f T L rg q (eM A q 2000 (cP s x)) w':=by
 have HM:=Hz (lq x C.J S C.ok hx (by omega));have HC:=Hz C;have HS:=Hz S;have HQ:=Hz hq;have HX:=Hz hx;have HB:=Hz hb;have HB2:=Hz bG;have b0:=hb.cell 0;have bl:=hb.lt;simp only [Lz] at b0;clear C S hq hx hb bG;go_enter Tryz.func89,Tryz.ntmps89;go_wp2_with fail;refine HM.o.mono ?_;rintro e w1 ⟨rfl,t⟩;obtain ⟨sv1,J1,k1,o1⟩:=t;have KJ:=Hz (k1.mono (T:=λk=>H.Own sv ev k\/aG sp rv qv k) (λ_ _ h=>.inl h));have C1:=Hz (show JS w1 H sp sv1 ev rv qv A f T L rg q (cP s x) from ⟨J1,HC.o.S.ab k1 (λb hb hk=>HC.o.J.cQ HC.o.S hk hb),(HC.o.ok.mark HS.o HX.o).1⟩);have B1:=Hz (HC.o.var HB.o KJ.o);have B2:=Hz (HC.o.zZ HB2.o KJ.o);have O1:=Hz o1;clear b0 bl J1 k1 o1;have b0:=B1.o.cell 0;have bl:=B1.o.lt;have c0:=B2.o.cell 0;have cl:=B2.o.lt;simp only [Lz] at b0 c0;go_wp2_with fail;refine (uS C1.o HS.o HQ.o hql hL).mono ?_;rintro e w2 ⟨rfl,t⟩;have T2:=Hz (gq.join KJ.o O1.o t);clear t b0 bl c0 cl;go_wp2_with fail;go_ret;exact ⟨rfl,T2.o⟩
def qx (H:JH) (A:Ar) (f:List Int) (T:Int->Prop) (L:Nat) (S:dT A T) (hL:L<=1900) (sp b b2:Nat):eO Tryz.prog sp Gs where
 J:=λw s F=>∃ sv ev,cA w H sv ev A s f/\bM A T s L/\jg w b H/\uT w b2 sp/\F=λk=>H.Own sv ev k\/k=b\/k=b2
 D:=λ_ x=>Dm T x
 DK:=λ_ x=>Dm T x
 alive:=aS
 ab:=iV A
 now:=fM
 fa:=88
 fk:=89
 fn:=87
 a1:=#[.pointer (some ⟨H.pc,0,none⟩)]
 a2:=#[]
 k1:=#[]
 k2:=#[.pointer (some ⟨b,0,none⟩), .pointer (some ⟨b2,0,none⟩)]
 n1:=#[]
 n2:=#[]
 ea:=λargs w=>by kernel_rfl
 ek:=λargs w=>by kernel_rfl
 en:=λargs w=>by kernel_rfl
 J_keep:=λh k hn=>by
  obtain ⟨sv,ev,h1,h2,h3,h4,rfl⟩:=h;exact ⟨sv,ev,h1.ab k (λb hb=>hn b (.inl hb)),h2,k.au h3 (hn _ (.inr (.inl rfl))),k.au h4 (hn _ (.inr (.inr rfl))),rfl⟩
 J_lt:=λh hk=>by
  obtain ⟨sv,ev,h1,h2,h3,h4,rfl⟩:=h;rcases hk with hk | rfl | rfl
  ·exact h1.aZ hk
  ·exact h3.lt
  ·exact h4.lt
 cX:=λw t F x hJ hx=>by
  obtain ⟨sv,ev,h1,h2,-⟩:=hJ;exact (h1.cX x S h2 hx).mono (by rintro e w' ⟨rfl,rfl⟩;exact ⟨rfl,aa.refl _ _⟩)
 now_c:=λw t F x hJ _=>(wM x w).mono (by rintro e w' ⟨rfl,rfl⟩;exact ⟨rfl,aa.refl _ _⟩)
 keep_c:=λw t F rv qv ai wait x hJ hS hA hx hq hl=>by
  obtain ⟨sv,ev,h1,h2,h3,h4,rfl⟩:=hJ;have C:JS w H sp sv ev rv qv A f T L ai wait t:=⟨h1,hS,h2⟩;refine (BO x b b2 C S hq hl hL hx h3 h4).mono ?_;rintro e w' ⟨rfl,sv',ev',C',k',o'⟩;refine ⟨rfl,_,⟨sv',ev',C'.J,C'.ok,C.var h3 k',C.zZ h4 k',rfl⟩,C'.S,λk hk=>?_,k'.mono (λk _ hk=>hk.elim (λh=>.inl (.inl h)) .inr),λk hk=>?_⟩
  ·rcases hk with ⟨hk | hk,hs⟩
   ·exact C'.J.cQ C'.S hk hs
   ·exact hA k ⟨.inr hk,hs⟩
  ·rcases hk with hk | hk
   ·exact (o' k hk).imp .inl id
   ·exact .inl (.inr hk)
 DK_D:=λh=>h
 DK_keep:=λ_ h=>h
 D_keep:=λ_ h=>h
 D_new:=λh=>h
 D_wait:=λ_ h=>h
 keep_len:=rfl
theorem mM (x:Int) (J:cA w H sv ev A s f) (hx:x%4=1->0<=x/4/\x/4<f.length) (hl:f.length<=1000000) :
  Calls Tryz.prog 95 #[.pointer (some ⟨H.pc,0,none⟩), .int .i64 x] w λe w'=>e=.returned (.int .i64 (cB f x))/\w=w':=by
 obtain ⟨-,-,c2,-,-,-⟩:=J.cells;have cl:=J.hc.lt;have ll:=J.ht.lt;by_cases h1:x%4=1
 ·obtain ⟨b0,b1⟩:=hx h1;have hi:=J.toCell (i:=(x/4).toNat) (by omega);have HE:=Hz (show cB f x=iq (f.getD (x/4).toNat 0) by unfold cB;rw [if_pos h1]);have AY:=Hz (λw=>dH x w h1);clear J hx h1;generalize f.getD (x/4).toNat 0=y at *;generalize x/4=i at *;obtain ⟨i,rfl⟩:=Zg b0;simp only [Zt] at hi;generalize f.length=n at *;go_enter Tryz.func95,Tryz.ntmps95;go_wp2_with fail;refine (AY.o _).mono ?_;rintro e w1 ⟨rfl,rfl⟩;go_wp2_with fail;refine (wK y _).mono ?_;rintro e w1 ⟨rfl,rfl⟩;go_wp2_with fail;go_ret;exact ⟨cS HE.o.symm,rfl⟩
 ·have HE:=Hz (show cB f x=x by unfold cB;rw [if_neg h1]);have AN:=Hz (λw=>lV x w h1);clear J hx h1;go_enter Tryz.func95,Tryz.ntmps95;go_wp2_with fail;refine (AN.o _).mono ?_;rintro e w1 ⟨rfl,rfl⟩;go_wp2_with fail;go_ret;exact ⟨cS HE.o.symm,rfl⟩
theorem pR {s:Gs} {f:List Int} {b:Bool}:∀ (n:Nat) (A:Ar) (i:Int),jTurnN s f b (n+1) A i=jz s f b (jTurnN s f b n A i) (i+n)
 | 0,A,i=>by simp [jTurnN]
 | n+1,A,i=>by
  have:=pR (s:=s) (f:=f) (b:=b) n (jz s f b A i) (i+1);rw [jTurnN,this,jTurnN];congr 1;omega
theorem wN {s:Gs} {f:List Int} {b:Bool} {x:Int} (hx:bm x):bm (sY s f b x):=by
 unfold sY;split
 ·unfold bm;omega
 ·unfold cB;split
  ·unfold iq bm;rw [IntKind.wrap_i64];omega
  ·exact hx
theorem BP (i:Int) (J:cA w H sv ev A s f) (h0:0<=i) (h1:i<=1300) (hl1:s.lv.length<=1000000) (hl2:f.length<=1000000) (hu:∀ j:Int,0<=j->j<(A.ah i).2.1->A.aM (i+1+j)=true) (hk4:(A.ah i).1=4->0<(A.ah i).2.1)
  (hd:∀ j:Int,0<=j->j<(A.ah i).2.1->A.load (i+1+j)%4=1->0<=A.load (i+1+j)/4/\A.load (i+1+j)/4<s.lv.length/\A.load (i+1+j)/4<f.length) :
  Calls Tryz.prog 94 #[.pointer (some ⟨H.pc,0,none⟩), .int .i64 i] w λe w'=>e=.returned (.tuple #[])/\aU w H.pa H.g w' (dZ s f A i):=by
 have HJ:=Hz J;have HOK:=Hz J.ha.ok;have HL1:=Hz hl1;have HL2:=Hz hl2;obtain ⟨c0,-,-,-,-,p0⟩:=J.cells;have pl:=J.hp.lt;have cl:=J.hc.lt;have HTH:=Hz (gS i w J.ha);have hb:=A.aQ i;have HR:=Hz (show dZ s f A i=jTurnN s f (decide ((A.ah i).1=4) && !aS s (A.load (i+1))) (A.ah i).2.1.toNat A (i+1) from rfl);clear J;obtain ⟨⟨k,n,cd⟩,hT⟩:∃ t,A.ah i=t:=⟨_,rfl⟩;rw [hT] at HTH hb hu hk4 hd HR;dsimp only at HTH hb hu hk4 hd HR;clear hT;obtain ⟨m,rfl⟩:∃ m:Nat,n=m:=⟨n.toNat,by omega⟩;rw [Zt] at HR;have HU:=Hz hu;have HD:=Hz hd;have HK4:=Hz hk4;have LR:=Hz (λp=>HOK.o.load p);clear hu hd hk4;have hi1:IntKind.i64.wrap (i+1)=i+1:=IntWalk.i64_in _ (by omega);have HAL:=Hz (show ∀ w',cA w' H sv ev A s f->0<m->Calls Tryz.prog 88 #[.pointer (some ⟨H.pc,0,none⟩), .int .i64 (A.load (i+1))] w' λe w''=>e=.returned (.bool (aS s (A.load (i+1))))/\w'=w'' from λw' J' hm=>
  qt _ J' (λh=>by
   have:=HD.o 0 (by omega) (by omega);rw [Int.add_zero] at this
   exact ⟨(this h).1,(this h).2.1⟩) HL1.o)
 have REST:Hd (∀ bk:Bool,(decide (k=4) && !aS s (A.load (i+1)))=bk->∀ q:Nat,q<m->(jTurnN s f bk q A (i+1)).load (i+1+q)=A.load (i+1+q)/\(jTurnN s f bk q A (i+1)).ok):=λbk _ q hq=>by
  have h:=nC (s:=s) (f:=f) (b:=bk) q (A:=A) (i+1) HOK.o (λj j0 j1=>⟨HU.o j j0 (by omega),wN (LR.o _)⟩);exact ⟨by rw [h.2.2.2.2.2 (i+1+q),if_neg (by omega)],h.1⟩
 have END:Hd (∀ bk:Bool,(decide (k=4) && !aS s (A.load (i+1)))=bk->dZ s f A i=jTurnN s f bk m A (i+1)):=λbk hbk=>by rw [HR.o,hbk]
 go_enter Tryz.func94,Tryz.ntmps94;go_wp2_with fail;refine HTH.o.mono ?_;rintro e w1 ⟨rfl,rfl⟩;go_upto_region 1 with fail
 obtain ⟨bk,hbk⟩:∃ bk,(decide (k=4) && !aS s (A.load (i+1)))=bk:=⟨_,rfl⟩;have HBK:=Hz hbk;refine gT (λi=>Nat.blt 22 i && Nat.blt i 40 || Nat.beq i 7) (λs' wx=>s' 7=.bool bk/\wx=w) ?_ ?_
 ·intro K' hK';by_cases h4:k=4
  ·subst h4;go_wp2_with fail;refine (eW (i+1) _ HJ.o.ha).mono ?_;rintro e w1 ⟨rfl,rfl⟩;go_wp2_with fail;refine (HAL.o _ HJ.o (by have:=HK4.o (by trivial);omega)).mono ?_;rintro e w1 ⟨rfl,rfl⟩;have hbk2:(!aS s (A.load (i+1)))=bk:=by simpa using hbk
   go_wp2_with fail;refine ⟨by kernel_rfl,?_⟩;exact ⟨rfl,rfl⟩
  ·have k4:(k == 4)=false:=by simpa using h4
   have hbk2:bk=false:=by rw [<-hbk];simp [h4]
   subst hbk2;clear h4 hbk;go_wp2_with fail;refine ⟨by kernel_rfl,?_⟩;exact ⟨rfl,rfl⟩
 intro u1 wx hR;obtain ⟨e7,rfl⟩:=hR;have e7:u1 7=.bool bk:=e7;simp (maxSteps:=2000000) only [fI,overL,List.toList_toArray,Nat.blt,Nat.beq,Nat.ble,Nat.reduceAdd,Bool.or_false,Bool.false_or,Bool.or_true,Bool.true_or,Bool.and_true,Bool.true_and,Bool.and_false,Bool.false_and,cond_true,cond_false];rw [e7];clear e7;rename_i K3 hK3;have RB:=Hz (REST.o bk HBK.o);have EN:=Hz (END.o bk HBK.o);clear REST END hbk HAL HK4;go_wp2_with fail;go_loopw [41] (λu wr=>∃ q:Nat,q<=m/\u=.int .i64 q/\aU wx H.pa H.g wr (jTurnN s f bk q A (i+1))) (λu _=>m-(intOf u).toNat)
 case atStart=>exact ⟨0,Zc _,rfl,aU.refl HJ.o.ha (aa.refl _ _)⟩
 case round=>
  clear c0 p0 pl cl;obtain ⟨q,hq,rfl,t⟩:=hrel;have TQ:=Hz t;have JR:=Hz (HJ.o.bZ t);clear t;by_cases hlt:q<m
  ·obtain ⟨c0,-,-,-,-,p0⟩:=JR.o.cells;have pl:=JR.o.hp.lt;have cl:=JR.o.hc.lt;have LD:=Hz (RB.o q hlt).1;have hiq:IntKind.i64.wrap (i+1+q)=i+1+q:=IntWalk.i64_in _ (by omega);have DQ:=Hz (HD.o q (by omega) (by omega));have XR:=Hz (LR.o (i+1+q));have SN0:=pR (s:=s) (f:=f) (b:=bk) q A (i+1);unfold jz at SN0;rw [LD.o] at SN0;generalize hx:A.load (i+1+q)=x at *;go_wp2_with fail;refine (eW (i+1+q) _ JR.o.ha).mono ?_;rintro e w2 ⟨rfl,rfl⟩;rw [LD.o];cases bk
   ·go_wp2_with fail;refine (qt x JR.o (λh=>⟨(DQ.o h).1,(DQ.o h).2.1⟩) HL1.o).mono ?_;rintro e w3 ⟨rfl,rfl⟩;cases hal:aS s x
    ·have SN:=Hz (show jTurnN s f false (q+1) A (i+1)=(jTurnN s f false q A (i+1)).store (i+1+q) 3 by rw [SN0,hal];rfl);clear SN0 hal;go_wp2_with fail;refine a6 (ftq [0,1,2,7,8,9,10] (.pure 3 (.free 4 (.free 5 (.pure 6 (.run 11 (.run 12 (.swi [] (.fin))))))))) [12] (Fz c0 (Fa p0)) ?_
     iterate 11 refine Wz ?_
     refine aN rfl rfl (λK hK=>?_);unfold ax;go_simp;refine (tL _).mono ?_;rintro e w4 ⟨rfl,rfl⟩;refine hK _ _ (λh=>h) ?_;clear hK K;refine aD rfl rfl rfl (λK hK=>?_);unfold ax;go_simp;refine (gR (i+1+q) 3 _ (JR.o.same ((Kz wr).drew)).ha (by unfold bm;omega)).mono ?_;rintro e w5 ⟨rfl,t⟩;have T5:=Hz (TQ.o.trans ((aU.refl JR.o.ha (aa.refl _ _).drew).trans t));refine hK _ _ ?_;clear hK K t c0 p0 pl cl;refine aC (λ_=>True) trivial (av ?_);go_wp2_with fail;go_roundw
     case rel=>exact ⟨q+1,hlt,by go_num,by rw [SN.o];exact T5.o⟩
     case measure=>simp [intOf];omega
    ·have SN:=Hz (show jTurnN s f false (q+1) A (i+1)=(jTurnN s f false q A (i+1)).store (i+1+q) (cB f x) by rw [SN0,hal];rfl);clear SN0 hal;go_wp2_with fail;refine a6 (ftq [0,1,2,7,8,9,10,11,12] (.pure 3 (.free 4 (.free 5 (.pure 6 (.run 13 (.run 14 (.swi [] (.fin))))))))) [14] (Fz c0 (Fa p0)) ?_
     iterate 13 refine Wz ?_
     refine aN rfl rfl (λK hK=>?_);unfold ax;go_simp;refine (mM x (JR.o.same ((Kz wr).drew)) (λh=>⟨(DQ.o h).1,(DQ.o h).2.2⟩) HL2.o).mono ?_;rintro e w4 ⟨rfl,rfl⟩;refine hK _ _ (λh=>h) ?_;clear hK K;refine aD rfl rfl rfl (λK hK=>?_);unfold ax;go_simp;refine (gR (i+1+q) (cB f x) _ (JR.o.same ((Kz wr).drew)).ha (by
      have:=wN (s:=⟨s.lv,s.st,s.ep⟩) (f:=f) (b:=false) (x:=x) XR.o;unfold cB;split
      ·unfold iq bm;rw [IntKind.wrap_i64];omega
      ·exact XR.o)).mono ?_
     rintro e w5 ⟨rfl,t⟩;have T5:=Hz (TQ.o.trans ((aU.refl JR.o.ha (aa.refl _ _).drew).trans t));refine hK _ _ ?_;clear hK K t c0 p0 pl cl;refine aC (λ_=>True) trivial (av ?_);go_wp2_with fail;go_roundw
     case rel=>exact ⟨q+1,hlt,by go_num,by rw [SN.o];exact T5.o⟩
     case measure=>simp [intOf];omega
   ·have SN:=Hz (show jTurnN s f true (q+1) A (i+1)=(jTurnN s f true q A (i+1)).store (i+1+q) 3 by rw [SN0];rfl);clear SN0;go_wp2_with fail;refine a6 (ftq [0,1,2,7,8,9,10] (.pure 3 (.free 4 (.free 5 (.pure 6 (.run 11 (.run 12 (.swi [] (.fin))))))))) [12] (Fz c0 (Fa p0)) ?_
    iterate 11 refine Wz ?_
    refine aN rfl rfl (λK hK=>?_);unfold ax;go_simp;refine (tL _).mono ?_;rintro e w4 ⟨rfl,rfl⟩;refine hK _ _ (λh=>h) ?_;clear hK K;refine aD rfl rfl rfl (λK hK=>?_);unfold ax;go_simp;refine (gR (i+1+q) 3 _ (JR.o.same ((Kz wr).drew)).ha (by unfold bm;omega)).mono ?_;rintro e w5 ⟨rfl,t⟩;have T5:=Hz (TQ.o.trans ((aU.refl JR.o.ha (aa.refl _ _).drew).trans t));refine hK _ _ ?_;clear hK K t c0 p0 pl cl;refine aC (λ_=>True) trivial (av ?_);go_wp2_with fail;go_roundw
    case rel=>exact ⟨q+1,hlt,by go_num,by rw [SN.o];exact T5.o⟩
    case measure=>simp [intOf];omega
  ·obtain rfl:q=m:=by omega
   go_wp2_with fail;go_end0;exact ⟨rfl,by rw [EN.o];exact TQ.o⟩
end
end
section
open Go.RowKit
theorem uU {P:Program} {w:World} {ops:Array Oper} {rest:List Oper} {o:Oper} {a:Act} {Q:Exit->Act->World->Prop} (hgd:o.guard=none) (s x:Operand) (t tn:TypeId)
  (ho:o.op=.call { callee:=.builtin .append,args:=#[s,x],argTypes:=#[t,tn] })
  (e:TypeId) (i:TypeInfo) (z:Value) (k kn:IntKind) (ht:P.underlying t=some (.slice e)) (htn:P.underlying tn=some (.int kn)) (hi:P.info? e=some i) (hz:i.zero=some z)
  (hzs:z.cells.size=1) (hsize:i.size=1) (n:Nat) (hs:a.eval s=.slice none 0 0) (hx:a.eval x=.int k n) (h0:0<n) (h63:n<=maxLen) (h48:n*i.bytes<=281474976710656)
  (h:∀ cap w',n<=cap->Sl w' e 1 (.slice (some ⟨w.heap.size,0,none⟩) 0 cap) 0 []->aa (λ_=>False) w w'->wpList P ops Q rest (a.put o.dst (.slice (some ⟨w.heap.size,0,none⟩) n cap)) w'):wpList P ops Q (o :: rest) a w:=by
 refine wpList_plain hgd λ_ hK=>?_;have hr:=Lib.run_append_nil_zeros (P:=P) w t tn o.type e i z k kn ht htn hi hz n h0 (by omega) (by unfold maxLen at h63;omega) h48;unfold Oper.wp execOp;simp only [ho,resolve,invoke,builtin,Sem.run_bind,Sem.run_pure,Result.andThen_ok,List.map_toArray,Zs,List.map_nil,hs,hx,hr];refine hK _ _ (h _ _ (grownCap_ge w n 0 e) ⟨rfl, .inr ⟨_,0,_,_,rfl,ak.newAt _ rfl rfl,Zc _,grownCap_le_maxLen w n 0 e h63,?_,by simp⟩⟩ ((aa.refl _ _).drew.alloc _));have:=grownCap_ge w n 0 e;simp only [Array.length_toList,Array.size_append,size_zeroCells,hzs];omega
theorem yJ (w:World):Calls Tryz.prog 135 #[.slice none 0 0, .int .i64 0] w λe w'=>e=.returned (.slice none 0 0)/\w=w':=by
 go_enter Tryz.func135,Tryz.ntmps135;go_wp2_with fail;go_ret;exact ⟨rfl,rfl⟩
def BU (w:World) (n:Nat) (e:Ending) (w':World):Prop:=∃ cap,e=.returned (.slice (some ⟨w.heap.size,0,none⟩) 0 cap)/\n<=cap/\Sl w' 3 1 (.slice (some ⟨w.heap.size,0,none⟩) 0 cap) 0 []/\aa (λ_=>False) w w'
theorem Df (n:Nat) (h0:0<n) (hn:n<=1000000) (w:World):Calls Tryz.prog 135 #[.slice none 0 0, .int .i64 n] w (BU w n):=by
 obtain ⟨i0,hi,hz0,hz1,hz2⟩:=info_parts ic;have hw1:IntKind.i64.wrap (n:Int)=n:=IntWalk.i64_in _ (by omega);have hd:decide ((0:Int)<(n:Int))=true:=by simp;omega
 have hd2:(0:Int)<(n:Int):=by omega
 go_enter Tryz.func135,Tryz.ntmps135;go_wp2_with (at_builtin;refine uU rfl (.tmp 20) (.tmp 21) 27 3 rfl 3 i0 (.int .i64 0) .i64 .i64 Tryz.underlying27 Tryz.underlying3 hi hz0 (by decide) hz1 n rfl rfl h0 (by unfold maxLen;omega) (by rw [hz2];omega) ?_);intro cap w1 hc hs hk;have HC:=Hz hc;have HS:=Hz hs;have HK:=Hz hk;clear hc hs hk;have h0c:(0:Nat)<=cap:=Zc _;go_wp2_with fail;go_ret;exact ⟨cap,rfl,HC.o,HS.o,HK.o⟩
theorem uV (q:Nat) (a b:Option Addr) (ca cb:Nat) (l1 l2:List Int) (w:World) (hq:ak w q [.slice a l1.length ca, .slice b l2.length cb] 27) (h1:Rd w a (l1.map (Value.int .i64))) (h2:Rd w b (l2.map (Value.int .i64))) (n1:l1.length<=100000) (n2:l2.length<=100000) :
  Calls Tryz.prog 92 #[.slice (some ⟨q,0,none⟩) 2 2] w λe w'=>px 3 w e w' (l1 ++ l2):=by
 obtain ⟨i0,hi,hz0,hz1,hz2⟩:=info_parts ic;have Hi:=Hz hi;have Hz0:=Hz hz0;have Hz1:=Hz hz1;have Hz2:=Hz hz2;clear hi hz0 hz1 hz2;have HQ:=Hz hq;have H1:=Hz h1;have H2:=Hz h2;have q0:=hq.cell 0;have q1:=hq.cell 1;have ql:=hq.lt;simp only [Lz,aB] at q0 q1;clear hq h1 h2;have wr1:IntKind.i64.wrap (l1.length:Int)=l1.length:=IntWalk.i64_in _ (by omega);have wr2:IntKind.i64.wrap ((l1.length:Int)+l2.length)=(l1.length:Int)+l2.length:=IntWalk.i64_in _ (by omega);have p1:decide ((l1.length:Int)<0)=false:=by simp
 have p2:decide ((l1.length:Int)+l2.length<0)=false:=by simp;omega
 go_enter Tryz.func92,Tryz.ntmps92;go_wp2_with fail;go_loopw [3,11] (λt i wr=>wr=w/\((i=.int .i64 0/\t=.int .i64 0)\/(i=.int .i64 1/\t=.int .i64 l1.length)\/(i=.int .i64 2/\t=.int .i64 ((l1.length:Int)+l2.length)))) (λ_ i _=>2-(intOf i).toNat)
 case atStart=>exact ⟨rfl, .inl ⟨rfl,rfl⟩⟩
 case round=>
  obtain ⟨rfl,⟨rfl,rfl⟩ | ⟨rfl,rfl⟩ | ⟨rfl,rfl⟩⟩:=hrel
  ·go_wp2_with fail;go_roundw
   case rel=>simp
   case measure=>decide
  ·go_wp2_with fail;go_roundw
   case rel=>simp
   case measure=>decide
  ·obtain ⟨w0,rfl⟩:∃ x:World,x=wr:=⟨wr,rfl⟩;obtain ⟨n,hn⟩:∃ n:Nat,l1.length+l2.length=n:=⟨_,rfl⟩;have HN:=Hz hn;have hnc:(l1.length:Int)+l2.length=n:=by omega
   rw [hnc] at wr2 p2;rw [hnc];clear hnc;have GR:Hd (Calls Tryz.prog 135 #[.slice none 0 0, .int .i64 n] w0 λe w'=>∃ ao cap,e=.returned (.slice ao 0 cap)/\Sl w' 3 1 (.slice ao 0 cap) 0 []/\aa (λ_=>False) w0 w'/\∀ k,aq (.slice ao 0 cap) k->w0.heap.size<=k):=by
    by_cases h0:n=0
    ·subst h0;refine (yJ w0).mono ?_;rintro e w' ⟨rfl,rfl⟩;exact ⟨none,0,rfl,Sl.nil _ _ _,aa.refl _ _,λk hk=>(b9 hk).elim⟩
    ·refine (Df n (by omega) (by omega) w0).mono ?_;rintro e w' ⟨cap,rfl,-,hs,hk⟩;exact ⟨_,cap,rfl,hs,hk,λk hk=>by simp [aq,Value.ownBlock] at hk;omega⟩
   go_wp2_with fail;refine GR.o.mono ?_;rintro e w1 ⟨ao,cap,rfl,hs,hk,ho⟩;have HI0:=Hz (show Sl w1 3 1 (.slice ao 0 cap) 0 []/\aa (λ_=>False) w0 w1/\∀ k,aq (.slice ao 0 cap) k->w0.heap.size<=k from ⟨hs,hk,ho⟩);clear hs hk ho GR q0 q1 ql p1 p2 hn;go_wp2_with fail;go_loopw [6,27] (λv i wr=>∃ (ao:Option Addr) (cap k:Nat) (l:List Int),v=.slice ao l.length cap/\i=.int .i64 k/\((k=0/\l=[])\/(k=1/\l=l1)\/(k=2/\l=l1 ++ l2))/\Sl wr 3 1 (.slice ao l.length cap) l.length (l.map (Value.int .i64))/\aa (λ_=>False) w0 wr/\∀ k,aq (.slice ao l.length cap) k->w0.heap.size<=k) (λ_ i _=>2-(intOf i).toNat)
   case atStart=>exact ⟨ao,cap,0,[],rfl,rfl, .inl ⟨rfl,rfl⟩,HI0.o⟩
   case round=>
    clear HI0;obtain ⟨ao,cap,k,l,rfl,rfl,hkl,hs,hk,ho⟩:=hrel;have HS:=Hz hs;have HK:=Hz hk;have HO:=Hz ho;clear hs hk ho;have HQ1:=Hz (HK.o.au HQ.o (λh=>h));have q0:=HQ1.o.cell 0;have q1:=HQ1.o.cell 1;have ql:=HQ1.o.lt;simp only [Lz,aB] at q0 q1;rcases hkl with ⟨rfl,rfl⟩ | ⟨rfl,rfl⟩ | ⟨rfl,rfl⟩
    ·go_wp2_with (at_builtin;refine mq rfl (.tmp 31) (.tmp 32) 27 rfl 3 i0 (.int .i64 0) 1 8 Tryz.underlying27 Hi.o Hz0.o Hz1.o Hz2.o rfl (by decide) _ 0 [] rfl HS.o a l1.length ca (l1.map (Value.int .i64)) rfl (by simp) (H1.o.ab HK.o (λ_ _ _ h=>h)) lz (by unfold maxLen;omega) (by omega) ?_);intro v2 w2 hs2 hk2 ho2;have HS2:=Hz hs2;have HK2:=Hz (HK.o.then hk2 (λk hk=>.inr (HO.o k hk)));have HO2:=Hz (show ∀ k,aq v2 k->w0.heap.size<=k from λk hk=>by
      rcases ho2 k hk with h | h
      ·exact HO.o k h
      ·exact Za HK.o.size h)
     clear hs2 hk2 ho2;obtain ⟨ao2,cap2,e2,-,-,-⟩:=HS2.o.rd;subst e2;clear q0 q1 ql;go_wp2_with fail;go_roundw
     case rel=>exact ⟨ao2,cap2,1,l1,by simp,rfl, .inr (.inl ⟨rfl,rfl⟩),by simpa using HS2.o,HK2.o,by simpa using HO2.o⟩
     case measure=>decide
    ·go_wp2_with (at_builtin;refine mq rfl (.tmp 31) (.tmp 32) 27 rfl 3 i0 (.int .i64 0) 1 8 Tryz.underlying27 Hi.o Hz0.o Hz1.o Hz2.o rfl (by decide) _ l.length (l.map (Value.int .i64)) rfl HS.o b l2.length cb (l2.map (Value.int .i64)) rfl (by simp) (H2.o.ab HK.o (λ_ _ _ h=>h)) lz (by unfold maxLen;omega) (by omega) ?_);intro v2 w2 hs2 hk2 ho2;have HS2:=Hz hs2;have HK2:=Hz (HK.o.then hk2 (λk hk=>.inr (HO.o k hk)));have HO2:=Hz (show ∀ k,aq v2 k->w0.heap.size<=k from λk hk=>by
      rcases ho2 k hk with h | h
      ·exact HO.o k h
      ·exact Za HK.o.size h)
     clear hs2 hk2 ho2;obtain ⟨ao2,cap2,e2,-,-,-⟩:=HS2.o.rd;subst e2;clear q0 q1 ql;go_wp2_with fail;go_roundw
     case rel=>exact ⟨ao2,cap2,2,l ++ l2,by simp,rfl, .inr (.inr ⟨rfl,rfl⟩),by simpa using HS2.o,HK2.o,by simpa using HO2.o⟩
     case measure=>decide
    ·clear q0 q1 ql;go_wp2_with fail;go_ret;exact ⟨ao,cap,by simp,HS.o,HK.o,HO.o⟩
end
section
open Go.RowKit
section
variable {w w':World} {H:JH} {sv ev:Value} {A:Ar} {s:Gs} {f:List Int}
theorem BW (x:Int) (b:Nat) (J:cA w H sv ev A s f) (hb:jg w b H) (h0:0<=x) (h1:x<s.lv.length) (hl:s.lv.length<=1000000) :
  Calls Tryz.prog 93 #[.int .i64 x, .pointer (some ⟨b,0,none⟩)] w λe w'=>e=.returned (.bool (!aw s.lv x))/\w=w':=by
 obtain ⟨-,c1,-,-,-,-⟩:=J.cells;have cl:=J.hc.lt;have ll:=J.hl.lt;have b0:=hb.cell 0;have bl:=hb.lt;simp only [Lz] at b0;obtain ⟨i,rfl⟩:=Zg h0;have hi:=J.rG (i:=i) (by omega);have HE:=Hz (show aw s.lv (i:Int)=s.lv.getD i false by unfold aw;simp);clear J hb;generalize s.lv.getD i false=v at *;generalize s.lv.length=n at *;go_enter Tryz.func93,Tryz.ntmps93;go_wp2_with fail;go_ret;exact ⟨de (by rw [HE.o]),rfl⟩
def oY (b:Nat):Value:=.func (.func 93) #[] #[.pointer (some ⟨b,0,none⟩)]
def Dg (w:World) (p:Int->Bool) (l:List Int) (e:Ending) (w':World):Prop:=
 w=w'/\∃ k,k<=l.length/\(∀ j,j<k->p (l.getD j 0)=false)/\((k<l.length/\p (l.getD k 0)=true/\e=.returned (.int .i64 k))\/(k=l.length/\e=.returned (.int .i64 (-1))))
theorem Dh (b:Nat) (p:Int->Bool) (ao:Option Addr) (cap:Nat) (l:List Int) (w:World) (h:Rd w ao (l.map (Value.int .i64))) (hl:l.length<=1000000)
  (hp:∀ x ∈ l,Calls Tryz.prog 93 #[.int .i64 x, .pointer (some ⟨b,0,none⟩)] w λe w'=>e=.returned (.bool (p x))/\w=w') :
  Calls Tryz.prog 134 #[.slice ao l.length cap,oY b] w (Dg w p l):=by
 have HR:=Hz h;have HP:=Hz hp;clear h hp;unfold oY;go_enter Tryz.func134,Tryz.ntmps134;go_wp2_with fail;go_loopw [8] (λi wr=>wr=w/\∃ k:Nat,k<=l.length/\i=.int .i64 k/\Hd (∀ j,j<k->p (l.getD j 0)=false)) (λi _=>l.length-(intOf i).toNat)
 case atStart=>exact ⟨rfl,0,Zc _,rfl,λj hj=>by omega⟩
 case round=>
  obtain ⟨rfl,k,hk,rfl,hno⟩:=hrel;by_cases hlt:k<l.length
  ·obtain ⟨g,o,rfl,d0⟩:=HR.o.int k hlt;have hgl:g<wr.heap.size:=by
    obtain ⟨g',o',e,hg,-⟩:=HR.o (by intro e;simp at e;subst e;simp at hlt);cases e;exact hg
   have hm:l.getD k 0 ∈ l:=by rw [Ld,Le hlt];exact Ze _
   have HPX:=Hz (HP.o _ hm);generalize hv:l.getD k 0=x at *;have HV:=Hz hv;clear hv hm;cases he:p x
   ·rw [he] at HPX;go_wp2_with fail;refine HPX.o.mono ?_;rintro e w2 ⟨rfl,rfl⟩;go_wp2_with fail;go_roundw
    case rel=>exact ⟨by trivial,k+1,by omega,by go_num,λj hj=>by
     by_cases e:j=k
     ·subst e;rw [HV.o];exact he
     ·exact hno.o j (by omega)⟩
    case measure=>simp [intOf];omega
   ·rw [he] at HPX;go_wp2_with fail;refine HPX.o.mono ?_;rintro e w2 ⟨rfl,rfl⟩;go_wp2_with fail;go_ret;exact ⟨rfl,k,hk,hno.o, .inl ⟨hlt,by rw [HV.o];exact he,rfl⟩⟩
  ·obtain rfl:k=l.length:=by omega
   go_wp2_with fail;go_ret;exact ⟨rfl,_,Zb _,hno.o, .inr ⟨rfl,rfl⟩⟩
theorem filter_all {q:Int->Bool}:∀ {l:List Int},(∀ j,j<l.length->q (l.getD j 0)=true)->l.filter q=l
 | [],_=>rfl
 | x :: l,h=>by
  have h0:=h 0 (by simp);simp only [List.getD_cons_zero] at h0;rw [List.filter_cons,if_pos h0,filter_all (λj hj=>by
   have:=h (j+1) (by simpa using hj)
   simpa using this)]
theorem pS {q:Int->Bool} {l:List Int} {j:Nat} (hj:j<l.length):(l.take (j+1)).filter q=if q (l.getD j 0)=true then (l.take j).filter q ++ [l.getD j 0] else (l.take j).filter q:=by
 rw [List.take_add_one,Le hj,List.filter_append,Ld,Le hj];simp only [Option.toList_some,Option.getD_some,List.filter_cons,List.filter_nil];split <;> simp
def Di (w:World) (v:Value) (l:List Int) (e:Ending) (w':World):Prop:=
 ∃ ao cap,e=.returned (.slice ao l.length cap)/\Sl w' 3 1 (.slice ao l.length cap) l.length (l.map (Value.int .i64))/\aa (aq v) w w'/\∀ k,aq (.slice ao l.length cap) k->aq v k
theorem Dj (b:Nat) (p:Int->Bool) (ao:Option Addr) (cap:Nat) (l:List Int) (w:World) (hs:Sl w 3 1 (.slice ao l.length cap) l.length (l.map (Value.int .i64))) (hl:l.length<=1000000)
  (hp:∀ x ∈ l, ∀ w',aa (aq (.slice ao l.length cap)) w w'->Calls Tryz.prog 93 #[.int .i64 x, .pointer (some ⟨b,0,none⟩)] w' λe w''=>e=.returned (.bool (p x))/\w'=w'') :
  Calls Tryz.prog 91 #[.slice ao l.length cap,oY b] w (Di w (.slice ao l.length cap) (l.filter λx=>!p x)):=by
 have HS:=Hz hs;have HX:=Hz (λw' (hk:aa (aq (.slice ao l.length cap)) w w') x hx=>hp x hx w' hk);have hi:=Dh b p ao cap l w (by obtain ⟨_,_,e,h,-,-⟩:=hs.rd;cases e;exact h) hl (λx hx=>hp x hx w (aa.refl _ _));have HI:=Hz hi;clear hs hp hi;unfold oY at HI ⊢;go_enter Tryz.func91,Tryz.ntmps91;go_wp2_with fail;refine HI.o.mono ?_;rintro e w1 ⟨rfl,k,hk,hno,⟨hlt,hpk,rfl⟩ | ⟨rfl,rfl⟩⟩
 ·obtain ⟨g,o,cap',cur0,e,-,hnc,hcm,-,-⟩:=HS.o.laid (by omega);cases e;have HNO:=Hz hno;have HPK:=Hz hpk;have hkw:IntKind.i64.wrap ((k:Int)+1)=(k:Int)+1:=IntWalk.i64_in _ (by omega);have hk1:((k:Int) == -1)=false:=by first | (simp;done) | (simp;omega)
  clear hno hpk HI;obtain ⟨n,hn⟩:∃ n,l.length=n:=⟨_,rfl⟩;have HN:=Hz hn;rw [hn] at HS HX hlt hl hnc hk ⊢;clear hn;go_wp2_with fail;go_loopw [5,6] (λi j wr=>∃ (i' j':Nat) (m:List Int),i=.int .i64 i'/\j=.int .i64 j'/\i' < j'/\j'<=n/\m.length=n/\m.take i'=(l.take j').filter (λx=>!p x)/\m.drop j'=l.drop j'/\Sl wr 3 1 (.slice (some ⟨g,o,none⟩) n cap) n (m.map (Value.int .i64))/\aa (aq (.slice (some ⟨g,o,none⟩) n cap)) w wr) (λ_ j _=>n-(intOf j).toNat)
  case atStart=>
   refine ⟨k,k+1,l,rfl,by go_num,by omega,by omega,HN.o,?_,rfl,HS.o,aa.refl _ _⟩;rw [pS (by rw [HN.o];exact hlt),if_neg (by rw [HPK.o];decide),filter_all (λj hj=>?_)];have hj':j<k:=by rw [Zx] at hj;omega
   have:=HNO.o j hj';rw [Ld,List.getElem?_take,if_pos hj',<-Ld,this]
   rfl
  case round=>
   clear HS hlt hk hk1 hkw HNO HPK;obtain ⟨i,j,m,rfl,rfl,hij,hjn,hm,ht,hd,hs,hk⟩:=hrel;have HS:=Hz hs;have HK:=Hz hk;have HT:=Hz ht;have HD:=Hz hd;have HM:=Hz hm;clear hs hk ht hd hm;by_cases hlt:j<n
   ·have hmj:m.getD j 0=l.getD j 0:=by
     have h1:=congrArg (λt=>t.getD 0 0) HD.o;simpa [Ld] using h1
    obtain ⟨_,_,e',rd,-,-⟩:=HS.o.rd;cases e';obtain ⟨_,_,e',d0⟩:=rd.int j (by rw [HM.o];exact hlt);cases e';have hgl:=(HS.o.own (k:=g) rfl).1;rw [hmj] at d0;have HPX:=Hz (HX.o _ HK.o (l.getD j 0) (by rw [Ld,Le (by rw [HN.o];exact hlt)];exact Ze _));have HFS:=Hz (pS (q:=λx=>!p x) (l:=l) (j:=j) (by rw [HN.o];exact hlt));have HDJ:=Hz (show m.drop (j+1)=l.drop (j+1) by rw [<-List.drop_drop,<-List.drop_drop,HD.o]);have hjw:IntKind.i64.wrap ((j:Int)+1)=(j:Int)+1:=IntWalk.i64_in _ (by omega);have hiw:IntKind.i64.wrap ((i:Int)+1)=(i:Int)+1:=IntWalk.i64_in _ (by omega);clear rd hmj HD;generalize l.getD j 0=x at *;cases he:p x
    ·rw [he] at HPX;have HF:=Hz (HFS.o.trans (if_pos (by rw [he];rfl)));clear HFS he;obtain ⟨u,hu⟩:∃ u,(m.map (Value.int .i64))[i]? = some u:=⟨_,Le (by rw [Zp,HM.o];omega)⟩;obtain ⟨_,_,_,cur,e',hb,-,-,hoc,hx⟩:=HS.o.laid (by omega);cases e';have c0:=hb.cell (o+i);have cf:=hb.free (o+i);have hcu:cur[o+i]? = some u:=by
      rw [<-hx,List.getElem?_take,if_pos (by omega),List.getElem?_drop] at hu;exact hu
     rw [hcu] at c0;have HSET:=Hz (HS.o.set (j:=i) (u:=.int .i64 x) (by omega));have KSET:=Hz (HK.o.setCell (p:=⟨g,o+i,none⟩) (.inl rfl) (.int .i64 x));clear hb hx hcu hu;go_wp2_with fail;refine HPX.o.mono ?_;rintro e w2 ⟨rfl,rfl⟩;go_wp2_with fail;go_roundw
     case rel=>
      refine ⟨i+1,j+1,m.set i x,by go_num,by go_num,by omega,by omega,by rw [List.length_set,HM.o],?_,?_,by rw [List.map_set];exact HSET.o,KSET.o⟩
      ·rw [HF.o,<-HT.o,List.take_add_one,List.getElem?_set,if_pos rfl,if_pos (by rw [HM.o];omega)];rw [List.take_set_of_le (Nat.le_refl _)]
       rfl
      ·rw [List.drop_set_of_lt (by omega)];exact HDJ.o
     case measure=>simp [intOf];omega
    ·rw [he] at HPX;have HF:=Hz (HFS.o.trans (if_neg (by rw [he];decide)));clear HFS he;go_wp2_with fail;refine HPX.o.mono ?_;rintro e w2 ⟨rfl,rfl⟩;go_wp2_with fail;go_roundw
     case rel=>exact ⟨i,j+1,m,rfl,by go_num,by omega,by omega,HM.o,by rw [HF.o];exact HT.o,HDJ.o,HS.o,HK.o⟩
     case measure=>simp [intOf];omega
   ·obtain rfl:j=n:=by omega
    have hfl:m.take i=l.filter (λx=>!p x):=by rw [HT.o,List.take_of_length_le (by rw [HN.o];exact Nat.le_refl _)]
    have hfn:(l.filter (λx=>!p x)).length=i:=by rw [<-hfl,Zx,HM.o];omega
    have HFL:=Hz hfl;obtain ⟨_,_,_,cur,e',hb,-,-,hoc,hx⟩:=HS.o.laid (by omega);cases e';obtain ⟨zs,hzl,hclr⟩:=lr (P:=Tryz.prog) wr 27 0 3 (.int .i64 0) Tryz.underlying27 (by intro w;kernel_rfl) (by intro u hu;simp [Value.cells] at hu;subst hu;rfl) (by decide) g (o+i) (j-i) (cap-i) _ hb (by show o+i+(j-i)*1<=_;omega);have hzl:zs.length=(j-i)*1:=hzl;generalize hc2:cur.take (o+i) ++ zs ++ cur.drop (o+i+zs.length)=c2 at *;have HB2:=Hz (hb.setRow c2);have HK2:=Hz (HK.o.setRow (g:=g) (.inl rfl) c2.toArray);have HC2:=Hz hc2;have HX2:=Hz hx;have HZ:=Hz hzl;have hic:i<=cap:=by omega
    have hil:i<=j:=by omega
    have HOC:=Hz hoc;clear hb hx hc2 hzl hfl hlt hoc;go_wp2_with fail;go_ret;have hoc:=HOC.o;have hzl:=HZ.o;refine ⟨some ⟨g,o,none⟩,cap,by rw [hfn];rfl,?_,HK2.o,λk hk=>hk⟩;rw [hfn];refine ⟨by rw [Zp,hfn];omega, .inr ⟨g,o,cap,c2,rfl,HB2.o,hic,by omega,?_,?_⟩⟩
    ·rw [<-HC2.o];simp only [Zq,Zx,List.length_drop];omega
    ·rw [<-HC2.o,<-HFL.o,List.map_take,<-HX2.o,List.append_assoc,List.drop_append_of_le_length (by simp;omega),List.drop_take,List.take_append_of_le_length (by simp;omega),List.take_take,List.take_take];congr 1;omega
 ·have HNO:=Hz hno;clear HI hno;go_wp2_with fail;go_ret;have e:l.filter (λx=>!p x)=l:=filter_all (λj hj=>by rw [HNO.o j hj];rfl);rw [e];exact ⟨ao,cap,rfl,HS.o,aa.refl _ _,λk hk=>hk⟩
end
end
section
open Go.RowKit
def gP (A:Ar) (lv:List Bool) (base:Int) (t:List Int × Int) (i:Int):List Int × Int:=if aw lv i=true then (t.1.set i.toNat (base+t.2),t.2+(1+(A.ah i).2.1)) else t
theorem rI (A:Ar) (lv:List Bool) (base:Int):∀ (l:List Int) (t:List Int × Int) (i:Int),jPlan A lv base (l ++ [i]) t=gP A lv base (jPlan A lv base l t) i
 | [],t,i=>rfl
 | x :: l,t,i=>by
  rw [List.cons_append,jPlan,rI A lv base l]
  rfl
theorem xH {A:Ar} {lv:List Bool} {base:Int} {l:List Int} {t:List Int × Int} {k:Nat} (h:k<l.length):jPlan A lv base (l.take (k+1)) t=gP A lv base (jPlan A lv base (l.take k) t) (l.getD k 0):=by
 rw [List.take_add_one,Le h,Ld,Le h];exact rI A lv base _ t _
theorem mD (A:Ar) (lv:List Bool) (base:Int):∀ (l:List Int) (t:List Int × Int),0<=t.2->0<=(jPlan A lv base l t).2/\(jPlan A lv base l t).2<=t.2+13*l.length/\(jPlan A lv base l t).1.length=t.1.length
 | [],t,h=>by simp [jPlan];exact h
 | x :: l,t,h=>by
  have hf:=A.aQ x;have key:0<=(gP A lv base t x).2/\(gP A lv base t x).2<=t.2+13/\(gP A lv base t x).1.length=t.1.length:=by
   unfold gP;split
   ·exact ⟨by dsimp only;omega,by dsimp only;omega,by simp⟩
   ·exact ⟨h,by omega,rfl⟩
  have ih:=mD A lv base l (gP A lv base t x) key.1;have e:jPlan A lv base (x :: l) t=jPlan A lv base l (gP A lv base t x):=rfl;rw [e,List.length_cons];exact ⟨ih.1,by omega,ih.2.2.trans key.2.2⟩
section
variable {w w':World} {H:JH} {sv ev:Value} {A:Ar} {s:Gs} {f:List Int}
def BZ (w:World) (H:JH) (sv ev:Value) (A:Ar) (s:Gs) (base:Int) (t:List Int × Int) (e:Ending) (w':World):Prop:=
 e=.returned (.int .i64 t.2)/\cA w' H sv ev A s t.1/\aa (·=H.tb) w w'
theorem B7 (base:Int) (J:cA w H sv ev A s f) (hb0:0<=base) (ay:base<=100000) (hf:f.length=s.lv.length) (hl:s.lv.length<=1000000) (hin:∀ i ∈ A.aO.2 ++ A.aO.1,0<=i/\i<s.lv.length) :
  Calls Tryz.prog 90 #[.pointer (some ⟨H.pc,0,none⟩), .int .i64 base] w (BZ w H sv ev A s base (jPlan A s.lv base (A.aO.2 ++ A.aO.1) (f,0))):=by
 have HJ:=Hz J;have HIN:=Hz hin;obtain ⟨c0,-,-,-,-,p0⟩:=J.cells;have pl:=J.hp.lt;have cl:=J.hc.lt;have ly:A.aO.1.length<=1300:=Ar.ia A 1300 _ _;have lo:A.aO.2.length<=1300:=Ar.ia A 1300 _ _;clear J hin;go_enter Tryz.func90,Tryz.ntmps90;go_wp2_with fail;refine (pY w HJ.o.ha).mono ?_;rintro e w1 ⟨ao,ac,bo,bc,rfl,hs1,hs2,hk,-,-⟩;have J1:=Hz (HJ.o.same hk);have K1:=Hz hk;have SY:=Hz hs1;have SO:=Hz hs2;clear hs1 hs2 hk c0 p0 pl cl;generalize A.aO.1=Y at *;generalize A.aO.2=O at *;go_wp2_with fail;have HQ:Hd (ak (w1.alloc (.cells #[.slice bo O.length bc, .slice ao Y.length ac] 27)) w1.heap.size [.slice bo O.length bc, .slice ao Y.length ac] 27):=ak.newAt _ rfl rfl;have KA:=Hz ((Kz w1).alloc (.cells #[.slice bo O.length bc, .slice ao Y.length ac] 27));generalize w1.alloc (.cells #[.slice bo O.length bc, .slice ao Y.length ac] 27)=w2 at *;refine (uV w1.heap.size bo ao bc ac O Y w2 HQ.o (by obtain ⟨_,_,e,h,-,-⟩:=(SO.o.ab KA.o (λ_ _ h=>h)).rd;cases e;exact h) (by obtain ⟨_,_,e,h,-,-⟩:=(SY.o.ab KA.o (λ_ _ h=>h)).rd;cases e;exact h) (by omega) (by omega)).mono ?_;rintro e w3 ⟨co,cc,rfl,hs3,hk3,ho3⟩;have J3:=Hz ((J1.o.same KA.o).same hk3);have K3:=Hz ((K1.o.trans KA.o).trans hk3);have S3:=Hz hs3;have HO3:=Hz (show ∀ k,aq (.slice co (O ++ Y).length cc) k->¬ k=H.tb from λk hk e=>by
  have h1:=ho3 k hk;have h2:=(J1.o.same KA.o).ht.lt;omega)
 have hll:(O ++ Y).length<=2600:=by rw [Zq];omega
 clear hs3 hk3 ho3 HQ KA SY SO J1 K1 ly lo;generalize hLL:O ++ Y=Ls at *;clear hLL;go_wp2_with fail;go_loopw [7,29] (λn i wr=>∃ k:Nat,k<=Ls.length/\i=.int .i64 k/\n=.int .i64 (jPlan A s.lv base (Ls.take k) (f,0)).2/\cA wr H sv ev A s (jPlan A s.lv base (Ls.take k) (f,0)).1/\aa (·=H.tb) w3 wr) (λ_ i _=>Ls.length-(intOf i).toNat)
 case atStart=>exact ⟨0,Zc _,rfl,rfl,J3.o,aa.refl _ _⟩
 case round=>
  obtain ⟨k,hk,rfl,rfl,hJ,hK⟩:=hrel;have JR:=Hz hJ;have KR:=Hz hK;clear hJ hK;have hbd:=mD A s.lv base (Ls.take k) (f,0) (by dsimp only;omega);rw [Zx] at hbd;dsimp only at hbd;by_cases hlt:k<Ls.length
  ·have SR:=Hz (S3.o.ab KR.o HO3.o);obtain ⟨_,_,e',rd,-,-⟩:=SR.o.rd;cases e';obtain ⟨gc,oc,rfl,d0⟩:=rd.int k hlt;have hgl:=(SR.o.own (k:=gc) rfl).1;have hi:=HIN.o (Ls.getD k 0) (by rw [Ld,Le hlt];exact Ze hlt);have HST:=Hz (xH (A:=A) (lv:=s.lv) (base:=base) (t:=(f,0)) hlt);clear rd;generalize Ls.getD k 0=i at *;obtain ⟨⟨fk,n⟩,hP⟩:∃ t,jPlan A s.lv base (Ls.take k) (f,0)=t:=⟨_,rfl⟩;rw [hP] at JR HST hbd ⊢;dsimp only at JR HST hbd ⊢;clear hP;obtain ⟨i,rfl⟩:=Zg hi.1;have hi1:i<s.lv.length:=by omega
   have hfl:fk.length=s.lv.length:=by omega
   obtain ⟨c0,c1,c2,-,-,p0⟩:=JR.o.cells;have pl:=JR.o.hp.lt;have cl:=JR.o.hc.lt;have ll:=JR.o.hl.lt;have tl:=JR.o.ht.lt;have e0:=JR.o.rG hi1;have HAT:=Hz (show aw s.lv (i:Int)=s.lv.getD i false by unfold aw;simp);have t0:=JR.o.toCell (i:=i) (by omega);have tf:=JR.o.ht.free i;rw [hfl] at c2;generalize hv:s.lv.getD i false=v at *;have hib:(i:Int)<s.lv.length:=by omega
   clear hi;cases v
   ·have HE:=Hz (show gP A s.lv base (fk,n) i=(fk,n) by unfold gP;rw [HAT.o];rfl);clear hv t0 tf;go_wp2_with fail;go_roundw
    case rel=>exact ⟨k+1,hlt,by go_num,by rw [HST.o,HE.o],by rw [HST.o,HE.o];exact JR.o,KR.o⟩
    case measure=>simp [intOf];omega
   ·have HE:=Hz (show gP A s.lv base (fk,n) i=(fk.set i (base+n),n+(1+(A.ah i).2.1)) by unfold gP;rw [HAT.o,if_pos rfl,Zt]);have HTH:=Hz (gS i wr JR.o.ha);have hb:=A.aQ i;clear hv;obtain ⟨⟨kk,nn,cd⟩,hT⟩:∃ t,A.ah (i:Int)=t:=⟨_,rfl⟩;rw [hT] at HTH hb HE;dsimp only at HTH hb HE;clear hT;have w1':IntKind.i64.wrap (base+n)=base+n:=IntWalk.i64_in _ (by omega);have w2':IntKind.i64.wrap (1+nn)=1+nn:=IntWalk.i64_in _ (by omega);have w3':IntKind.i64.wrap (n+(1+nn))=n+(1+nn):=IntWalk.i64_in _ (by omega);go_wp2_with fail;refine HTH.o.mono ?_;rintro e w4 ⟨rfl,rfl⟩;have JS':=Hz (JR.o.D4 i (base+n));have KS:=Hz (KR.o.setCell (p:=⟨H.tb,i,none⟩) (.inl rfl) (.int .i64 (base+n)));have hib2:(i:Int)<fk.length:=by omega
    go_wp2_with fail;go_roundw
    case rel=>exact ⟨k+1,hlt,by go_num,by rw [HST.o,HE.o],by rw [HST.o,HE.o];exact JS'.o,KS.o⟩
    case measure=>simp [intOf];omega
  ·obtain rfl:k=Ls.length:=by omega
   rw [List.take_length] at JR ⊢;go_wp2_with fail;go_ret;exact ⟨rfl,JR.o,(K3.o.mono (λ_ _ h=>h.elim)).trans KR.o⟩
end
end
section
open Go.RowKit
structure bR (w:World) (p n:Nat) (wx:World) (ol ot oc ob:Option Nat):Prop where
 k:aa (λ_=>False) w wx
 l:∀ b,ol=some b->ak wx b (List.replicate n (.bool false)) 4/\w.heap.size<=b
 t:∀ b,ot=some b->ak wx b (List.replicate n (.int .i64 0)) 3/\w.heap.size<=b
 c:∀ b,oc=some b->∃ lb tb,ol=some lb/\ot=some tb/\ak wx b [.pointer (some ⟨p,0,none⟩), .slice (some ⟨lb,0,none⟩) n n, .slice (some ⟨tb,0,none⟩) n n, .slice none 0 0, .slice none 0 0] 140/\w.heap.size<=b
 v:∀ b,ob=some b->ak wx b [.pointer none] 138/\w.heap.size<=b
section
variable {w wx:World} {p n:Nat} {ol ot oc ob:Option Nat}
theorem bR.start (w:World) (p n:Nat):bR w p n w.drew none none none none:=⟨(aa.refl _ w).drew,λ_ h=>(by cases h),λ_ h=>(by cases h),λ_ h=>(by cases h),λ_ h=>(by cases h)⟩
theorem bR.alloc (I:bR w p n wx ol ot oc ob) (cs:Array Value) (T:TypeId):bR w p n (wx.alloc (.cells cs T)) ol ot oc ob:=
 ⟨I.k.alloc _,λb h=>⟨(I.l b h).1.alloc _,(I.l b h).2⟩,λb h=>⟨(I.t b h).1.alloc _,(I.t b h).2⟩,λb h=>by obtain ⟨lb,tb,e1,e2,hb,hs⟩:=I.c b h;exact ⟨lb,tb,e1,e2,hb.alloc _,hs⟩,λb h=>⟨(I.v b h).1.alloc _,(I.v b h).2⟩⟩
theorem bR.live (I:bR w p n wx none ot none ob):bR w p n (wx.alloc (.cells (Array.replicate n (.bool false)) 4)) (some wx.heap.size) ot none ob:=by
 have J:=I.alloc (Array.replicate n (.bool false)) 4;exact ⟨J.k,λb h=>by cases h;exact ⟨ak.newAt _ rfl (by simp),I.k.size⟩,J.t,λ_ h=>(by cases h),J.v⟩
theorem bR.to (I:bR w p n wx ol none none ob):bR w p n (wx.alloc (.cells (Array.replicate n (.int .i64 0)) 3)) ol (some wx.heap.size) none ob:=by
 have J:=I.alloc (Array.replicate n (.int .i64 0)) 3;exact ⟨J.k,J.l,λb h=>by cases h;exact ⟨ak.newAt _ rfl (by simp),I.k.size⟩,λ_ h=>(by cases h),J.v⟩
theorem bR.cut {lb tb:Nat} (I:bR w p n wx (some lb) (some tb) none ob):bR w p n (wx.alloc (.cells #[.pointer (some ⟨p,0,none⟩), .slice (some ⟨lb,0,none⟩) n n, .slice (some ⟨tb,0,none⟩) n n, .slice none 0 0, .slice none 0 0] 140)) (some lb) (some tb) (some wx.heap.size) ob:=by
 have J:=I.alloc #[.pointer (some ⟨p,0,none⟩), .slice (some ⟨lb,0,none⟩) n n, .slice (some ⟨tb,0,none⟩) n n, .slice none 0 0, .slice none 0 0] 140;exact ⟨J.k,J.l,J.t,λb h=>by cases h;exact ⟨lb,tb,rfl,rfl,ak.newAt _ rfl rfl,I.k.size⟩,J.v⟩
theorem bR.var (I:bR w p n wx ol ot oc none):bR w p n (wx.alloc (.cells #[.pointer none] 138)) ol ot oc (some wx.heap.size):=by
 have J:=I.alloc #[.pointer none] 138;exact ⟨J.k,J.l,J.t,J.c,λb h=>by cases h;exact ⟨ak.newAt _ rfl rfl,I.k.size⟩⟩
def wO (w:World) (p n:Nat) (wx:World) (v:Value):Prop:=
 ∃ lb tb pc b,v=.pointer (some ⟨b,0,none⟩)/\aa (λ_=>False) w wx/\ak wx lb (List.replicate n (.bool false)) 4/\ak wx tb (List.replicate n (.int .i64 0)) 3 /\
  ak wx pc [.pointer (some ⟨p,0,none⟩), .slice (some ⟨lb,0,none⟩) n n, .slice (some ⟨tb,0,none⟩) n n, .slice none 0 0, .slice none 0 0] 140/\ak wx b [.pointer (some ⟨pc,0,none⟩)] 138/\w.heap.size<=lb/\w.heap.size<=tb/\w.heap.size<=pc/\w.heap.size<=b
theorem bR.made {lb tb pc b:Nat} (I:bR w p n wx (some lb) (some tb) (some pc) (some b)):wO w p n (wx.setCell ⟨b,0,none⟩ (.pointer (some ⟨pc,0,none⟩))) (.pointer (some ⟨b,0,none⟩)):=by
 obtain ⟨hb,sb⟩:=I.v b rfl;obtain ⟨hl,sl⟩:=I.l lb rfl;obtain ⟨ht,st⟩:=I.t tb rfl;obtain ⟨_,_,e1,e2,hc,sc⟩:=I.c pc rfl;cases e1;cases e2;have set:=(aa.refl (·=b) wx).setCell (p:=⟨b,0,none⟩) (.inl rfl) (.pointer (some ⟨pc,0,none⟩));exact ⟨lb,tb,pc,b,rfl,I.k.setCell (p:=⟨b,0,none⟩) (.inr sb) _,set.au hl (hl.ne hb (by decide)),set.au ht (ht.ne hb (by decide)),set.au hc (hc.ne hb (by decide)),by simpa using hb.aE 0 (.pointer (some ⟨pc,0,none⟩)),sl,st,sc,sb⟩
end
end
end Go.Proofs.YtjifdalflepcoadGreat
