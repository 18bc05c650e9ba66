/-
  Parts of the proof, merged: what the functions do, and plain laws.
-/
import Derived.Test.YtjifdalflepcoadGreatTRPP18
set_option maxHeartbeats 16000000
set_option maxRecDepth 100000
set_option linter.unusedVariables false
set_option linter.unusedSimpArgs false
namespace Go.Proofs.YtjifdalflepcoadGreat
section
open Go.RowKit
noncomputable def pg:Wd:=((Wd.new 16 8).do ⟨4,0,0,0,0,0⟩).2
theorem EC:((Wd.new 16 8).do ⟨4,0,0,0,0,0⟩).1=0:=by decide +kernel
theorem jZ.ED {w:World} {lo:Nat} {v:Value} {W:Wd} (H:jZ w lo v W.view) (h:W.ok):iS w v W.view:=by
 obtain ⟨h1,h2,h3⟩:=(Wd.seen h).lens h;exact H.r (by omega) (by omega) (λn hn=>Za (h3 n hn) (by decide))
section
variable {w w':World}
structure kF (w0 w:World) (p:Nat) (h:dj) (W:Wd):Prop where
 B:aR w h W
 e:h.p=p
 K:aa (λ_=>False) w0 w
 own:∀ k,h.Own k->w0.heap.size<=k
theorem kF.same {w0:World} {p:Nat} {h:dj} {W:Wd} (M:kF w0 w p h W) (k:aa (λ_=>False) w w'):kF w0 w' p h W:=⟨M.B.same k,M.e,M.K.trans k,M.own⟩
theorem kF.pl {w0:World} {p:Nat} {h:dj} {W:Wd} (M:kF w0 w p h W):p<w.heap.size:=by
 have:=M.B.hp.lt;rw [M.e] at this;exact this
theorem kF.Ac {w0:World} {p:Nat} {h:dj} {W:Wd} (M:kF w0 w p h W) (hT:W.T.length<=90000) (x:St) :
  Calls Tryz.prog 21 #[.pointer (some ⟨p,0,none⟩), .agg #[.int .i64 x.k, .int .i64 x.r, .int .i64 x.a, .int .i64 x.b, .int .i64 x.i, .int .i64 x.n]] w (ei w h (W.do x)):=by
 have:=Dx x.k x.r x.a x.b x.i x.n M.B hT;rw [M.e] at this;exact this
theorem kF.Dy {w0:World} {p:Nat} {h:dj} {W:Wd} (M:kF w0 w p h W) :
  Calls Tryz.prog 46 #[.pointer (some ⟨p,0,none⟩)] w λe w'=>e=.returned (.tuple #[.int .i64 W.aA, .int .i64 W.cD])/\aa (λ_=>False) w w':=by
 have:=Cg M.B;rw [M.e] at this;exact this
theorem kF.Dz {w0:World} {p:Nat} {h:dj} {W:Wd} (M:kF w0 w p h W) (hT:W.T.length<=90000) :
  Calls Tryz.prog 48 #[.pointer (some ⟨p,0,none⟩)] w λe w'=>rX w W.view e w':=by
 have:=Cj w M.B (by omega);rw [M.e] at this;exact this
section
variable {w0:World} {p q:Nat} {h:dj} {W V W' V':Wd}
end
end
end
section
open Go.RowKit
section
variable {w0 w w':World} {p ob gb:Nat} {r:Bool × Wd}
theorem kF.box {b:Nat} {c:List Value} {T:TypeId} {h:dj} {W:Wd} (M:kF w0 w p h W) (B:ak w b c T) (h1:T≠86) (h2:T≠151) (h3:T≠77) (h4:T≠119):¬ h.Own b:=λhb=>by
 obtain ⟨_,c',T',hc,hT⟩:=M.B.bE hb;rcases hT with rfl | rfl | rfl | rfl
 ·exact B.ne hc h1 rfl
 ·exact B.ne hc h2 rfl
 ·exact B.ne hc h3 rfl
 ·exact B.ne hc h4 rfl
end
end
section
open Go.RowKit
structure gy (w0 w:World) (t p q:Nat) (n:Int) (h:HH) (g:dj) (O:Wo) (W:Wd):Prop where
 T:ak w t [.pointer (some ⟨p,0,none⟩), .pointer (some ⟨q,0,none⟩), .int .i64 0, .int .i64 0, .int .i64 n] 54
 A:HM w0 w p h O
 B:kF w0 w q g W
 ap:∀ k,¬ (h.Own k/\g.Own k)
 lo:w0.heap.size<=t
section
variable {w0 w w':World} {t p q:Nat} {n:Int} {h:HH} {g:dj} {O O':Wo} {W W':Wd} {φ:Int->Int}
theorem HM.AQ (M:HM w0 w p h O) {b:Nat} {c:List Value} (B:ak w b c 54):¬ h.Own b:=by
 rintro (rfl | h1)
 ·exact M.B.hp.ne B (by decide) rfl
 ·obtain ⟨c',T,hc,hT⟩:=M.B.H.bE h1;rcases hT with rfl | rfl | rfl | rfl | rfl | rfl | rfl <;> exact hc.ne B (by decide) rfl
theorem gy.same (M:gy w0 w t p q n h g O W) (k:aa (λ_=>False) w w'):gy w0 w' t p q n h g O W:=⟨k.au M.T (λh=>h),M.A.same k,M.B.same k,M.ap,M.lo⟩
theorem gy.heap (M:gy w0 w t p q n h g O W) (u:aV w h w' O'):∃ h',gy w0 w' t p q n h' g O' W/\∀ k,h'.Own k->h.Own k\/w.heap.size<=k:=by
 have hA:=M.A.AQ M.T;obtain ⟨h1,M1⟩:=M.A.to u;obtain ⟨h',H',e',k',o'⟩:=u;refine ⟨h',⟨k'.au M.T hA,⟨H',e'.trans M.A.e,M.A.K.then k' (λb hb=>.inr (M.A.own b hb)),λb hb=>?_⟩,⟨M.B.B.ab k' (λj hj e=>M.ap j ⟨e,hj⟩),M.B.e,M1.K,M.B.own⟩,λj hj=>?_,M.lo⟩,o'⟩
 ·rcases o' b hb with h2 | h2
  ·exact M.A.own b h2
  ·have:=M.A.K.size;omega
 ·rcases o' j hj.1 with h2 | h2
  ·exact M.ap j ⟨h2,hj.2⟩
  ·have:=M.B.B.aZ hj.2;omega
theorem gy.mg (M:gy w0 w t p q n h g O W) (u:aT w g w' W'):∃ g',gy w0 w' t p q n h g' O W'/\∀ k,g'.Own k->g.Own k\/w.heap.size<=k:=by
 have hB:=M.B.box M.T (by decide) (by decide) (by decide) (by decide);obtain ⟨g',H',e',k',o'⟩:=u;refine ⟨g',⟨k'.au M.T hB,⟨M.A.B.ab k' (λj hj e=>M.ap j ⟨hj,e⟩),M.A.e,M.A.K.then k' (λb hb=>.inr (M.B.own b hb)),M.A.own⟩,⟨H',e'.trans M.B.e,M.B.K.then k' (λb hb=>.inr (M.B.own b hb)),λb hb=>?_⟩,λj hj=>?_,M.lo⟩,o'⟩
 ·rcases o' b hb with h2 | h2
  ·exact M.B.own b h2
  ·have:=M.B.K.size;omega
 ·rcases o' j hj.2 with h2 | h2
  ·exact M.ap j ⟨hj.1,h2⟩
  ·have:=M.A.B.aZ hj.1;omega
theorem gy.num (M:gy w0 w t p q n h g O W) (m:Int):gy w0 (w.setCell ⟨t,4,none⟩ (.int .i64 m)) t p q m h g O W:=by
 have k:=(aa.refl (·=t) w).setCell (p:=⟨t,4,none⟩) (.inl rfl) (.int .i64 m);have hA:=M.A.AQ M.T;have hB:=M.B.box M.T (by decide) (by decide) (by decide) (by decide);have hn:∀ j,j=t->w0.heap.size<=j:=λj hj=>by rw [hj];exact M.lo
 exact ⟨M.T.aE 4 (.int .i64 m),⟨M.A.B.ab k (λj hj e=>hA (e ▸ hj)),M.A.e,M.A.K.then k (λj hj=>.inr (hn j hj)),M.A.own⟩,⟨M.B.B.ab k (λj hj e=>hB (e ▸ hj)),M.B.e,M.B.K.then k (λj hj=>.inr (hn j hj)),M.B.own⟩,M.ap,M.lo⟩
theorem gy.cells (M:gy w0 w t p q n h g O W):w.cell? ⟨t,0,none⟩=some (.pointer (some ⟨p,0,none⟩))/\w.cell? ⟨t,1,none⟩=some (.pointer (some ⟨q,0,none⟩))/\w.cell? ⟨t,2,none⟩=some (.int .i64 0)/\w.cell? ⟨t,3,none⟩=some (.int .i64 0)/\w.cell? ⟨t,4,none⟩=some (.int .i64 n)/\t<w.heap.size:=
 ⟨M.T.cell 0,M.T.cell 1,M.T.cell 2,M.T.cell 3,M.T.cell 4,M.T.lt⟩
theorem Am (M:gy w0 w t p q n h g O W) (R:aI O W φ) (hT:W.T.length<=90000) :
  Calls Tryz.prog 22 #[.pointer (some ⟨t,0,none⟩)] w λe w'=>e=.returned (.bool true)/\aa (λ_=>False) w w':=by
 have HM':=Hz M;have HR:=Hz R;have HT:=Hz hT;have EY:=Hz R.sy.symm;have EO:=Hz R.Bx.symm;obtain ⟨t0,t1,-,-,-,tl⟩:=M.cells;obtain ⟨c0,pl⟩:=M.A.pc;have q0:=M.A.B.H.eJ.1;have qa:=M.A.B.H.hp.lt;clear M R hT;go_enter Tryz.func22,Tryz.ntmps22;go_wp2_with fail;refine (mF _ HM'.o.A.B.H.ha).mono ?_;rintro e w1 ⟨rfl,hk⟩;have M1:=Hz (HM'.o.same hk);have K1:=Hz hk;clear hk t0 t1 tl c0 pl q0 qa HM';obtain ⟨t0,t1,-,-,-,tl⟩:=M1.o.cells;have ql:=M1.o.B.pl;go_wp2_with fail;refine M1.o.B.Dy.mono ?_;rintro e w2 ⟨rfl,hk⟩;have M2:=Hz (M1.o.same hk);have K2:=Hz (K1.o.trans hk);clear hk t0 t1 tl ql M1 K1;rw [EY.o,EO.o];obtain ⟨t0,t1,-,-,-,tl⟩:=M2.o.cells;obtain ⟨c0,pl⟩:=M2.o.A.pc;have ql:=M2.o.B.pl;generalize ((O.ar.yng:Nat):Int)=ya at *;generalize ((O.ar.grn-O.ar.nur:Nat):Int)=ga at *;have e1:(ya == ya)=true:=by simp
 have e2:(ga == ga)=true:=by simp
 go_wp2_with fail;refine a6 (ftq [0,1,2,3,4,5,6,7,8,9,10,11,17,18,19] (.pure 12 (.free 13 (.free 14 (.pure 15 (.pure 20 (.run 16 (.run 21 (.swi [22,23,24] (.run 22 (.swi [] (.free 23 (.free 24 (.fin)))))))))))))) [21,22,23,24] (Fz t0 (Fz c0 (Fa t1))) ?_
 iterate 20 refine Wz ?_
 refine aN rfl rfl (λK hK=>?_);unfold ax;go_simp;have kd:=(Kz w2).drew;refine (x8 _ (M2.o.same kd).A.B.H).mono ?_;rintro e w3 ⟨v3,rfl,hv3,hk3⟩;have M3:=Hz ((M2.o.same kd).same hk3);have K3:=Hz ((K2.o.trans kd).trans hk3);have V3:=Hz hv3;refine hK _ _ (λ_=>⟨M3.o.cells.1,M3.o.A.pc.1,M3.o.cells.2.1⟩) ?_;clear hK K kd hv3 hk3 t0 t1 tl c0 pl ql M2 K2;refine aD rfl rfl rfl (λK hK=>?_);unfold ax;go_simp;refine (M3.o.B.Dz HT.o).mono ?_;rintro e w4 ⟨v4,rfl,hv4,hk4⟩;have M4:=Hz (M3.o.same hk4);have K4:=Hz (K3.o.trans hk4);have V4:=Hz (V3.o.ab hk4 (λ_ _ _ h=>h));have U4:=Hz hv4;refine hK _ _ ?_;clear hK K hv4 hk4 M3 K3 V3;refine aC (λ_=>True) trivial ?_;refine aD rfl rfl rfl (λK hK=>?_);unfold ax;go_simp;refine (Bg _ _ O.view W.view _ (V4.o.rep HR.o) (U4.o.ED M4.o.B.B.ok)).mono ?_;rintro e w5 ⟨rfl,hk5⟩;have K5:=Hz (K4.o.trans hk5);rw [decide_eq_true HR.o.view];refine hK _ _ ?_;clear hK K hk5 M4 K4 V4 U4;refine aC (λ_=>True) trivial ?_
 iterate 2 refine Wz ?_
 refine av ?_;go_wp2_with fail;go_ret;exact ⟨rfl,K5.o⟩
end
end
section
open Go.RowKit
def AR (w0 w:World) (t p q:Nat) (n:Int) (W:Wd):Prop:=∃ h g O φ,gy w0 w t p q n h g O W/\aI O W φ
def kY (t:Nat) (h:HH) (g:dj) (k:Nat):Prop:=k=t\/h.Own k\/g.Own k
def sg (w0 w:World) (t p q:Nat) (n:Int) (h:HH) (g:dj) (W:Wd) (x:St) (e:Ending) (w':World):Prop:=
 e=.returned (.tuple #[.int .i64 (W.do x).1, .agg #[.int .i64 0, .int .i64 0]])/\∃ h' g' O' φ',gy w0 w' t p q (n+1) h' g' O' (W.do x).2/\aI O' (W.do x).2 φ'/\aa (kY t h g) w w'/\∀ k,kY t h' g' k->kY t h g k\/w.heap.size<=k
section
variable {w0 w w':World} {t p q:Nat} {n:Int} {h:HH} {g:dj} {O O':Wo} {W W':Wd} {φ:Int->Int}
theorem gy.box {b:Nat} {c:List Value} (M:gy w0 w t p q n h g O W) (k:aa (·=b) w w') (hb:ak w b c 33) (hl:w0.heap.size<=b):gy w0 w' t p q n h g O W:=by
 have hA:¬ h.Own b:=by
  rintro (rfl | h1)
  ·exact M.A.B.hp.ne hb (by decide) rfl
  ·obtain ⟨c',T,hc,hT⟩:=M.A.B.H.bE h1;rcases hT with rfl | rfl | rfl | rfl | rfl | rfl | rfl <;> exact hc.ne hb (by decide) rfl
 have hB:=M.B.box hb (by decide) (by decide) (by decide) (by decide);have hn:∀ j,j=b->w0.heap.size<=j:=λj hj=>by rw [hj];exact hl
 exact ⟨k.au M.T (M.T.ne hb (by decide)),⟨M.A.B.ab k (λj hj e=>hA (e ▸ hj)),M.A.e,M.A.K.then k (λj hj=>.inr (hn j hj)),M.A.own⟩,⟨M.B.B.ab k (λj hj e=>hB (e ▸ hj)),M.B.e,M.B.K.then k (λj hj=>.inr (hn j hj)),M.B.own⟩,M.ap,M.lo⟩
theorem AR.same (M:AR w0 w t p q n W) (k:aa (λ_=>False) w w'):AR w0 w' t p q n W:=by
 obtain ⟨h,g,O,φ,M,R⟩:=M;exact ⟨h,g,O,φ,M.same k,R⟩
theorem DA (M:gy w0 w t p q n h g O W) (R:aI O W φ) (hT:W.T.length<=80000) (hn:0<=n/\n<=1000000) (x:St) :
  Calls Tryz.prog 14 #[.pointer (some ⟨t,0,none⟩), .agg #[.int .i64 x.k, .int .i64 x.r, .int .i64 x.a, .int .i64 x.b, .int .i64 x.i, .int .i64 x.n]] w (sg w0 w t p q n h g W x):=by
 obtain ⟨d,r,a,b,i,z⟩:=x;dsimp only;have hdo:=λw' (M':HM w0 w' p h O)=>M'.Ac R ⟨d,r,a,b,i,z⟩;have hgd:=λw' g' (M':kF w0 w' q g' W)=>M'.Ac (by omega) ⟨d,r,a,b,i,z⟩;obtain ⟨hcc,ψ,hR2⟩:=R.do ⟨d,r,a,b,i,z⟩
 have hln:=Wd.yT W ⟨d,r,a,b,i,z⟩;unfold bT at hdo;unfold ei at hgd;obtain ⟨⟨c,P⟩,hP⟩:∃ t,O.do ⟨d,r,a,b,i,z⟩=t:=⟨_,rfl⟩
 obtain ⟨⟨c',V⟩,hV⟩:∃ t,W.do ⟨d,r,a,b,i,z⟩=t:=⟨_,rfl⟩
 rw [hP,hV] at hcc;simp only [hP] at hdo;rw [hP,hV] at hR2;simp only [hV] at hgd;rw [hV] at hln;dsimp only at hcc hdo hR2 hln;subst hcc;have HDO:=Hz hdo;have HGD:=Hz hgd;have R2:=Hz hR2;have HVV:=Hz hV;have HT2:=Hz (show V.T.length<=90000 by omega);clear hdo hgd hR2 hln hP hV R;have ka:=((Kz w).alloc (.cells #[.int .i64 d, .int .i64 r, .int .i64 a, .int .i64 b, .int .i64 i, .int .i64 z] 26)).alloc (.cells #[.int .i64 0, .int .i64 0] 33);have HX:=Hz (show ak ((w.alloc (.cells #[.int .i64 d, .int .i64 r, .int .i64 a, .int .i64 b, .int .i64 i, .int .i64 z] 26)).alloc (.cells #[.int .i64 0, .int .i64 0] 33)) w.heap.size [.int .i64 d, .int .i64 r, .int .i64 a, .int .i64 b, .int .i64 i, .int .i64 z] 26 from (ak.newAt _ rfl rfl).alloc _);have HF:=Hz (show ak ((w.alloc (.cells #[.int .i64 d, .int .i64 r, .int .i64 a, .int .i64 b, .int .i64 i, .int .i64 z] 26)).alloc (.cells #[.int .i64 0, .int .i64 0] 33)) (w.heap.size+1) [.int .i64 0, .int .i64 0] 33 from ak.newAt _ (by simp) rfl);have M1:=Hz (M.same ka);have HLO:=Hz (show w0.heap.size<=w.heap.size from M.A.K.size);have HN1:=Hz (show (∀ k,h.Own k->k<w.heap.size)/\∀ k,g.Own k->k<w.heap.size from ⟨λk hk=>M.A.B.aZ hk,λk hk=>M.B.B.aZ hk⟩);have KA:=Hz (show aa (kY t h g) w ((w.alloc (.cells #[.int .i64 d, .int .i64 r, .int .i64 a, .int .i64 b, .int .i64 i, .int .i64 z] 26)).alloc (.cells #[.int .i64 0, .int .i64 0] 33)) from ((aa.refl (kY t h g) w).alloc _).alloc _);have HSB:=Hz (rfl:w.heap.size=w.heap.size);clear M ka;go_enter Tryz.func14,Tryz.ntmps14;go_upto_region 1 with fail
 generalize (w.alloc (.cells #[.int .i64 d, .int .i64 r, .int .i64 a, .int .i64 b, .int .i64 i, .int .i64 z] 26)).alloc (.cells #[.int .i64 0, .int .i64 0] 33)=w1 at *;generalize hsb:w.heap.size=sb at *;have HSW:=Hz hsb;clear hsb HSB;obtain ⟨t0,-,-,-,-,tl⟩:=M1.o.cells;have d0:=HX.o.cell 0;have d1:=HX.o.cell 1;have d2:=HX.o.cell 2;have d3:=HX.o.cell 3;have d4:=HX.o.cell 4;have d5:=HX.o.cell 5;have dl:=HX.o.lt;simp only [Lz,aB] at d0 d1 d2 d3 d4 d5;have hpl:=M1.o.A.pc.2;refine a6 (ftq [0,1,2] (.pure 3 (.pure 4 (.run 5 (.swi [] (.free 6 (.fin))))))) [5,6] (Fz t0 (Fz d0 (Fz d1 (Fz d2 (Fz d3 (Fz d4 (Fa d5))))))) ?_
 iterate 5 ((first | refine kJ rfl rfl λK hK=>?_ | refine kI rfl rfl λK hK=>?_ | refine j9 rfl rfl _ (λw' hG=>by obtain ⟨t0,d0,d1,d2,d3,d4,d5⟩:=hG;exact ov (cs:=[_,_,_,_,_,_]) rfl (by decide +kernel) rfl (ae (by assumption) (ae (by assumption) (ae (by assumption) (ae (by assumption) (ae (by assumption) (ae (by assumption) a9))))))) (λK hK=>?_) | refine lU rfl rfl λK hK=>?_ | refine kK rfl rfl λK hK=>?_ | refine lT rfl rfl λK hK=>?_);go_simp;refine hK _ ?_;clear hK K)
 refine aD rfl rfl rfl (λK hK=>?_);unfold ax;go_simp;have kd:=(Kz w1).drew;refine (HDO.o _ (M1.o.same kd).A).mono ?_;rintro e w2 ⟨rfl,ht⟩;have kh:aa h.Own w1.drew w2:=by obtain ⟨_,_,_,k,_⟩:=ht;exact k
 obtain ⟨h2,M2',o2⟩:=(M1.o.same kd).heap ht;have M2:=Hz M2';have K2:=Hz (KA.o.drew.then kh (λb hb=>.inl (.inr (.inl hb))));have O2:=Hz (show ∀ k,h2.Own k->h.Own k\/sb<=k from λk hk=>(o2 k hk).imp id (λh3=>by have:=KA.o.drew.size;have:=HSW.o;omega));clear KA o2;have HX2:=Hz (kh.au HX.o.drew (λe=>by have:=HN1.o.1 _ e;omega));have HF2:=Hz (kh.au HF.o.drew (λe=>by have:=HN1.o.1 _ e;omega));refine hK _ _ ?_;clear hK K ht kh M2' kd t0 tl d0 d1 d2 d3 d4 d5 dl hpl M1 HX HF HDO;refine aC (λ_=>True) trivial ?_;refine Wz ?_;refine av ?_;obtain ⟨-,t1,-,-,-,tl⟩:=M2.o.cells;have d0:=HX2.o.cell 0;have d1:=HX2.o.cell 1;have d2:=HX2.o.cell 2;have d3:=HX2.o.cell 3;have d4:=HX2.o.cell 4;have d5:=HX2.o.cell 5;have dl:=HX2.o.lt;simp only [Lz,aB] at d0 d1 d2 d3 d4 d5;go_wp2_with fail;refine a6 (ftq [0,1,2] (.pure 3 (.pure 4 (.run 5 (.swi [] (.free 6 (.fin))))))) [5,6] (Fz t1 (Fz d0 (Fz d1 (Fz d2 (Fz d3 (Fz d4 (Fa d5))))))) ?_
 iterate 5 ((first | refine kJ rfl rfl λK hK=>?_ | refine kI rfl rfl λK hK=>?_ | refine j9 rfl rfl _ (λw' hG=>by obtain ⟨t1,d0,d1,d2,d3,d4,d5⟩:=hG;exact ov (cs:=[_,_,_,_,_,_]) rfl (by decide +kernel) rfl (ae (by assumption) (ae (by assumption) (ae (by assumption) (ae (by assumption) (ae (by assumption) (ae (by assumption) a9))))))) (λK hK=>?_) | refine lU rfl rfl λK hK=>?_ | refine kK rfl rfl λK hK=>?_ | refine lT rfl rfl λK hK=>?_);go_simp;refine hK _ ?_;clear hK K)
 refine aD rfl rfl rfl (λK hK=>?_);unfold ax;go_simp;have kd:=(Kz w2).drew;refine (HGD.o _ _ (M2.o.same kd).B).mono ?_;rintro e w3 ⟨rfl,ht⟩;have kg:aa g.Own w2.drew w3:=by obtain ⟨_,_,_,k,_⟩:=ht;exact k
 obtain ⟨g3,M3',o3⟩:=(M2.o.same kd).mg ht;have M3:=Hz M3';have K3:=Hz (K2.o.drew.then kg (λb hb=>.inl (.inr (.inr hb))));have O3:=Hz (show ∀ k,g3.Own k->g.Own k\/sb<=k from λk hk=>(o3 k hk).imp id (λh3=>by have:=K2.o.drew.size;have:=HSW.o;omega));clear K2 o3;have HF3:=Hz (kg.au HF2.o.drew (λe=>by have:=HN1.o.2 _ e;omega));refine hK _ _ ?_;clear hK K ht kg M3' kd t1 tl d0 d1 d2 d3 d4 d5 dl M2 HX2 HF2 HGD;refine aC (λ_=>True) trivial ?_;refine Wz ?_;refine av ?_;obtain ⟨-,-,t2,-,-,tl⟩:=M3.o.cells;have hcc:(c != c)=false:=by simp
 go_wp2_with fail;refine (Am M3.o R2.o HT2.o).mono ?_;rintro e w4 ⟨rfl,hk4⟩;have K4:=Hz (K3.o.trans (hk4.mono (λ_ _ h=>h.elim)));clear K3;have M4:=Hz (M3.o.same hk4);have HF4:=Hz (hk4.au HF3.o (λh=>h));clear hk4 t2 tl M3 HF3 hcc;obtain ⟨-,-,t2,t3,t4,tl⟩:=M4.o.cells;have tf:=M4.o.T.free 4;have hwn:IntKind.i64.wrap (n+1)=n+1:=IntWalk.i64_in _ (by omega);have tne:=M4.o.T.ne HF4.o (by decide);go_upto_region 6 with (fail);have M5:=Hz (M4.o.num (n+1));have HF5:=Hz (HF4.o.cj (a:=⟨t,4,none⟩) (Ne.symm tne) (.int .i64 (n+1)));have K5:=Hz (K4.o.setCell (p:=⟨t,4,none⟩) (.inl (.inl rfl)) (.int .i64 (n+1)));clear K4 M4 HF4 t2 t3 t4 tl tf tne;generalize w4.setCell ⟨t,4,none⟩ (.int .i64 (n+1))=w5 at *;obtain ⟨-,-,t2,t3,-,tl⟩:=M5.o.cells;have f0:=HF5.o.cell 0;have f1:=HF5.o.cell 1;have fl:=HF5.o.lt;have ff:=HF5.o.free 0;have ff1:=HF5.o.free 1;simp only [Lz,aB] at f0 f1;refine a6 (ftq [0,1,2,3,5] (.pure 4 (.run 6 (.swi [] (.fin))))) [6] (Fz t2 (Fa t3)) ?_
 iterate 6 refine Wz ?_
 refine aD rfl rfl rfl (λK hK=>?_);unfold ax;go_simp;refine hK _ _ ?_;clear hK K;refine aC (λ_=>True) trivial (av ?_);go_wp2_with fail;have hbN:=(HF5.o.aE 0 (.int .i64 0)).aE 1 (.int .i64 0);have x0':=hbN.cell 0;have x1':=hbN.cell 1;simp only [Zu,Zv,Lz,aB] at x0' x1';refine bodyPost_ret (v:=.tuple #[.int .i64 c, .agg #[.int .i64 0, .int .i64 0]]) (by simp [results,Tryz.results14,go_sem,f0,f1,x0',x1']) rfl ?_;have ke:=(((aa.refl (·=sb+1) w5).setCell (p:=⟨sb+1,0,none⟩) (.inl rfl) (.int .i64 0)).setCell (p:=⟨sb+1,1,none⟩) (.inl rfl) (.int .i64 0)).drew;unfold sg;rw [HVV.o];refine ⟨rfl,h2,g3,_,_,M5.o.box ke HF5.o (by have:=HLO.o;omega),R2.o,K5.o.then ke (λb hb=>.inr (by have:=HSW.o;omega)),λk hk=>?_⟩;rcases hk with rfl | hk | hk
 ·exact .inl (.inl rfl)
 ·exact (O2.o k hk).imp (λh3=>.inr (.inl h3)) (λh3=>by have:=HSW.o;omega)
 ·exact (O3.o k hk).imp (λh3=>.inr (.inr h3)) (λh3=>by have:=HSW.o;omega)
end
end
section
open Go.RowKit
def Cn (w:World) (n o:Int) (e:Ending) (w':World):Prop:=
 ∃ t p q,e=.returned (.tuple #[.pointer (some ⟨t,0,none⟩), .agg #[.int .i64 0, .int .i64 0]])/\AR w w' t p q 0 (Wd.new n o)
theorem An (n o:Int) (w:World) (hf:Ar.fits n o=true):Calls Tryz.prog 13 #[.int .i64 n, .int .i64 o] w (Cn w n o):=by
 have HFIT:=Hz hf;go_enter Tryz.func13,Tryz.ntmps13;go_wp2_with fail;refine (uD n o _ hf).mono ?_;rintro e w1 ⟨h,rfl,H1,k1,o1⟩;have ka0:=(Kz w).alloc (.cells #[.int .i64 0, .int .i64 0] 33);have ay:ak w1 w.heap.size [.int .i64 0, .int .i64 0] 33:=k1.au (ak.newAt _ rfl rfl) (λh=>h);have kb:=(Kz w1).alloc (.cells #[.int .i64 0, .int .i64 0] 33);have FB:=Hz (ak.new w1 [.int .i64 0, .int .i64 0] 33);have A2:=Hz (show HM w (w1.alloc (.cells #[.int .i64 0, .int .i64 0] 33)) h.p h (Wo.new n o) from ⟨H1.same kb,rfl,(ka0.trans k1).trans kb,λk hk=>by have:=o1 k hk;simp at this;omega⟩);have RB:=Hz (kb.au ay (λh=>h));have HRN:=Hz (show w.heap.size<w1.heap.size from ay.lt);have HON:=Hz (show ∀ k,h.Own k->k≠w.heap.size/\k<w1.heap.size from λk hk=>⟨by have:=o1 k hk;simp at this;omega,H1.aZ hk⟩);clear H1 k1 o1 ka0 ay kb hf;go_upto_region 2 with (fail)
 generalize w1.alloc (.cells #[.int .i64 0, .int .i64 0] 33)=w2 at *;generalize h.p=p at *;have HWS:=Hz (rfl:w.heap.size=w.heap.size);generalize hfb:w1.heap.size=fb at *;generalize hrb:w.heap.size=rb at *;have HRB:=Hz hrb;clear hfb hrb;have d0:=FB.o.cell 0;have dl:=FB.o.lt;simp only [Lz] at d0;go_wp2_with fail;refine (Ae n o _ HFIT.o).mono ?_;rintro e w3 ⟨g,rfl,G3,k3,o3⟩;have A3:=Hz (A2.o.same k3);have FB3:=Hz (k3.au FB.o (λh=>h));have RB3:=Hz (k3.au RB.o (λh=>h));have G3':=Hz (show kF w w3 g.p g (Wd.new n o) from ⟨G3,rfl,A3.o.K,λk hk=>by have:=o3 k hk;have:=A2.o.K.size;omega⟩);have HAP:=Hz (show ∀ k,¬ (h.Own k/\g.Own k) from λk hk=>by have:=o3 k hk.2;have:=A2.o.B.aZ hk.1;omega);have HGN:=Hz (show ∀ k,g.Own k->k≠fb/\k≠rb from λk hk=>by have:=o3 k hk;have:=FB.o.lt;have:=RB.o.lt;omega);clear G3 k3 o3 d0 dl A2 FB RB;generalize g.p=q at *;have d0:=FB3.o.cell 0;have d1:=FB3.o.cell 1;have dl:=FB3.o.lt;have df:=FB3.o.free 0;have df1:=FB3.o.free 1;have r0:=RB3.o.cell 0;have r1:=RB3.o.cell 1;have rl:=RB3.o.lt;have rf:=RB3.o.free 0;have rf1:=RB3.o.free 1;simp only [Lz,aB] at d0 d1 r0 r1;have hne:fb≠rb:=by have:=HRN.o;omega
 have hne2:=Ne.symm hne;go_wp2_with fail;have k1:=((aa.refl (λk=>k=fb\/k=rb) w3).setCell (p:=⟨fb,0,none⟩) (.inl (.inl rfl)) (.int .i64 0)).setCell (p:=⟨fb,1,none⟩) (.inl (.inl rfl)) (.int .i64 0);have k2:=(k1.setCell (p:=⟨rb,0,none⟩) (.inl (.inr rfl)) (.int .i64 0)).setCell (p:=⟨rb,1,none⟩) (.inl (.inr rfl)) (.int .i64 0);have rb4:=((((RB3.o.cj (a:=⟨fb,0,none⟩) hne2 (.int .i64 0)).cj (a:=⟨fb,1,none⟩) hne2 (.int .i64 0)).aE 0 (.int .i64 0)).aE 1 (.int .i64 0));have hz:((((w3.setCell ⟨fb,0,none⟩ (.int .i64 0)).setCell ⟨fb,1,none⟩ (.int .i64 0)).setCell ⟨rb,0,none⟩ (.int .i64 0)).setCell ⟨rb,1,none⟩ (.int .i64 0)).heap.size=w3.heap.size:=by simp
 generalize (((w3.setCell ⟨fb,0,none⟩ (.int .i64 0)).setCell ⟨fb,1,none⟩ (.int .i64 0)).setCell ⟨rb,0,none⟩ (.int .i64 0)).setCell ⟨rb,1,none⟩ (.int .i64 0)=w4 at *;have ka:=(Kz w4).alloc (.cells #[.pointer (some ⟨p,0,none⟩), .pointer (some ⟨q,0,none⟩), .int .i64 0, .int .i64 0, .int .i64 0] 54);have rb5:=rb4.alloc (.cells #[.pointer (some ⟨p,0,none⟩), .pointer (some ⟨q,0,none⟩), .int .i64 0, .int .i64 0, .int .i64 0] 54);have x0':=rb5.cell 0;have x1':=rb5.cell 1;simp only [Zu,Zv,Lz,aB] at x0' x1';refine bodyPost_ret (v:=.tuple #[.pointer (some ⟨w3.heap.size,0,none⟩), .agg #[.int .i64 0, .int .i64 0]]) (by simp [results,Tryz.results13,go_sem,x0',x1']) rfl ?_;have hlo:∀ j,j=fb\/j=rb->w.heap.size<=j:=λj hj=>by have:=HRB.o;have:=HRN.o;omega
 have hA:∀ j,h.Own j->¬ (j=fb\/j=rb):=λj hj e=>by have:=HON.o j hj;omega
 have hG:∀ j,g.Own j->¬ (j=fb\/j=rb):=λj hj e=>by have:=HGN.o j hj;omega
 have K4:=A3.o.K.then k2 (λj hj=>.inr (hlo j hj));refine ⟨w3.heap.size,p,q,rfl,h,g,_,_,⟨ak.newAt _ hz.symm rfl,⟨(A3.o.B.ab k2 hA).same ka,A3.o.e,K4.trans ka,A3.o.own⟩,⟨(G3'.o.B.ab k2 hG).same ka,G3'.o.e,K4.trans ka,G3'.o.own⟩,HAP.o,A3.o.K.size⟩,aI.new HFIT.o⟩
theorem Co (n o:Int) (w:World) (h:Ar.fits n o=false) :
  Calls Tryz.prog 13 #[.int .i64 n, .int .i64 o] w λe w'=>e=.returned (.tuple #[.pointer none, .agg #[.int .i64 1, .int .i64 (-1)]])/\aa (λ_=>False) w w':=by
 go_enter Tryz.func13,Tryz.ntmps13;go_wp2_with fail;refine (Br n o _ h).mono ?_;rintro e w1 ⟨rfl,hk⟩;have ka0:=(Kz w).alloc (.cells #[.int .i64 0, .int .i64 0] 33);have ay:ak w1 w.heap.size [.int .i64 0, .int .i64 0] 33:=hk.au (ak.newAt _ rfl rfl) (λh=>h);have HK:=Hz (ka0.trans hk);have HB:=Hz ay;clear hk ay ka0;generalize hb0:w.heap.size=b0 at HB ⊢;have HSB:=Hz (Nat.le_of_eq hb0);clear hb0;go_upto_region 2 with (fail)
 have kb:=(Kz w1).alloc (.cells #[.int .i64 1, .int .i64 (-1)] 33);have hn:=ak.new w1 [.int .i64 1, .int .i64 (-1)] 33;have d0:(w1.alloc (.cells #[.int .i64 1, .int .i64 (-1)] 33)).cell? ⟨w1.heap.size,0,none⟩=some (.int .i64 1):=hn.cell 0;have d1:(w1.alloc (.cells #[.int .i64 1, .int .i64 (-1)] 33)).cell? ⟨w1.heap.size,1,none⟩=some (.int .i64 (-1)):=hn.cell 1;have dl:w1.heap.size<(w1.alloc (.cells #[.int .i64 1, .int .i64 (-1)] 33)).heap.size:=by simp
 have HK2:=Hz (HK.o.trans kb);have HB2:=Hz (kb.au HB.o (λh=>h));clear kb HK HB hn;generalize w1.alloc (.cells #[.int .i64 1, .int .i64 (-1)] 33)=w2 at *;have f0:=HB2.o.free 0;have f1:=HB2.o.free 1;have c0:=HB2.o.cell 0;have c1:=HB2.o.cell 1;have cl:=HB2.o.lt;simp only [Lz,aB] at c0 c1;go_wp2_with fail;refine a6 (.free 1 (.pure 0 (.run 2 (.swi [] (.fin))))) [2] (Fz d0 (Fa d1)) ?_
 iterate 2 refine Wz ?_
 refine aD rfl rfl rfl (λK hK=>?_);unfold ax;go_simp;refine hK _ _ ?_;clear hK K;refine aC (λ_=>True) trivial (av ?_);go_wp2_with fail;have hbN:=(HB2.o.aE 0 (.int .i64 1)).aE 1 (.int .i64 (-1));have x0':=hbN.cell 0;have x1':=hbN.cell 1;simp only [Zu,Zv,Lz,aB] at x0' x1';refine bodyPost_ret (v:=.tuple #[.pointer none, .agg #[.int .i64 1, .int .i64 (-1)]]) (by simp [results,Tryz.results13,go_sem,c0,c1,x0',x1']) rfl ⟨rfl,?_⟩;exact (HK2.o.drew.setCell (p:=⟨b0,0,none⟩) (.inr HSB.o) _).setCell (p:=⟨b0,1,none⟩) (.inr HSB.o) _
end
section
open Go.RowKit
theorem Eu:pg.view.2.length=1:=by decide +kernel
end
section
open Go.RowKit
theorem Ao:pg=⟨[⟨1,[(0,0),(0,0)],false,false⟩],(3,0) :: List.replicate 11 (0,0),[],[],16,8⟩:=by kernel_rfl
theorem Wd.Ev (W:Wd):W.do ⟨15,0,0,0,0,0⟩=W.cut false:=by kernel_rfl
theorem EE:(pg.cut false).1=0:=by
 unfold Wd.cut;have h:∀ is:List Bool,¬ e9 is pg.T > pg.grow:=λis=>by
  rw [Ao];unfold e9;simp only [List.mapIdx_cons,List.mapIdx_nil,List.sum_cons,List.sum_nil];split <;> decide
 rw [if_neg (by rw [Ao];decide),if_neg (h _)]
theorem Wd.y6 (W:Wd) (b:Bool):(W.cut b).2.roots=W.roots:=by
 unfold Wd.cut;split
 ·rfl
 ·split <;> rfl
theorem EF (W:Wd) (h:W.rt 1=(0,0)):W.do ⟨11,0,1,0,0,0⟩=(2,W):=by
 unfold Wd.do
 rw [if_pos (by decide)];have e:W.step ⟨11,0,1,0,0,0⟩=W.get ⟨11,0,1,0,0,0⟩:=by kernel_rfl
 rw [e];unfold Wd.get;have hf:W.bP ⟨11,0,1,0,0,0⟩=2:=by
  unfold Wd.bP Wd.ah;rw [h]
  rfl
 rw [if_neg (by rw [hf];decide),hf]
theorem Ea:runL (Wd.new 16 8) [⟨4,0,0,0,0,0⟩,⟨15,0,0,0,0,0⟩,⟨11,0,1,0,0,0⟩]=([0,0,2],(pg.cut false).2):=by
 simp only [runL];rw [EC];have e:((Wd.new 16 8).do ⟨4,0,0,0,0,0⟩).2=pg:=rfl;rw [e,Wd.Ev,EE,EF];unfold Wd.rt;rw [Wd.y6,Ao]
 rfl
theorem DB:(pg.cut false).2.view.2.length=1:=by
 have h0:(Wd.new 16 8).ok:=(aI.new (by decide)).hw;have h1:pg.ok:=h0.do _
 have hs:pg.bC:=(Wd.nI 16 8).do h0 (by decide) (by decide) (by decide)
 rw [hs.zM h1];exact Eu
end
section
open Go.RowKit
def DC (w:World) (n o:Int) (L:List St) (e:Ending) (w':World):Prop:=
 ∃ v c,e=.returned (.tuple #[c,v, .agg #[.int .i64 0, .int .i64 0]])/\aa (λ_=>False) w w'/\Sl w' 3 1 c L.length ((runL (Wd.new n o) L).1.map (Value.int .i64))/\iS w' v (runL (Wd.new n o) L).2.view
structure ph (w0 w:World) (t p q:Nat) (n o:Int) (L:List St) (k:Nat) (v:Value):Prop where
 tw:∃ h g O φ,gy w0 w t p q k h g O (runL (Wd.new n o) (L.take k)).2/\aI O (runL (Wd.new n o) (L.take k)).2 φ/\∀ b,aq v b->¬ kY t h g b
 sl:Sl w 3 1 v k ((runL (Wd.new n o) (L.take k)).1.map (Value.int .i64))
 nw:∀ b,aq v b->w0.heap.size<=b
section
variable {w:World}
theorem ph.K {w0 w:World} {t p q:Nat} {n o:Int} {L:List St} {k:Nat} {v:Value} (I:ph w0 w t p q n o L k v):aa (λ_=>False) w0 w:=by
 obtain ⟨h,g,O,φ,M,-,-⟩:=I.tw;exact M.A.K
theorem ph.same {w0 w w':World} {t p q:Nat} {n o:Int} {L:List St} {k:Nat} {v:Value} (I:ph w0 w t p q n o L k v) (kk:aa (λ_=>False) w w'):ph w0 w' t p q n o L k v:=by
 obtain ⟨h,g,O,φ,M,R,d⟩:=I.tw;exact ⟨⟨h,g,O,φ,M.same kk,R,d⟩,I.sl.ab kk (λ_ _ h=>h),I.nw⟩
theorem gy.ab {w0 w w':World} {t p q:Nat} {n:Int} {h:HH} {g:dj} {O:Wo} {W:Wd} {S:Nat->Prop} (M:gy w0 w t p q n h g O W) (k:aa S w w') (hS:∀ b,S b->¬ kY t h g b) (hn:∀ b,S b->w0.heap.size<=b):gy w0 w' t p q n h g O W:=
 ⟨k.au M.T (λe=>hS t e (.inl rfl)),⟨M.A.B.ab k (λj hj e=>hS j e (.inr (.inl hj))),M.A.e,M.A.K.then k (λj hj=>.inr (hn j hj)),M.A.own⟩,⟨M.B.B.ab k (λj hj e=>hS j e (.inr (.inr hj))),M.B.e,M.B.K.then k (λj hj=>.inr (hn j hj)),M.B.own⟩,M.ap,M.lo⟩
theorem gy.aZ {w0 w:World} {t p q:Nat} {n:Int} {h:HH} {g:dj} {O:Wo} {W:Wd} (M:gy w0 w t p q n h g O W) {b:Nat} (hb:kY t h g b):b<w.heap.size:=by
 rcases hb with rfl | hb | hb
 ·exact M.T.lt
 ·exact M.A.B.aZ hb
 ·exact M.B.B.aZ hb
theorem wQ (n o:Int) (L:List St) (lo:Option Addr) (lc m:Nat) (w:World) (h0:Rd w lo (dD L)) (hm:L.length=m) (hl:m<=2000) (hf:Ar.fits n o=true) :
  Calls Tryz.prog 7 #[.int .i64 n, .int .i64 o, .slice lo m lc] w (DC w n o L):=by
 obtain ⟨i0,hi,hz0,hz1,hz2⟩:=info_parts ic;have Hi:=Hz hi;have Hz0:=Hz hz0;have Hz1:=Hz hz1;have Hz2:=Hz hz2;clear hi hz0 hz1 hz2;have H0:=Hz h0;have HFIT:=Hz hf;have HM:=Hz hm;clear h0 hf hm;go_enter Tryz.func7,Tryz.ntmps7;go_wp2_with fail;refine (An n o _ HFIT.o).mono ?_;rintro e w2 ⟨t,p,q,rfl,I2⟩;obtain ⟨rb,hrb⟩:∃ b,w.heap.size=b:=⟨_,rfl⟩;have RB:=Hz (show ak ((w.alloc (.cells #[.slice none 0 0, .slice none 0 0] 31)).alloc (.cells #[.int .i64 0, .int .i64 0] 33)) rb [.slice none 0 0, .slice none 0 0] 31 from by rw [<-hrb];exact (ak.newAt _ rfl rfl).alloc _);have FB:=Hz (show ak ((w.alloc (.cells #[.slice none 0 0, .slice none 0 0] 31)).alloc (.cells #[.int .i64 0, .int .i64 0] 33)) (rb+1) [.int .i64 0, .int .i64 0] 33 from by rw [<-hrb];exact ak.newAt _ (by simp) rfl);have KW:=Hz (((Kz w).alloc (.cells #[.slice none 0 0, .slice none 0 0] 31)).alloc (.cells #[.int .i64 0, .int .i64 0] 33));generalize hB:(w.alloc (.cells #[.slice none 0 0, .slice none 0 0] 31)).alloc (.cells #[.int .i64 0, .int .i64 0] 33)=wB at *;have HSB:=Hz (show wB.heap.size=rb+2 from by rw [<-hB,<-hrb];simp);have HI2:=Hz (I2.same ((Kz w2).alloc (.cells #[.int .i64 0, .int .i64 0] 33)));clear I2 hB;go_upto_region 4 with (fail)
 have HI:=Hz (show ph wB (w2.alloc (.cells #[.int .i64 0, .int .i64 0] 33)) t p q n o L 0 (.slice none 0 0) from by
  obtain ⟨h,g,O,φ,M,R⟩:=HI2.o
  exact ⟨⟨h,g,O,φ,M,R,λb hb=>(b9 hb).elim⟩,Sl.nil _ _ _,λb hb=>(b9 hb).elim⟩)
 clear HI2;generalize w2.alloc (.cells #[.int .i64 0, .int .i64 0] 33)=w4 at *;generalize w2.heap.size=xb at *;have hl':¬ ((2000:Int)<m):=by omega
 go_wp2_with fail;refine lG (λi=>Nat.beq i 11 || Nat.blt 12 i && Nat.blt i 16 || Nat.blt 33 i) (λs wr=>∃ (k:Nat) (v:Value),k<=m/\s 34=.int .i64 k/\s 11=v/\ph wB wr t p q n o L k v) (λs _=>m-(intOf (s 34)).toNat) ?_ ?_
 ·exact ⟨0,_,Zc _,rfl,rfl,HI.o⟩
 ·intro u0 wr hrel K hK;clear HI;obtain ⟨k,v,hk,e34,e11,hI⟩:=hrel;have e34:u0 34=.int .i64 k:=e34;have e11:u0 11=v:=e11;have HI:=Hz hI;clear hI;simp only [fI,overL,List.toList_toArray,Nat.blt,Nat.beq,Nat.ble,Nat.reduceAdd,Bool.or_false,Bool.false_or,Bool.or_true,Bool.true_or,Bool.and_true,Bool.true_and,Bool.and_false,Bool.false_and,cond_true,cond_false];rw [e34,e11];have E34:=Hz e34;clear e34 e11;by_cases hlt:k<m
  ·have hki:(k:Int)<m:=by omega
   obtain ⟨gs,os,rfl,hgl,d0,d1,d2,d3,d4,d5⟩:=H0.o.step k (by rw [HM.o];exact hlt);obtain ⟨x,hx⟩:∃ x,L.getD k St.zero=x:=⟨_,rfl⟩;rw [hx] at d0 d1 d2 d3 d4 d5;have HXK:=Hz hx;clear hx;obtain ⟨d,r,a,b,i,z⟩:=x;dsimp only at d0 d1 d2 d3 d4 d5;have kwr:=KW.o.trans HI.o.K;have hcc:∀ q,wr.cell? ⟨gs,q,none⟩=w.cell? ⟨gs,q,none⟩:=λq=>World.cell?_of_block (w:=w) (a:=⟨gs,q,none⟩) (kwr.block gs hgl (λh=>h));rw [<-hcc] at d0 d1 d2 d3 d4 d5;have hgr:=Zd hgl kwr.size;clear kwr hcc;go_upto_region 10 with fail
   have kal:=(Kz wr).alloc (.cells #[.int .i64 d, .int .i64 r, .int .i64 a, .int .i64 b, .int .i64 i, .int .i64 z] 26);have BX:=Hz (ak.new wr [.int .i64 d, .int .i64 r, .int .i64 a, .int .i64 b, .int .i64 i, .int .i64 z] 26);have HI1:=Hz (HI.o.same kal);clear HI kal d0 d1 d2 d3 d4 d5 hgr;generalize wr.alloc (.cells #[.int .i64 d, .int .i64 r, .int .i64 a, .int .i64 b, .int .i64 i, .int .i64 z] 26)=w5 at *;generalize wr.heap.size=xs at *;have e0:=BX.o.cell 0;have e1:=BX.o.cell 1;have e2:=BX.o.cell 2;have e3:=BX.o.cell 3;have e4:=BX.o.cell 4;have e5:=BX.o.cell 5;have el:=BX.o.lt;simp only [Lz,aB] at e0 e1 e2 e3 e4 e5;have hstep:=yV (Wd.new n o) (L:=L) (k:=k) (by rw [HM.o];exact hlt);rw [HXK.o] at hstep;have hTk:=yW (Wd.new n o) (L.take k);have h00:(Wd.new n o).T.length=0:=rfl;rw [Zx] at hTk;obtain ⟨⟨h,g,O,φ,M5,R5,ow⟩,s5,nw⟩:=HI1.o;obtain ⟨⟨Ck,Wk⟩,hk0⟩:∃ t,runL (Wd.new n o) (L.take k)=t:=⟨_,rfl⟩;rw [hk0] at hstep hTk M5 R5 s5;dsimp only at hstep hTk M5 R5 s5;have hdo:=DA M5 R5 (by omega) (by omega) ⟨d,r,a,b,i,z⟩;dsimp only at hdo;unfold sg at hdo;obtain ⟨⟨c,V⟩,hV⟩:∃ t,Wk.do ⟨d,r,a,b,i,z⟩=t:=⟨_,rfl⟩
   rw [hV] at hdo hstep;dsimp only at hdo hstep;have HDO:=Hz hdo;have HST:=Hz hstep;have S5:=Hz s5;have OW:=Hz ow;have NW:=Hz nw;clear HI1 hk0 hTk h00 M5 R5 hV hdo hstep s5 ow nw;go_upto_region 11 with fail
   refine HDO.o.mono ?_;rintro e w6 ⟨rfl,h',g',O',φ',m6,r6,k6,o6⟩;have OD:=Hz (show ∀ b,aq v b->¬ kY t h' g' b from λb hb hT=>(o6 b hT).elim (OW.o b hb) (λh2=>by have:=(S5.o.own hb).1;omega));have ka:=(Kz w6).alloc (.cells #[.int .i64 0, .int .i64 0] 33);have M7:=Hz (m6.same ka);have R7:=Hz r6;have S7:=Hz ((S5.o.ab k6 (λb hb=>OW.o b hb)).ab ka (λ_ _ h=>h));have f0:(w6.alloc (.cells #[.int .i64 0, .int .i64 0] 33)).cell? ⟨w6.heap.size,0,none⟩=some (.int .i64 0):=(ak.new w6 [.int .i64 0, .int .i64 0] 33).cell 0;have fl:w6.heap.size<(w6.alloc (.cells #[.int .i64 0, .int .i64 0] 33)).heap.size:=by simp
   clear m6 r6 k6 o6 ka HDO S5 OW BX e0 e1 e2 e3 e4 e5 el;go_upto_region 11 with fail
   generalize w6.alloc (.cells #[.int .i64 0, .int .i64 0] 33)=w7 at *;generalize w6.heap.size=fb at *;go_wp2_with (at_builtin;refine cE rfl (.tmp 49) (.tmp 51) 27 rfl 3 i0 (.int .i64 0) 1 8 Tryz.underlying27 Hi.o Hz0.o Hz1.o Hz2.o rfl (by decide) _ k _ rfl (S7.o.ab ((Kz w7).alloc _) (λ_ _ h=>h)) ⟨w7.heap.size,0,none⟩ 1 1 [.int .i64 c] rfl rfl (bV w7 3 #[.int .i64 c]) (by intro u hu;simp at hu;subst hu;rfl) (by unfold maxLen;omega) (by omega) ?_);intro v8 w8 hs8 hk8 ho8;have M8:=M7.o.same ((Kz w7).alloc (.cells #[.int .i64 c] 3));have HZ7:=Hz (show (w7.alloc (.cells #[.int .i64 c] 3)).heap.size=w7.heap.size+1 by simp);have HI8:=Hz (show ph wB w8 t p q n o L (k+1) v8 from ⟨⟨h',g',O',φ',by rw [HST.o];push_cast;exact M8.ab hk8 OD.o NW.o,by rw [HST.o];exact R7.o,λb hb hT=>(ho8 b hb).elim (λh1=>OD.o b h1 hT) (λh2=>by have:=M8.aZ hT;rw [HZ7.o] at this;omega)⟩,
    by rw [HST.o];simpa using hs8,λb hb=>(ho8 b hb).elim (NW.o b) (λh2=>by have:=M8.A.K.size;rw [HZ7.o] at this;omega)⟩)
   clear hs8 hk8 ho8 M8 HZ7 M7 R7 S7 OD NW HST f0 fl;go_wp2_with fail;refine ⟨⟨by kernel_rfl,?rel⟩,?measure⟩
   case rel=>exact ⟨k+1,v8,hlt,by go_num,rfl,HI8.o⟩
   case measure=>exact mH (by go_num) (by first | rfl | exact E34.o) hlt
  ·obtain rfl:k=m:=by omega
   have hTm:L.take k=L:=by rw [<-HM.o,List.take_length]
   have KI:=Hz HI.o.K;obtain ⟨⟨h,g,O,φ,M5,R5,ow⟩,s5,nw⟩:=HI.o;rw [hTm] at M5 R5 s5;have HML:=HM.o;clear HI hTm H0 HFIT;have M:=Hz M5;have R:=Hz R5;have SS:=Hz s5;have NW:=Hz nw;clear M5 R5 s5 ow nw HM;obtain ⟨t0,-,-,-,-,tl⟩:=M.o.cells;obtain ⟨c0,pl⟩:=M.o.A.pc;go_wp2_with fail;refine (x8 _ M.o.A.B.H).mono ?_;rintro e w9 ⟨v9,rfl,hv9,hk9⟩;have V9:=Hz hv9;have K9:=Hz (KI.o.trans hk9);have S9:=Hz (SS.o.ab hk9 (λ_ _ h=>h));have HLR:=Hz (show rb+2<=wr.heap.size from by have:=KI.o.size;have:=HSB.o;omega);clear hk9 t0 tl c0 pl SS KI;obtain ⟨ro,rc,no,nc,F,rfl,-,-,-⟩:=hv9;have RB9:=Hz (K9.o.au RB.o (λh=>h));have FB9:=Hz (K9.o.au FB.o (λh=>h));have r0:=RB9.o.cell 0;have r1:=RB9.o.cell 1;have rl:=RB9.o.lt;have rf:=RB9.o.free 0;have rf1:=RB9.o.free 1;have f0:=FB9.o.cell 0;have f1:=FB9.o.cell 1;have fl:=FB9.o.lt;have ff:=FB9.o.free 0;have ff1:=FB9.o.free 1;simp only [Lz,aB] at r0 r1 f0 f1;have hne:rb≠rb+1:=by omega
   have hne2:=Ne.symm hne;go_wp2_with fail;have rbN:=((((RB9.o.aE 0 (.slice ro O.view.1.length rc)).aE 1 (.slice no O.view.2.length nc)).cj (a:=⟨rb+1,0,none⟩) hne (.int .i64 0)).cj (a:=⟨rb+1,1,none⟩) hne (.int .i64 0));have fbN:=((((FB9.o.cj (a:=⟨rb,0,none⟩) hne2 (.slice ro O.view.1.length rc)).cj (a:=⟨rb,1,none⟩) hne2 (.slice no O.view.2.length nc)).aE 0 (.int .i64 0)).aE 1 (.int .i64 0));have x0:=rbN.cell 0;have x1:=rbN.cell 1;have y0:=fbN.cell 0;have y1:=fbN.cell 1;simp only [Zu,Zv,Lz,aB] at x0 x1 y0 y1;refine bodyPost_ret (v:=.tuple #[v, .agg #[.slice ro O.view.1.length rc, .slice no O.view.2.length nc], .agg #[.int .i64 0, .int .i64 0]]) (by simp [results,Tryz.results7,go_sem,r0,r1,f0,f1,x0,x1,y0,y1]) rfl ?_;have ke:=((((aa.refl (λj=>j=rb\/j=rb+1) w9).setCell (p:=⟨rb,0,none⟩) (.inl (.inl rfl)) (.slice ro O.view.1.length rc)).setCell (p:=⟨rb,1,none⟩) (.inl (.inl rfl)) (.slice no O.view.2.length nc)).setCell (p:=⟨rb+1,0,none⟩) (.inl (.inr rfl)) (.int .i64 0)).setCell (p:=⟨rb+1,1,none⟩) (.inl (.inr rfl)) (.int .i64 0);refine ⟨_,v,rfl,(KW.o.trans K9.o).then ke (λb hb=>.inr (by omega)),by rw [HML];exact S9.o.ab ke (λb hb hj=>by have:=NW.o b hb;have:=HSB.o;omega),?_⟩;rw [<-R.o.view];exact (V9.o.ab ke (λj h1 _ hj=>by have:=HLR.o;omega)).rep R.o
end
end
section
open Go.RowKit
theorem vm (n o:Int) (lo:Option Addr) (lc m:Nat) (w:World) (hf:Ar.fits n o=false) :
  Calls Tryz.prog 7 #[.int .i64 n, .int .i64 o, .slice lo m lc] w λe w'=>e=.returned (.tuple #[.slice none 0 0, .agg #[.slice none 0 0, .slice none 0 0], .agg #[.int .i64 1, .int .i64 (-1)]])/\aa (λ_=>False) w w':=by
 go_enter Tryz.func7,Tryz.ntmps7;go_wp2_with fail;refine (Co n o _ hf).mono ?_;rintro e w2 ⟨rfl,hk⟩;have RB:=Hz (hk.au (show ak ((w.alloc (.cells #[.slice none 0 0, .slice none 0 0] 31)).alloc (.cells #[.int .i64 0, .int .i64 0] 33)) w.heap.size [.slice none 0 0, .slice none 0 0] 31 from (ak.newAt _ rfl rfl).alloc _) (λh=>h));have FB:=Hz (hk.au (show ak ((w.alloc (.cells #[.slice none 0 0, .slice none 0 0] 31)).alloc (.cells #[.int .i64 0, .int .i64 0] 33)) (w.heap.size+1) [.int .i64 0, .int .i64 0] 33 from ak.newAt _ (by simp) rfl) (λh=>h));have KW:=Hz ((((Kz w).alloc (.cells #[.slice none 0 0, .slice none 0 0] 31)).alloc (.cells #[.int .i64 0, .int .i64 0] 33)).trans hk);have HRW:=Hz (Zb w.heap.size);clear hk;generalize hrb:w.heap.size=rb at *;have HRB:=Hz (show w.heap.size=rb from hrb);clear hrb HRW;go_upto_region 2 with (fail)
 have kb:=(Kz w2).alloc (.cells #[.int .i64 1, .int .i64 (-1)] 33);have hn:=ak.new w2 [.int .i64 1, .int .i64 (-1)] 33;have d0:(w2.alloc (.cells #[.int .i64 1, .int .i64 (-1)] 33)).cell? ⟨w2.heap.size,0,none⟩=some (.int .i64 1):=hn.cell 0;have d1:(w2.alloc (.cells #[.int .i64 1, .int .i64 (-1)] 33)).cell? ⟨w2.heap.size,1,none⟩=some (.int .i64 (-1)):=hn.cell 1;have dl:w2.heap.size<(w2.alloc (.cells #[.int .i64 1, .int .i64 (-1)] 33)).heap.size:=by simp
 have RB2:=Hz (kb.au RB.o (λh=>h));have FB2:=Hz (kb.au FB.o (λh=>h));have KW2:=Hz (KW.o.trans kb);have HXL:=Hz (show rb+1<w2.heap.size from FB.o.lt);have XB:=Hz hn;clear kb RB FB KW hn;generalize w2.alloc (.cells #[.int .i64 1, .int .i64 (-1)] 33)=w3 at *;generalize w2.heap.size=xb at *;have r0:=RB2.o.cell 0;have r1:=RB2.o.cell 1;have rl:=RB2.o.lt;have rf:=RB2.o.free 0;have rf1:=RB2.o.free 1;have f0:=FB2.o.cell 0;have f1:=FB2.o.cell 1;have fl:=FB2.o.lt;have ff:=FB2.o.free 0;have ff1:=FB2.o.free 1;simp only [Lz,aB] at r0 r1 f0 f1;go_wp2_with fail;refine Ew (.free 0 (.free 2 (.base 1 (.run 3 (.swi [4] (.run 4 (.swi [] (.fin)))))))) [3,4] (λw'=>w'.cell? ⟨xb,0,none⟩=some (.int .i64 1)/\w'.cell? ⟨xb,0+1,none⟩=some (.int .i64 (-1))) (λ_=>True) ⟨d0,d1⟩ trivial ?_
 iterate 3 refine Wz ?_
 refine ou rfl rfl rfl (λK hK=>?_);unfold ax;go_simp;have hx1:xb≠rb:=by have:=HXL.o;omega
 have hx2:rb≠rb+1:=by omega
 have xb4:=((XB.o.cj (a:=⟨rb,0,none⟩) hx1 (.slice none 0 0)).cj (a:=⟨rb,1,none⟩) hx1 (.slice none 0 0)).drew;have rb4:=Hz ((RB2.o.aE 0 (.slice none 0 0)).aE 1 (.slice none 0 0)).drew;have fb4:=Hz ((FB2.o.cj (a:=⟨rb,0,none⟩) (Ne.symm hx2) (.slice none 0 0)).cj (a:=⟨rb,1,none⟩) (Ne.symm hx2) (.slice none 0 0)).drew;have kw4:=Hz ((((aa.refl (λj=>j=rb\/j=rb+1) w3).setCell (p:=⟨rb,0,none⟩) (.inl (.inl rfl)) (.slice none 0 0)).setCell (p:=⟨rb,1,none⟩) (.inl (.inl rfl)) (.slice none 0 0)).drew);have HX1:=Hz hx1;have HX2:=Hz hx2;have XB4:=Hz xb4;have HX3:=Hz (show xb≠rb+1 by have:=HXL.o;omega);refine hK _ _ (λ_=>⟨xb4.cell 0,xb4.cell 1⟩) ?_;clear hK K d0 d1 dl r0 r1 rl rf rf1 f0 f1 fl ff ff1 RB2 FB2 XB xb4 hx1 hx2;generalize ((w3.setCell ⟨rb,0,none⟩ (.slice none 0 0)).setCell ⟨rb,1,none⟩ (.slice none 0 0)).drew=w4 at *;have r0:=rb4.o.cell 0;have r1:=rb4.o.cell 1;have f0:=fb4.o.cell 0;have f1:=fb4.o.cell 1;have fl:=fb4.o.lt;have ff:=fb4.o.free 0;have ff1:=fb4.o.free 1;simp only [Zu,Zv,Lz,aB] at r0 r1 f0 f1;refine aC (λ_=>True) trivial ?_;refine ou rfl rfl rfl (λK hK=>?_);unfold ax;go_simp;have xb5:=((XB4.o.cj (a:=⟨rb+1,0,none⟩) HX3.o (.int .i64 1)).cj (a:=⟨rb+1,1,none⟩) HX3.o (.int .i64 (-1))).drew;refine hK _ _ (λ_=>⟨xb5.cell 0,xb5.cell 1⟩) ?_;clear xb5;clear hK K;refine aC (λ_=>True) trivial (av ?_);go_wp2_with fail;have rbN:=(rb4.o.cj (a:=⟨rb+1,0,none⟩) HX2.o (.int .i64 1)).cj (a:=⟨rb+1,1,none⟩) HX2.o (.int .i64 (-1));have fbN:=(fb4.o.aE 0 (.int .i64 1)).aE 1 (.int .i64 (-1));have x0:=rbN.cell 0;have x1:=rbN.cell 1;have y0:=fbN.cell 0;have y1:=fbN.cell 1;simp only [Zu,Zv,Lz,aB] at x0 x1 y0 y1;refine bodyPost_ret (v:=.tuple #[.slice none 0 0, .agg #[.slice none 0 0, .slice none 0 0], .agg #[.int .i64 1, .int .i64 (-1)]]) (by simp [results,Tryz.results7,go_sem,r0,r1,f0,f1,x0,x1,y0,y1]) rfl ⟨rfl,?_⟩;have ke:=((kw4.o.setCell (p:=⟨rb+1,0,none⟩) (.inl (.inr rfl)) (.int .i64 1)).setCell (p:=⟨rb+1,1,none⟩) (.inl (.inr rfl)) (.int .i64 (-1)))
 first
 | exact (KW2.o.then ke (λb hb=>.inr (by have:=HRB.o;omega)))
 | exact (KW2.o.then ke (λb hb=>.inr (by have:=HRB.o;omega))).drew
end
section
open Go.RowKit
theorem kZ (a b:Option Addr) (ca cb n:Nat) (l:List Int) (w:World) (h1:Rd w a (l.map (Value.int .i64))) (h2:Rd w b (l.map (Value.int .i64))) (hn:l.length=n) (hl:n<=1000000) :
  Calls Tryz.prog 10 #[.slice a n ca, .slice b n cb] w λe w'=>e=.returned (.bool true)/\aa (λ_=>False) w w':=by
 subst hn;exact uL a b ca cb l w h1 h2 hl
theorem Rd.take {w:World} {ao:Option Addr} {xs:List Value} (h:Rd w ao xs) (k:Nat):Rd w ao (xs.take k):=by
 intro hx;obtain ⟨g,o,e,hg,hc⟩:=h (by rintro rfl;simp at hx);refine ⟨g,o,e,hg,λj hj=>?_⟩;rw [Zx] at hj;rw [hc j (by omega),List.getElem?_take,if_pos (by omega)]
theorem pk (w:World):Calls Tryz.prog 6 #[] w λe w'=>e=.returned (.bool true)/\aa (λ_=>False) w w':=by
 go_enter Tryz.func6,Tryz.ntmps6;go_wp2_with fail;have ka:=(Kz w).alloc (.cells #[.int .i64 4, .int .i64 0, .int .i64 0, .int .i64 0, .int .i64 0, .int .i64 0, .int .i64 15, .int .i64 0, .int .i64 0, .int .i64 0, .int .i64 0, .int .i64 0, .int .i64 11, .int .i64 0, .int .i64 1, .int .i64 0, .int .i64 0, .int .i64 0] 26);refine (wQ 16 8 [⟨4,0,0,0,0,0⟩,⟨15,0,0,0,0,0⟩,⟨11,0,1,0,0,0⟩] (some ⟨w.heap.size,0,none⟩) 3 3 _ (Rd.au (ak.newAt _ rfl rfl) 0 _ rfl) rfl (by decide) (by decide)).mono ?_;rintro e w1 ⟨v,c,rfl,k1,s1,v1⟩;rw [Ea] at s1 v1;have hk1:=ka.trans k1;dsimp only [List.length_cons,List.length_nil] at s1 v1;obtain ⟨ao,cap,rfl,rds,-,-⟩:=s1.rd;obtain ⟨ro,rc,nv,F,rfl,-,nd,-,-,-⟩:=v1;obtain ⟨no,nc,rfl,-⟩:=nd.nth;rw [DB];generalize (pg.cut false).2.view.1.length=rn;have kb:=((Kz w1).alloc (.cells #[.slice ro rn rc, .slice no 1 nc] 31)).alloc (.cells #[.int .i64 0, .int .i64 0] 33);have VB:=Hz (show ak ((w1.alloc (.cells #[.slice ro rn rc, .slice no 1 nc] 31)).alloc (.cells #[.int .i64 0, .int .i64 0] 33)) w1.heap.size [.slice ro rn rc, .slice no 1 nc] 31 from (ak.newAt _ rfl rfl).alloc _);have FB:=Hz (show ak ((w1.alloc (.cells #[.slice ro rn rc, .slice no 1 nc] 31)).alloc (.cells #[.int .i64 0, .int .i64 0] 33)) (w1.heap.size+1) [.int .i64 0, .int .i64 0] 33 from ak.newAt _ (by simp) rfl);have RD:=Hz (rds.ab kb (λ_ _ _ h=>h));have HK:=Hz (hk1.trans kb);clear kb rds hk1 ka k1 s1 nd;go_upto_region 2 with fail
 generalize (w1.alloc (.cells #[.slice ro rn rc, .slice no 1 nc] 31)).alloc (.cells #[.int .i64 0, .int .i64 0] 33)=w2 at *;generalize w1.heap.size=vb at *;have f0:=FB.o.cell 0;have fl:=FB.o.lt;simp only [Lz,aB] at f0;go_wp2_with fail;have ka:=(Kz w2).alloc (.cells #[.int .i64 0, .int .i64 0, .int .i64 2] 3);refine (kZ ao (some ⟨w2.heap.size,0,none⟩) cap 3 3 [0,0,2] _ (RD.o.ab ka (λ_ _ _ h=>h)) (Rd.au (ak.newAt _ rfl rfl) 0 _ rfl) rfl (by decide)).mono ?_;rintro e w3 ⟨rfl,hk3⟩;have VB3:=Hz ((ka.trans hk3).au VB.o (λh=>h));have HK3:=Hz (HK.o.trans (ka.trans hk3));clear ka hk3 VB FB f0 fl RD HK;have v1:=VB3.o.cell 1;have vl:=VB3.o.lt;simp only [Lz,aB] at v1;go_wp2_with fail;have ka:=(Kz w3).alloc (.cells #[.int .i64 16, .int .i64 0, .int .i64 0, .int .i64 0, .int .i64 0, .int .i64 0, .int .i64 2, .int .i64 0, .int .i64 0, .int .i64 0, .int .i64 0, .int .i64 0] 26);refine (yY [⟨16,0,0,0,0,0⟩,⟨2,0,0,0,0,0⟩] (some ⟨w3.heap.size,0,none⟩) 2 2 _ (Rd.au (ak.newAt _ rfl rfl) 0 _ rfl) rfl (by decide)).mono ?_;rintro e w4 ⟨v4,rfl,ss,hk4⟩;obtain ⟨ao4,cap4,rfl,-,-⟩:=ss.rd;have HK4:=Hz (HK3.o.trans (ka.trans hk4));rw [show ([⟨16,0,0,0,0,0⟩,⟨2,0,0,0,0,0⟩].filter λx:St=>!x.cut).length=1 by decide];clear ka hk4 ss;go_wp2_with fail;go_ret;exact ⟨rfl,HK4.o⟩
end
section
open Go.RowKit
theorem y7 (L:List St) (k:Nat):dD (L.take k)=(dD L).take (k*6):=by
 by_cases hk:k<=L.length
 ·have h:dD L=dD (L.take k) ++ dD (L.drop k):=by rw [<-uZ,List.take_append_drop]
  have hl:(dD (L.take k)).length=k*6:=by rw [j7,Zx];omega
  conv=>rhs;rw [h,List.take_append_of_le_length (Nat.le_of_eq hl.symm),List.take_of_length_le (Nat.le_of_eq hl)]
 ·rw [List.take_of_length_le (by omega),List.take_of_length_le (by rw [j7];omega)]
theorem si (x:Int) (m:Nat) (hm:0<m):((l6 x:Int)).tmod (m:Int)=((l6 x%m:Nat):Int):=by
 rw [Int.tmod_eq_emod_of_nonneg (by omega)];rfl
structure lS (w:World) (ao:Option Addr) (m ac:Nat) (ro:Option Addr) (rc:Nat) (no:Option Addr) (nc:Nat) (C:List Int) (V:List Vl × List Nd) (b:Nat):Prop where
 rd:Rd w ao (C.map (Value.int .i64))
 len:C.length=m
 cap:m<=ac
 vw:iS w (.agg #[.slice ro V.1.length rc, .slice no V.2.length nc]) V
 vb:ak w b [.slice ro V.1.length rc, .slice no V.2.length nc] 31
 fb:ak w (b+1) [.int .i64 0, .int .i64 0] 33
theorem iS.same {w w':World} {v:Value} {V:List Vl × List Nd} (h:iS w v V) (k:aa (λ_=>False) w w'):iS w' v V:=by
 obtain ⟨ro,rc,nv,F,e,a,b,c⟩:=h;exact ⟨ro,rc,nv,F,e,a.ab k (λ_ _ _ h=>h),b.ab k (λ_ _ _ h=>h) (λ_ _ h=>h),c⟩
theorem lS.same {w w':World} {ao ro no:Option Addr} {m ac rc nc b:Nat} {C:List Int} {V:List Vl × List Nd} (h:lS w ao m ac ro rc no nc C V b) (k:aa (λ_=>False) w w'):lS w' ao m ac ro rc no nc C V b:=
 ⟨h.rd.ab k (λ_ _ _ h=>h),h.len,h.cap,h.vw.same k,k.au h.vb (λh=>h),k.au h.fb (λh=>h)⟩
theorem lS.cells {w:World} {ao ro no:Option Addr} {m ac rc nc b:Nat} {C:List Int} {V:List Vl × List Nd} (h:lS w ao m ac ro rc no nc C V b) :
  w.cell? ⟨b,0,none⟩=some (.slice ro V.1.length rc)/\w.cell? ⟨b,1,none⟩=some (.slice no V.2.length nc)/\w.cell? ⟨b+1,0,none⟩=some (.int .i64 0)/\w.cell? ⟨b+1,1,none⟩=some (.int .i64 0)/\b+1<w.heap.size:=
 ⟨h.vb.cell 0,h.vb.cell 1,h.fb.cell 0,h.fb.cell 1,h.fb.lt⟩
theorem mQ (n o:Int) (L:List St) (lo:Option Addr) (lc m:Nat) (w:World) (C:List Int) (V:List Vl × List Nd) (h0:Rd w lo (dD L)) (hm:L.length=m) (hl:m<=2000) (hf:Ar.fits n o=true) (hC:(runL (Wd.new n o) L).1=C) (hV:(runL (Wd.new n o) L).2.view=V) :
  Calls Tryz.prog 7 #[.int .i64 n, .int .i64 o, .slice lo m lc] w λe w'=>∃ ao ac ro rc no nc,e=.returned (.tuple #[.slice ao m ac, .agg #[.slice ro V.1.length rc, .slice no V.2.length nc], .agg #[.int .i64 0, .int .i64 0]])/\aa (λ_=>False) w w' /\
   lS ((w'.alloc (.cells #[.slice ro V.1.length rc, .slice no V.2.length nc] 31)).alloc (.cells #[.int .i64 0, .int .i64 0] 33)) ao m ac ro rc no nc C V w'.heap.size:=by
 refine (wQ n o L lo lc m w h0 hm hl hf).mono ?_;rintro e w' ⟨v,c,rfl,hk,hs,hv⟩;rw [hC,hm] at hs;rw [hV] at hv;obtain ⟨ao,ac,rfl,hr,-,hc⟩:=hs.rd;have hv':=hv;obtain ⟨ro,rc,nv,F,rfl,-,nd,-,-,-⟩:=hv';obtain ⟨no,nc,rfl,-⟩:=nd.nth;have kb:=((Kz w').alloc (.cells #[.slice ro V.1.length rc, .slice no V.2.length nc] 31)).alloc (.cells #[.int .i64 0, .int .i64 0] 33);exact ⟨ao,ac,ro,rc,no,nc,rfl,hk,hr.ab kb (λ_ _ _ h=>h),by rw [<-hC,j8,hm],hc,hv.same kb,(ak.newAt _ rfl rfl).alloc _,ak.newAt _ (by simp) rfl⟩
end
section
open Go.RowKit
def jW (L:List St):List St:=L.filter St.str
theorem tq {L:List St} {k:Nat} {x:St} (h:L.take (k+1)=L.take k ++ [x]):jW (L.take (k+1))=jW (L.take k) ++ if x.str=true then [x] else []:=by
 rw [h];unfold jW;rw [List.filter_append];congr 1;by_cases hx:x.str=true
 ·rw [if_pos hx];simp [hx]
 ·rw [if_neg hx];simp [hx]
theorem vn (L:List St) (k:Nat):(jW (L.take k)).length<=k:=by
 unfold jW;exact Za (List.length_filter_le _ _) (by rw [Zx];omega)
theorem Ap {L:List St} {x:St} (h:x ∈ jW L):x.str=true:=(Zo.1 h).2
theorem Aq {x:St} (h:¬ x.str=true):x.k=6\/x.k=7\/x.k=8\/x.k=15\/x.k=16:=by
 unfold St.str at h;simp only [Bool.not_eq_true,Bool.not_eq_false',Bool.or_eq_true,beq_iff_eq] at h;omega
theorem DE (ao:Option Addr) (cap k:Nat) (l:List Int) (n:Int) (w:World) (h:Rd w ao (l.map (Value.int .i64))) (hk:l.length=k) (hl:k<=1000000) :
  Calls Tryz.prog 9 #[.slice ao k cap, .int .i64 n] w λe w'=>e=.returned (.bool (decide (n ∈ l)))/\w=w':=by
 subst hk;exact Ep ao cap l n w h (by omega)
theorem vp {S:List St} (hS:∀ x ∈ S,x.str=true) {n o n' o':Int} (h:Ar.fits n o=true) (h':Ar.fits n' o'=true) (h3:¬ (3:Int) ∈ (runL (Wd.new n o) S).1) (h3':¬ (3:Int) ∈ (runL (Wd.new n' o') S).1) :
  (runL (Wd.new n' o') S).1=(runL (Wd.new n o) S).1/\(runL (Wd.new n' o') S).2.view=(runL (Wd.new n o) S).2.view:=by
 have hc:∀ x ∈ S,x.cut=false:=λx hx=>St.Ce (hS x hx);have hf:S.filter (λx=>!x.cut)=S:=List.filter_eq_self.2 λx hx=>by rw [hc x hx];rfl
 have hl:=rL S (runL (Wd.new n' o') S).1 hc (j8 _ _);have:=nV S S (Wd.new n o) (Wd.new n' o') _ hf hS (dz.new n o n' o') (aI.new h).hw (aI.new h').hw (Wd.nI _ _) (Wd.nI _ _) h3 (by rw [hl];exact h3');rw [hl] at this;exact this
theorem As (n o n' o':Int) (S:List St) (lo:Option Addr) (lc m:Nat) (w:World) (C:List Int) (V:List Vl × List Nd) (h0:Rd w lo (dD S)) (hm:S.length=m) (hl:m<=2000) (hf:Ar.fits n o=true) (hf':Ar.fits n' o'=true) (hS:∀ x ∈ S,x.str=true) (hC:(runL (Wd.new n o) S).1=C) (hV:(runL (Wd.new n o) S).2.view=V) :
  Calls Tryz.prog 7 #[.int .i64 n', .int .i64 o', .slice lo m lc] w λe w'=>∃ ao ac ro rc no nc C' V',e=.returned (.tuple #[.slice ao m ac, .agg #[.slice ro V'.1.length rc, .slice no V'.2.length nc], .agg #[.int .i64 0, .int .i64 0]])/\aa (λ_=>False) w w' /\
   lS ((w'.alloc (.cells #[.slice ro V'.1.length rc, .slice no V'.2.length nc] 31)).alloc (.cells #[.int .i64 0, .int .i64 0] 33)) ao m ac ro rc no nc C' V' w'.heap.size/\(¬ (3:Int) ∈ C->¬ (3:Int) ∈ C'->C'=C/\V'=V):=by
 refine (mQ n' o' S lo lc m w _ _ h0 hm hl hf' rfl rfl).mono ?_;rintro e w' ⟨ao,ac,ro,rc,no,nc,h1,h2,h3⟩;refine ⟨ao,ac,ro,rc,no,nc,_,_,h1,h2,h3,λa b=>?_⟩;rw [<-hC] at a;rw [<-hC,<-hV];exact vp hS hf hf' a b
end
end Go.Proofs.YtjifdalflepcoadGreat
