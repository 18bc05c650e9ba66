/-
  Parts of the proof, merged: what the functions do, and plain laws.
-/
import Derived.Test.YtjifdalflepcoacGreatTWRP18
set_option maxHeartbeats 16000000
set_option maxRecDepth 100000
set_option linter.unusedVariables false
set_option linter.unusedSimpArgs false
namespace Go.Proofs.YtjifdalflepcoacGreat
section
open Go.RowKit
noncomputable def B7:Wd:=((Wd.new 16 8).do ⟨4,0,0,0,0,0⟩).2
theorem Db:((Wd.new 16 8).do ⟨4,0,0,0,0,0⟩).1=0:=by decide +kernel
theorem jP.Dc {w:World} {lo:Nat} {v:Value} {W:Wd} (H:jP w lo v W.view) (h:W.ok):kE w v W.view:=by
 obtain ⟨h1,h2,h3⟩:=(Wd.seen h).lens h;exact H.r (by omega) (by omega) (fun n hn=>Nat.le_trans (h3 n hn) (by decide))
section
variable {w w':World}
structure kl (w0 w:World) (p:Nat) (h:dj) (W:Wd):Prop where
 B:aQ w h W
 e:h.p=p
 K:aa (fun _=>False) w0 w
 own:∀ k,h.Own k→w0.heap.size≤k
theorem kl.same {w0:World} {p:Nat} {h:dj} {W:Wd} (M:kl w0 w p h W) (k:aa (fun _=>False) w w'):kl w0 w' p h W:=⟨M.B.same k,M.e,M.K.trans k,M.own⟩
theorem kl.pl {w0:World} {p:Nat} {h:dj} {W:Wd} (M:kl w0 w p h W):p<w.heap.size:=by
 have:=M.B.hp.lt;rw [M.e] at this;exact this
theorem kl.y9 {w0:World} {p:Nat} {h:dj} {W:Wd} (M:kl w0 w p h W) (hT:W.T.length≤90000) (x:St) :
  Calls Tryz.prog 106 #[.pointer (some ⟨p,0,none⟩), .agg #[.int .i64 x.k, .int .i64 x.r, .int .i64 x.a, .int .i64 x.b, .int .i64 x.i, .int .i64 x.n]] w (dW w h (W.do x)):=by
 have:=BZ x.k x.r x.a x.b x.i x.n M.B hT;rw [M.e] at this;exact this
theorem kl.B8 {w0:World} {p:Nat} {h:dj} {W:Wd} (M:kl w0 w p h W) :
  Calls Tryz.prog 155 #[.pointer (some ⟨p,0,none⟩)] w fun e w'=>e=.returned (.tuple #[.int .i64 W.az, .int .i64 W.cm])∧aa (fun _=>False) w w':=by
 have:=AG M.B;rw [M.e] at this;exact this
theorem kl.Ca {w0:World} {p:Nat} {h:dj} {W:Wd} (M:kl w0 w p h W) (hT:W.T.length≤90000) :
  Calls Tryz.prog 156 #[.pointer (some ⟨p,0,none⟩)] w fun e w'=>rr w W.view e w':=by
 have:=AL w M.B (by omega);rw [M.e] at this;exact this
section
variable {w0:World} {p q:Nat} {h:dj} {b:RW} {W V W' V':Wd}
end
end
end
section
open Go.RowKit
section
variable {w0 w w':World} {p ob gb:Nat} {r:Bool × Wd}
theorem kl.box {b:Nat} {c:List Value} {T:TypeId} {h:dj} {W:Wd} (M:kl w0 w p h W) (B:aj w b c T) (h1:T≠191) (h2:T≠200) (h3:T≠96) (h4:T≠101):¬ h.Own b:=fun hb=>by
 obtain ⟨_,c',T',hc,hT⟩:=M.B.bB hb;rcases hT with rfl | rfl | rfl | rfl
 ·exact B.ne hc h1 rfl
 ·exact B.ne hc h2 rfl
 ·exact B.ne hc h3 rfl
 ·exact B.ne hc h4 rfl
end
end
section
open Go.RowKit
structure jh (w0 w:World) (t p q:Nat) (n:Int) (h:HH) (g:dj) (O:Wo) (W:Wd):Prop where
 T:aj w t [.pointer (some ⟨p,0,none⟩), .pointer (some ⟨q,0,none⟩), .int .i64 0, .int .i64 0, .int .i64 n] 81
 A:HM w0 w p h O
 B:kl w0 w q g W
 ap:∀ k,¬ (h.Own k∧g.Own k)
 lo:w0.heap.size≤t
section
variable {w0 w w':World} {t p q:Nat} {n:Int} {h:HH} {g:dj} {O O':Wo} {W W':Wd} {φ:Int→Int}
theorem HM.zE (M:HM w0 w p h O) {b:Nat} {c:List Value} (B:aj w b c 81):¬ h.Own b:=by
 rintro (rfl | h1)
 ·exact M.B.hp.ne B (by decide) rfl
 ·obtain ⟨c',T,hc,hT⟩:=M.B.H.bB h1;rcases hT with rfl | rfl | rfl | rfl | rfl | rfl | rfl <;> exact hc.ne B (by decide) rfl
theorem jh.same (M:jh w0 w t p q n h g O W) (k:aa (fun _=>False) w w'):jh w0 w' t p q n h g O W:=⟨k.aq M.T (fun h=>h),M.A.same k,M.B.same k,M.ap,M.lo⟩
theorem jh.heap (M:jh w0 w t p q n h g O W) (u:aU w h w' O'):∃ h',jh w0 w' t p q n h' g O' W:=by
 have hA:=M.A.zE M.T;obtain ⟨h1,M1⟩:=M.A.to u;obtain ⟨h',H',e',k',o'⟩:=u;refine ⟨h',k'.aq M.T hA,⟨H',e'.trans M.A.e,M.A.K.then k' (fun b hb=>.inr (M.A.own b hb)),fun b hb=>?_⟩,⟨M.B.B.ab k' (fun j hj e=>M.ap j ⟨e,hj⟩),M.B.e,M1.K,M.B.own⟩,fun j hj=>?_,M.lo⟩
 ·rcases o' b hb with h2 | h2
  ·exact M.A.own b h2
  ·have:=M.A.K.size;omega
 ·rcases o' j hj.1 with h2 | h2
  ·exact M.ap j ⟨h2,hj.2⟩
  ·have:=M.B.B.a5 hj.2;omega
theorem jh.lR (M:jh w0 w t p q n h g O W) (u:aS w g w' W'):∃ g',jh w0 w' t p q n h g' O W':=by
 have hB:=M.B.box M.T (by decide) (by decide) (by decide) (by decide);obtain ⟨g',H',e',k',o'⟩:=u;refine ⟨g',k'.aq M.T hB,⟨M.A.B.ab k' (fun j hj e=>M.ap j ⟨hj,e⟩),M.A.e,M.A.K.then k' (fun b hb=>.inr (M.B.own b hb)),M.A.own⟩,⟨H',e'.trans M.B.e,M.B.K.then k' (fun b hb=>.inr (M.B.own b hb)),fun b hb=>?_⟩,fun j hj=>?_,M.lo⟩
 ·rcases o' b hb with h2 | h2
  ·exact M.B.own b h2
  ·have:=M.B.K.size;omega
 ·rcases o' j hj.2 with h2 | h2
  ·exact M.ap j ⟨hj.1,h2⟩
  ·have:=M.A.B.a5 hj.1;omega
theorem jh.num (M:jh w0 w t p q n h g O W) (m:Int):jh w0 (w.setCell ⟨t,4,none⟩ (.int .i64 m)) t p q m h g O W:=by
 have k:=(aa.refl (·=t) w).setCell (p:=⟨t,4,none⟩) (.inl rfl) (.int .i64 m);have hA:=M.A.zE M.T;have hB:=M.B.box M.T (by decide) (by decide) (by decide) (by decide);have hn:∀ j,j=t→w0.heap.size≤j:=fun j hj=>by rw [hj];exact M.lo
 exact ⟨M.T.aG 4 (.int .i64 m),⟨M.A.B.ab k (fun j hj e=>hA (e ▸ hj)),M.A.e,M.A.K.then k (fun j hj=>.inr (hn j hj)),M.A.own⟩,⟨M.B.B.ab k (fun j hj e=>hB (e ▸ hj)),M.B.e,M.B.K.then k (fun j hj=>.inr (hn j hj)),M.B.own⟩,M.ap,M.lo⟩
theorem jh.cells (M:jh w0 w t p q n h g O W):w.cell? ⟨t,0,none⟩=some (.pointer (some ⟨p,0,none⟩))∧w.cell? ⟨t,1,none⟩=some (.pointer (some ⟨q,0,none⟩))∧w.cell? ⟨t,2,none⟩=some (.int .i64 0)∧w.cell? ⟨t,3,none⟩=some (.int .i64 0)∧w.cell? ⟨t,4,none⟩=some (.int .i64 n)∧t<w.heap.size:=
 ⟨M.T.cell 0,M.T.cell 1,M.T.cell 2,M.T.cell 3,M.T.cell 4,M.T.lt⟩
theorem zj (M:jh w0 w t p q n h g O W) (R:aH O W φ) (hT:W.T.length≤90000) :
  Calls Tryz.prog 107 #[.pointer (some ⟨t,0,none⟩)] w fun e w'=>e=.returned (.bool true)∧aa (fun _=>False) w w':=by
 have HM':=Hz M;have HR:=Hz R;have HT:=Hz hT;have EY:=Hz R.sy.symm;have EO:=Hz R.vs.symm;obtain ⟨t0,t1,-,-,-,tl⟩:=M.cells;obtain ⟨c0,pl⟩:=M.A.pc;have q0:=M.A.B.H.dY.1;have qa:=M.A.B.H.hp.lt;clear M R hT;go_enter Tryz.func107,Tryz.ntmps107;go_wp2_with fail;refine (kT _ HM'.out.A.B.H.ha).mono ?_;rintro e w1 ⟨rfl,hk⟩;have M1:=Hz (HM'.out.same hk);have K1:=Hz hk;clear hk t0 t1 tl c0 pl q0 qa HM';obtain ⟨t0,t1,-,-,-,tl⟩:=M1.out.cells;have ql:=M1.out.B.pl;go_wp2_with fail;refine M1.out.B.B8.mono ?_;rintro e w2 ⟨rfl,hk⟩;have M2:=Hz (M1.out.same hk);have K2:=Hz (K1.out.trans hk);clear hk t0 t1 tl ql M1 K1;rw [EY.out,EO.out];obtain ⟨t0,t1,-,-,-,tl⟩:=M2.out.cells;obtain ⟨c0,pl⟩:=M2.out.A.pc;have ql:=M2.out.B.pl;generalize ((O.ar.yng:Nat):Int)=ya at *;generalize ((O.ar.grn-O.ar.nur:Nat):Int)=ga at *;have e1:(ya == ya)=true:=by simp
 have e2:(ga == ga)=true:=by simp
 go_wp2_with fail;refine a8 (.free 0 (.free 1 (.free 2 (.free 3 (.free 4 (.free 5 (.free 6 (.free 7 (.free 8 (.free 9 (.free 10 (.free 11 (.free 17 (.free 18 (.free 19 (.pure 12 (.free 13 (.free 14 (.pure 15 (.pure 20 (.run 16 (.run 21 (.swi [22,23,24] (.run 22 (.swi [] (.free 23 (.free 24 (.fin)))))))))))))))))))))))))))) [21,22,23,24] (Fz t0 (Fz c0 (Fa t1))) ?_
 iterate 20 refine Wz ?_
 refine aM rfl rfl (fun K hK=>?_);unfold aw;go_simp;have kd:=(Kz w2).drew;refine (ma _ (M2.out.same kd).A.B.H).mono ?_;rintro e w3 ⟨v3,rfl,hv3,hk3⟩;have M3:=Hz ((M2.out.same kd).same hk3);have K3:=Hz ((K2.out.trans kd).trans hk3);have V3:=Hz hv3;refine hK _ _ (fun _=>⟨M3.out.cells.1,M3.out.A.pc.1,M3.out.cells.2.1⟩) ?_;clear hK K kd hv3 hk3 t0 t1 tl c0 pl ql M2 K2;refine aA rfl rfl rfl (fun K hK=>?_);unfold aw;go_simp;refine (M3.out.B.Ca HT.out).mono ?_;rintro e w4 ⟨v4,rfl,hv4,hk4⟩;have M4:=Hz (M3.out.same hk4);have K4:=Hz (K3.out.trans hk4);have V4:=Hz (V3.out.ab hk4 (fun _ _ _ h=>h));have U4:=Hz hv4;refine hK _ _ ?_;clear hK K hv4 hk4 M3 K3 V3;refine aB (fun _=>True) trivial ?_;refine aA rfl rfl rfl (fun K hK=>?_);unfold aw;go_simp;refine (ru _ _ O.view W.view _ (V4.out.rep HR.out) (U4.out.Dc M4.out.B.B.ok)).mono ?_;rintro e w5 ⟨rfl,hk5⟩;have K5:=Hz (K4.out.trans hk5);rw [decide_eq_true HR.out.view];refine hK _ _ ?_;clear hK K hk5 M4 K4 V4 U4;refine aB (fun _=>True) trivial ?_
 iterate 2 refine Wz ?_
 refine av ?_;go_wp2_with fail;go_ret;exact ⟨rfl,K5.out⟩
end
end
section
open Go.RowKit
def mz (w0 w:World) (t p q:Nat) (n:Int) (W:Wd):Prop:=∃ h g O φ,jh w0 w t p q n h g O W∧aH O W φ
def oH (w0:World) (t p q:Nat) (n:Int) (W:Wd) (x:St) (e:Ending) (w':World):Prop:=
 e=.returned (.tuple #[.int .i64 (W.do x).1, .agg #[.int .i64 0, .int .i64 0]])∧mz w0 w' t p q (n+1) (W.do x).2
section
variable {w0 w w':World} {t p q:Nat} {n:Int} {h:HH} {g:dj} {O O':Wo} {W W':Wd} {φ:Int→Int}
theorem jh.box {b:Nat} {c:List Value} (M:jh w0 w t p q n h g O W) (k:aa (·=b) w w') (hb:aj w b c 28) (hl:w0.heap.size≤b):jh w0 w' t p q n h g O W:=by
 have hA:¬ h.Own b:=by
  rintro (rfl | h1)
  ·exact M.A.B.hp.ne hb (by decide) rfl
  ·obtain ⟨c',T,hc,hT⟩:=M.A.B.H.bB h1;rcases hT with rfl | rfl | rfl | rfl | rfl | rfl | rfl <;> exact hc.ne hb (by decide) rfl
 have hB:=M.B.box hb (by decide) (by decide) (by decide) (by decide);have hn:∀ j,j=b→w0.heap.size≤j:=fun j hj=>by rw [hj];exact hl
 exact ⟨k.aq M.T (M.T.ne hb (by decide)),⟨M.A.B.ab k (fun j hj e=>hA (e ▸ hj)),M.A.e,M.A.K.then k (fun j hj=>.inr (hn j hj)),M.A.own⟩,⟨M.B.B.ab k (fun j hj e=>hB (e ▸ hj)),M.B.e,M.B.K.then k (fun j hj=>.inr (hn j hj)),M.B.own⟩,M.ap,M.lo⟩
theorem mz.same (M:mz w0 w t p q n W) (k:aa (fun _=>False) w w'):mz w0 w' t p q n W:=by
 obtain ⟨h,g,O,φ,M,R⟩:=M;exact ⟨h,g,O,φ,M.same k,R⟩
theorem mz.K (M:mz w0 w t p q n W):aa (fun _=>False) w0 w:=by
 obtain ⟨h,g,O,φ,M,R⟩:=M;exact M.A.K
theorem mz.tl (M:mz w0 w t p q n W):t<w.heap.size:=by
 obtain ⟨h,g,O,φ,M,R⟩:=M;exact M.T.lt
theorem wI (M:mz w0 w t p q n W) (hT:W.T.length≤80000) (hn:0≤n∧n≤1000000) (x:St) :
  Calls Tryz.prog 38 #[.pointer (some ⟨t,0,none⟩), .agg #[.int .i64 x.k, .int .i64 x.r, .int .i64 x.a, .int .i64 x.b, .int .i64 x.i, .int .i64 x.n]] w (oH w0 t p q n W x):=by
 obtain ⟨h,g,O,φ,M,R⟩:=M;obtain ⟨d,r,a,b,i,z⟩:=x;dsimp only;have hdo:=fun w' (M':HM w0 w' p h O)=>M'.y9 R ⟨d,r,a,b,i,z⟩;have hgd:=fun w' g' (M':kl w0 w' q g' W)=>M'.y9 (by omega) ⟨d,r,a,b,i,z⟩;obtain ⟨hcc,ψ,hR2⟩:=R.do ⟨d,r,a,b,i,z⟩
 have hln:=Wd.tZ W ⟨d,r,a,b,i,z⟩;unfold bO at hdo;unfold dW at hgd;obtain ⟨⟨c,P⟩,hP⟩:∃ t,O.do ⟨d,r,a,b,i,z⟩=t:=⟨_,rfl⟩
 obtain ⟨⟨c',V⟩,hV⟩:∃ t,W.do ⟨d,r,a,b,i,z⟩=t:=⟨_,rfl⟩
 rw [hP,hV] at hcc;simp only [hP] at hdo;rw [hP,hV] at hR2;simp only [hV] at hgd;rw [hV] at hln;dsimp only at hcc hdo hR2 hln;subst hcc;have HDO:=Hz hdo;have HGD:=Hz hgd;have R2:=Hz hR2;have HVV:=Hz hV;have HT2:=Hz (show V.T.length≤90000 by omega);clear hdo hgd hR2 hln hP hV R;have ka:=((Kz w).alloc (.cells #[.int .i64 d, .int .i64 r, .int .i64 a, .int .i64 b, .int .i64 i, .int .i64 z] 69)).alloc (.cells #[.int .i64 0, .int .i64 0] 28);have HX:=Hz (show aj ((w.alloc (.cells #[.int .i64 d, .int .i64 r, .int .i64 a, .int .i64 b, .int .i64 i, .int .i64 z] 69)).alloc (.cells #[.int .i64 0, .int .i64 0] 28)) w.heap.size [.int .i64 d, .int .i64 r, .int .i64 a, .int .i64 b, .int .i64 i, .int .i64 z] 69 from (aj.newAt _ rfl rfl).alloc _);have HF:=Hz (show aj ((w.alloc (.cells #[.int .i64 d, .int .i64 r, .int .i64 a, .int .i64 b, .int .i64 i, .int .i64 z] 69)).alloc (.cells #[.int .i64 0, .int .i64 0] 28)) (w.heap.size+1) [.int .i64 0, .int .i64 0] 28 from aj.newAt _ (by simp) rfl);have M1:=Hz (M.same ka);have HLO:=Hz (show w0.heap.size≤w.heap.size from M.A.K.size);have HN1:=Hz (show (∀ k,h.Own k→k<w.heap.size)∧∀ k,g.Own k→k<w.heap.size from ⟨fun k hk=>M.A.B.a5 hk,fun k hk=>M.B.B.a5 hk⟩);clear M ka;go_enter Tryz.func38,Tryz.ntmps38;go_upto_region 1 with fail
 generalize (w.alloc (.cells #[.int .i64 d, .int .i64 r, .int .i64 a, .int .i64 b, .int .i64 i, .int .i64 z] 69)).alloc (.cells #[.int .i64 0, .int .i64 0] 28)=w1 at *;generalize w.heap.size=sb at *;obtain ⟨t0,-,-,-,-,tl⟩:=M1.out.cells;have d0:=HX.out.cell 0;have d1:=HX.out.cell 1;have d2:=HX.out.cell 2;have d3:=HX.out.cell 3;have d4:=HX.out.cell 4;have d5:=HX.out.cell 5;have dl:=HX.out.lt;simp only [Lz,aC] at d0 d1 d2 d3 d4 d5;have hpl:=M1.out.A.pc.2;refine a8 (.free 0 (.free 1 (.free 2 (.pure 3 (.pure 4 (.run 5 (.swi [] (.free 6 (.fin))))))))) [5,6] (Fz t0 (Fz d0 (Fz d1 (Fz d2 (Fz d3 (Fz d4 (Fa d5))))))) ?_
 iterate 5 ((first | refine ku rfl rfl fun K hK=>?_ | refine ks rfl rfl fun K hK=>?_ | refine jV rfl rfl _ (fun w' hG=>by obtain ⟨t0,d0,d1,d2,d3,d4,d5⟩:=hG;exact nL (cs:=[_,_,_,_,_,_]) rfl (by decide +kernel) rfl (ae (by assumption) (ae (by assumption) (ae (by assumption) (ae (by assumption) (ae (by assumption) (ae (by assumption) a7))))))) (fun K hK=>?_) | refine lE rfl rfl fun K hK=>?_ | refine kv rfl rfl fun K hK=>?_ | refine lD rfl rfl fun K hK=>?_);go_simp;refine hK _ ?_;clear hK K)
 refine aA rfl rfl rfl (fun K hK=>?_);unfold aw;go_simp;have kd:=(Kz w1).drew;refine (HDO.out _ (M1.out.same kd).A).mono ?_;rintro e w2 ⟨rfl,ht⟩;have kh:aa h.Own w1.drew w2:=by obtain ⟨_,_,_,k,_⟩:=ht;exact k
 obtain ⟨h2,M2'⟩:=(M1.out.same kd).heap ht;have M2:=Hz M2';have HX2:=Hz (kh.aq HX.out.drew (fun e=>by have:=HN1.out.1 _ e;omega));have HF2:=Hz (kh.aq HF.out.drew (fun e=>by have:=HN1.out.1 _ e;omega));refine hK _ _ ?_;clear hK K ht kh M2' kd t0 tl d0 d1 d2 d3 d4 d5 dl hpl M1 HX HF HDO;refine aB (fun _=>True) trivial ?_;refine Wz ?_;refine av ?_;obtain ⟨-,t1,-,-,-,tl⟩:=M2.out.cells;have d0:=HX2.out.cell 0;have d1:=HX2.out.cell 1;have d2:=HX2.out.cell 2;have d3:=HX2.out.cell 3;have d4:=HX2.out.cell 4;have d5:=HX2.out.cell 5;have dl:=HX2.out.lt;simp only [Lz,aC] at d0 d1 d2 d3 d4 d5;go_wp2_with fail;refine a8 (.free 0 (.free 1 (.free 2 (.pure 3 (.pure 4 (.run 5 (.swi [] (.free 6 (.fin))))))))) [5,6] (Fz t1 (Fz d0 (Fz d1 (Fz d2 (Fz d3 (Fz d4 (Fa d5))))))) ?_
 iterate 5 ((first | refine ku rfl rfl fun K hK=>?_ | refine ks rfl rfl fun K hK=>?_ | refine jV rfl rfl _ (fun w' hG=>by obtain ⟨t1,d0,d1,d2,d3,d4,d5⟩:=hG;exact nL (cs:=[_,_,_,_,_,_]) rfl (by decide +kernel) rfl (ae (by assumption) (ae (by assumption) (ae (by assumption) (ae (by assumption) (ae (by assumption) (ae (by assumption) a7))))))) (fun K hK=>?_) | refine lE rfl rfl fun K hK=>?_ | refine kv rfl rfl fun K hK=>?_ | refine lD rfl rfl fun K hK=>?_);go_simp;refine hK _ ?_;clear hK K)
 refine aA rfl rfl rfl (fun K hK=>?_);unfold aw;go_simp;have kd:=(Kz w2).drew;refine (HGD.out _ _ (M2.out.same kd).B).mono ?_;rintro e w3 ⟨rfl,ht⟩;have kg:aa g.Own w2.drew w3:=by obtain ⟨_,_,_,k,_⟩:=ht;exact k
 obtain ⟨g3,M3'⟩:=(M2.out.same kd).lR ht;have M3:=Hz M3';have HF3:=Hz (kg.aq HF2.out.drew (fun e=>by have:=HN1.out.2 _ e;omega));refine hK _ _ ?_;clear hK K ht kg M3' kd t1 tl d0 d1 d2 d3 d4 d5 dl M2 HX2 HF2 HGD;refine aB (fun _=>True) trivial ?_;refine Wz ?_;refine av ?_;obtain ⟨-,-,t2,-,-,tl⟩:=M3.out.cells;have hcc:(c != c)=false:=by simp
 go_wp2_with fail;refine (zj M3.out R2.out HT2.out).mono ?_;rintro e w4 ⟨rfl,hk4⟩;have M4:=Hz (M3.out.same hk4);have HF4:=Hz (hk4.aq HF3.out (fun h=>h));clear hk4 t2 tl M3 HF3 hcc;obtain ⟨-,-,t2,t3,t4,tl⟩:=M4.out.cells;have tf:=M4.out.T.free 4;have hwn:IntKind.i64.wrap (n+1)=n+1:=IntWalk.i64_in _ (by omega);have tne:=M4.out.T.ne HF4.out (by decide);go_upto_region 6 with (fail);have M5:=Hz (M4.out.num (n+1));have HF5:=Hz (HF4.out.dO (a:=⟨t,4,none⟩) (Ne.symm tne) (.int .i64 (n+1)));clear M4 HF4 t2 t3 t4 tl tf tne;generalize w4.setCell ⟨t,4,none⟩ (.int .i64 (n+1))=w5 at *;obtain ⟨-,-,t2,t3,-,tl⟩:=M5.out.cells;have f0:=HF5.out.cell 0;have f1:=HF5.out.cell 1;have fl:=HF5.out.lt;have ff:=HF5.out.free 0;have ff1:=HF5.out.free 1;simp only [Lz,aC] at f0 f1;refine a8 (.free 0 (.free 1 (.free 2 (.free 3 (.free 5 (.pure 4 (.run 6 (.swi [] (.fin))))))))) [6] (Fz t2 (Fa t3)) ?_
 iterate 6 refine Wz ?_
 refine aA rfl rfl rfl (fun K hK=>?_);unfold aw;go_simp;refine hK _ _ ?_;clear hK K;refine aB (fun _=>True) trivial (av ?_);go_wp2_with fail;have hbN:=(HF5.out.aG 0 (.int .i64 0)).aG 1 (.int .i64 0);have x0':=hbN.cell 0;have x1':=hbN.cell 1;simp only [List.set_cons_zero,List.set_cons_succ,Lz,aC] at x0' x1';refine bodyPost_ret (v:=.tuple #[.int .i64 c, .agg #[.int .i64 0, .int .i64 0]]) (by simp [results,Tryz.results38,go_sem,f0,f1,x0',x1']) rfl ?_;have ke:=(((aa.refl (·=sb+1) w5).setCell (p:=⟨sb+1,0,none⟩) (.inl rfl) (.int .i64 0)).setCell (p:=⟨sb+1,1,none⟩) (.inl rfl) (.int .i64 0)).drew;unfold oH;rw [HVV.out];exact ⟨rfl,_,_,_,_,M5.out.box ke HF5.out (by have:=HLO.out;omega),R2.out⟩
end
end
section
open Go.RowKit
def AQ (w:World) (n o:Int) (e:Ending) (w':World):Prop:=
 ∃ t p q,e=.returned (.tuple #[.pointer (some ⟨t,0,none⟩), .agg #[.int .i64 0, .int .i64 0]])∧mz w w' t p q 0 (Wd.new n o)
theorem pZ (n o:Int) (w:World) (hf:Ar.fits n o=true):Calls Tryz.prog 37 #[.int .i64 n, .int .i64 o] w (AQ w n o):=by
 have HFIT:=Hz hf;go_enter Tryz.func37,Tryz.ntmps37;go_wp2_with fail;refine (tH n o _ hf).mono ?_;rintro e w1 ⟨h,rfl,H1,k1,o1⟩;have ka0:=(Kz w).alloc (.cells #[.int .i64 0, .int .i64 0] 28);have ax:aj w1 w.heap.size [.int .i64 0, .int .i64 0] 28:=k1.aq (aj.newAt _ rfl rfl) (fun h=>h);have kb:=(Kz w1).alloc (.cells #[.int .i64 0, .int .i64 0] 28);have FB:=Hz (aj.new w1 [.int .i64 0, .int .i64 0] 28);have A2:=Hz (show HM w (w1.alloc (.cells #[.int .i64 0, .int .i64 0] 28)) h.p h (Wo.new n o) from ⟨H1.same kb,rfl,(ka0.trans k1).trans kb,fun k hk=>by have:=o1 k hk;simp at this;omega⟩);have RB:=Hz (kb.aq ax (fun h=>h));have HRN:=Hz (show w.heap.size<w1.heap.size from ax.lt);have HON:=Hz (show ∀ k,h.Own k→k≠w.heap.size∧k<w1.heap.size from fun k hk=>⟨by have:=o1 k hk;simp at this;omega,H1.a5 hk⟩);clear H1 k1 o1 ka0 ax kb hf;go_upto_region 2 with (fail)
 generalize w1.alloc (.cells #[.int .i64 0, .int .i64 0] 28)=w2 at *;generalize h.p=p at *;have HWS:=Hz (rfl:w.heap.size=w.heap.size);generalize hfb:w1.heap.size=fb at *;generalize hrb:w.heap.size=rb at *;have HRB:=Hz hrb;clear hfb hrb;have d0:=FB.out.cell 0;have dl:=FB.out.lt;simp only [Lz] at d0;go_wp2_with fail;refine (zb n o _ HFIT.out).mono ?_;rintro e w3 ⟨g,rfl,G3,k3,o3⟩;have A3:=Hz (A2.out.same k3);have FB3:=Hz (k3.aq FB.out (fun h=>h));have RB3:=Hz (k3.aq RB.out (fun h=>h));have G3':=Hz (show kl w w3 g.p g (Wd.new n o) from ⟨G3,rfl,A3.out.K,fun k hk=>by have:=o3 k hk;have:=A2.out.K.size;omega⟩);have HAP:=Hz (show ∀ k,¬ (h.Own k∧g.Own k) from fun k hk=>by have:=o3 k hk.2;have:=A2.out.B.a5 hk.1;omega);have HGN:=Hz (show ∀ k,g.Own k→k≠fb∧k≠rb from fun k hk=>by have:=o3 k hk;have:=FB.out.lt;have:=RB.out.lt;omega);clear G3 k3 o3 d0 dl A2 FB RB;generalize g.p=q at *;have d0:=FB3.out.cell 0;have d1:=FB3.out.cell 1;have dl:=FB3.out.lt;have df:=FB3.out.free 0;have df1:=FB3.out.free 1;have r0:=RB3.out.cell 0;have r1:=RB3.out.cell 1;have rl:=RB3.out.lt;have rf:=RB3.out.free 0;have rf1:=RB3.out.free 1;simp only [Lz,aC] at d0 d1 r0 r1;have hne:fb≠rb:=by have:=HRN.out;omega
 have hne2:=Ne.symm hne;go_wp2_with fail;have k1:=((aa.refl (fun k=>k=fb∨k=rb) w3).setCell (p:=⟨fb,0,none⟩) (.inl (.inl rfl)) (.int .i64 0)).setCell (p:=⟨fb,1,none⟩) (.inl (.inl rfl)) (.int .i64 0);have k2:=(k1.setCell (p:=⟨rb,0,none⟩) (.inl (.inr rfl)) (.int .i64 0)).setCell (p:=⟨rb,1,none⟩) (.inl (.inr rfl)) (.int .i64 0);have rb4:=((((RB3.out.dO (a:=⟨fb,0,none⟩) hne2 (.int .i64 0)).dO (a:=⟨fb,1,none⟩) hne2 (.int .i64 0)).aG 0 (.int .i64 0)).aG 1 (.int .i64 0));have hz:((((w3.setCell ⟨fb,0,none⟩ (.int .i64 0)).setCell ⟨fb,1,none⟩ (.int .i64 0)).setCell ⟨rb,0,none⟩ (.int .i64 0)).setCell ⟨rb,1,none⟩ (.int .i64 0)).heap.size=w3.heap.size:=by simp
 generalize (((w3.setCell ⟨fb,0,none⟩ (.int .i64 0)).setCell ⟨fb,1,none⟩ (.int .i64 0)).setCell ⟨rb,0,none⟩ (.int .i64 0)).setCell ⟨rb,1,none⟩ (.int .i64 0)=w4 at *;have ka:=(Kz w4).alloc (.cells #[.pointer (some ⟨p,0,none⟩), .pointer (some ⟨q,0,none⟩), .int .i64 0, .int .i64 0, .int .i64 0] 81);have rb5:=rb4.alloc (.cells #[.pointer (some ⟨p,0,none⟩), .pointer (some ⟨q,0,none⟩), .int .i64 0, .int .i64 0, .int .i64 0] 81);have x0':=rb5.cell 0;have x1':=rb5.cell 1;simp only [List.set_cons_zero,List.set_cons_succ,Lz,aC] at x0' x1';refine bodyPost_ret (v:=.tuple #[.pointer (some ⟨w3.heap.size,0,none⟩), .agg #[.int .i64 0, .int .i64 0]]) (by simp [results,Tryz.results37,go_sem,x0',x1']) rfl ?_;have hlo:∀ j,j=fb∨j=rb→w.heap.size≤j:=fun j hj=>by have:=HRB.out;have:=HRN.out;omega
 have hA:∀ j,h.Own j→¬ (j=fb∨j=rb):=fun j hj e=>by have:=HON.out j hj;omega
 have hG:∀ j,g.Own j→¬ (j=fb∨j=rb):=fun j hj e=>by have:=HGN.out j hj;omega
 have K4:=A3.out.K.then k2 (fun j hj=>.inr (hlo j hj));refine ⟨w3.heap.size,p,q,rfl,h,g,_,_,⟨aj.newAt _ hz.symm rfl,⟨(A3.out.B.ab k2 hA).same ka,A3.out.e,K4.trans ka,A3.out.own⟩,⟨(G3'.out.B.ab k2 hG).same ka,G3'.out.e,K4.trans ka,G3'.out.own⟩,HAP.out,A3.out.K.size⟩,aH.new HFIT.out⟩
theorem vA (n o:Int) (w:World) (h:Ar.fits n o=false) :
  Calls Tryz.prog 37 #[.int .i64 n, .int .i64 o] w fun e w'=>e=.returned (.tuple #[.pointer none, .agg #[.int .i64 1, .int .i64 (-1)]])∧aa (fun _=>False) w w':=by
 go_enter Tryz.func37,Tryz.ntmps37;go_wp2_with fail;refine (Ab n o _ h).mono ?_;rintro e w1 ⟨rfl,hk⟩;have ka0:=(Kz w).alloc (.cells #[.int .i64 0, .int .i64 0] 28);have ax:aj w1 w.heap.size [.int .i64 0, .int .i64 0] 28:=hk.aq (aj.newAt _ rfl rfl) (fun h=>h);have HK:=Hz (ka0.trans hk);have HB:=Hz ax;clear hk ax ka0;generalize hb0:w.heap.size=b0 at HB ⊢;have HSB:=Hz (Nat.le_of_eq hb0);clear hb0;go_upto_region 2 with (fail)
 have kb:=(Kz w1).alloc (.cells #[.int .i64 1, .int .i64 (-1)] 28);have hn:=aj.new w1 [.int .i64 1, .int .i64 (-1)] 28;have d0:(w1.alloc (.cells #[.int .i64 1, .int .i64 (-1)] 28)).cell? ⟨w1.heap.size,0,none⟩=some (.int .i64 1):=hn.cell 0;have d1:(w1.alloc (.cells #[.int .i64 1, .int .i64 (-1)] 28)).cell? ⟨w1.heap.size,1,none⟩=some (.int .i64 (-1)):=hn.cell 1;have dl:w1.heap.size<(w1.alloc (.cells #[.int .i64 1, .int .i64 (-1)] 28)).heap.size:=by simp
 have HK2:=Hz (HK.out.trans kb);have HB2:=Hz (kb.aq HB.out (fun h=>h));clear kb HK HB hn;generalize w1.alloc (.cells #[.int .i64 1, .int .i64 (-1)] 28)=w2 at *;have f0:=HB2.out.free 0;have f1:=HB2.out.free 1;have c0:=HB2.out.cell 0;have c1:=HB2.out.cell 1;have cl:=HB2.out.lt;simp only [Lz,aC] at c0 c1;go_wp2_with fail;refine a8 (.free 1 (.pure 0 (.run 2 (.swi [] (.fin))))) [2] (Fz d0 (Fa d1)) ?_
 iterate 2 refine Wz ?_
 refine aA rfl rfl rfl (fun K hK=>?_);unfold aw;go_simp;refine hK _ _ ?_;clear hK K;refine aB (fun _=>True) trivial (av ?_);go_wp2_with fail;have hbN:=(HB2.out.aG 0 (.int .i64 1)).aG 1 (.int .i64 (-1));have x0':=hbN.cell 0;have x1':=hbN.cell 1;simp only [List.set_cons_zero,List.set_cons_succ,Lz,aC] at x0' x1';refine bodyPost_ret (v:=.tuple #[.pointer none, .agg #[.int .i64 1, .int .i64 (-1)]]) (by simp [results,Tryz.results37,go_sem,c0,c1,x0',x1']) rfl ⟨rfl,?_⟩;exact (HK2.out.drew.setCell (p:=⟨b0,0,none⟩) (.inr HSB.out) _).setCell (p:=⟨b0,1,none⟩) (.inr HSB.out) _
end
section
open Go.RowKit
theorem CU:B7.view.2.length=1:=by decide +kernel
theorem kE.CV (w:World):kE w (.agg #[.slice none 0 0, .slice none 0 0]) ([],[]):=
 ⟨none,0, .slice none 0 0,fun _=>False,rfl,Rd.nil _ _,dw.nil _ _,by simp,by simp,fun n hn=>by cases hn⟩
theorem pk (w:World):Calls Tryz.prog 36 #[] w fun e w'=>e=.returned (.bool true)∧aa (fun _=>False) w w':=by
 go_enter Tryz.func36,Tryz.ntmps36;go_wp2_with fail;refine (pZ 16 8 w (by decide)).mono ?_;rintro e w1 ⟨t,p,q,rfl,I1⟩;have hdo:=fun w' (I':mz w w' t p q 0 (Wd.new 16 8))=>wI I' (by simp [Wd.new]) (by decide) ⟨4,0,0,0,0,0⟩;unfold oH at hdo;rw [Db] at hdo;have HDO:=Hz hdo;clear hdo;have ka:=(Kz w1).alloc (.cells #[.int .i64 0, .int .i64 0] 28);have d0:(w1.alloc (.cells #[.int .i64 0, .int .i64 0] 28)).cell? ⟨w1.heap.size,0,none⟩=some (.int .i64 0):=(aj.new w1 [.int .i64 0, .int .i64 0] 28).cell 0;have dl:w1.heap.size<(w1.alloc (.cells #[.int .i64 0, .int .i64 0] 28)).heap.size:=by simp
 have I2:=Hz (I1.same ka);clear I1 ka;go_upto_region 2 with (fail)
 generalize w1.alloc (.cells #[.int .i64 0, .int .i64 0] 28)=w2 at *;generalize w1.heap.size=fb at *;go_wp2_with fail;refine (HDO.out _ I2.out).mono ?_;rintro e w3 ⟨rfl,I3⟩;have I3:=Hz (show mz w w3 t p q 1 B7 from I3);clear d0 dl HDO I2;have ka:=(Kz w3).alloc (.cells #[.int .i64 0, .int .i64 0] 28);have FB:=Hz (aj.new w3 [.int .i64 0, .int .i64 0] 28);have I4:=Hz (I3.out.same ka);clear ka I3;go_upto_region 5 with (fail)
 generalize w3.alloc (.cells #[.int .i64 0, .int .i64 0] 28)=w4 at *;generalize w3.heap.size=gb at *;obtain ⟨h,g,O,φ,M4',R4⟩:=I4.out;have M4:=Hz M4';have R:=Hz R4;have HV1:=Hz (show O.view.2.length=1 by rw [R4.view];exact CU);have HV12:=Hz (show O.view.1.length=12 by rw [R4.view];exact ((Wd.seen R4.hw).lens R4.hw).1);clear I4 M4' R4;have HCL:=Hz (fun w' (M':jh w w' t p q 1 h g O B7)=>(show w'.cell? ⟨t,0,none⟩=some (.pointer (some ⟨p,0,none⟩))∧w'.cell? ⟨p,0,none⟩=some (.pointer (some ⟨h.a.p,0,none⟩)) from ⟨M'.cells.1,M'.A.pc.1⟩));obtain ⟨t0,c0⟩:=HCL.out _ M4.out;have tl:=M4.out.T.lt;have pl:=M4.out.A.pc.2;have d0:=FB.out.cell 0;have dl:=FB.out.lt;simp only [Lz] at d0;have HB:=Hz (show ∀ w',aa (fun _=>False) w4 w'→w'.cell? ⟨gb,0,none⟩=some (.int .i64 0)∧w'.cell? ⟨t,0,none⟩=some (.pointer (some ⟨p,0,none⟩))∧w'.cell? ⟨p,0,none⟩=some (.pointer (some ⟨h.a.p,0,none⟩)) from fun w' k=>
  ⟨(k.cellAt dl (fun h=>h) _).trans d0,(k.cellAt tl (fun h=>h) _).trans t0,(k.cellAt pl (fun h=>h) _).trans c0⟩)
 have kd:=(Kz w4).drew;refine CW (.free 0 (.free 1 (.free 2 (.free 3 (.base 4 (.free 5 (.free 6 (.free 7 (.free 8 (.free 9 (.free 10 (.base 11 (.free 12 (.free 13 (.base 14 (.run 15 (.free 16 (.free 17 (.free 18 (.free 19 (.free 20 (.free 21 (.free 22 (.free 23 (.free 29 (.free 30 (.free 31 (.base 24 (.free 25 (.free 26 (.base 27 (.base 32 (.free 33 (.free 34 (.base 35 (.run 28 (.run 36 (.run 37 (.free 38 (.free 39 (.free 40 (.free 41 (.free 42 (.free 48 (.base 43 (.free 44 (.free 45 (.base 46 (.run 47 (.run 49 (.free 50 (.free 51 (.free 52 .fin))))))))))))))))))))))))))))))))))))))))))))))))))))) [] (fun w'=>w'.cell? ⟨gb,0,none⟩=some (.int .i64 0)∧w'.cell? ⟨t,0,none⟩=some (.pointer (some ⟨p,0,none⟩))∧w'.cell? ⟨p,0,none⟩=some (.pointer (some ⟨h.a.p,0,none⟩))) (fun _=>True) (HB.out _ kd) trivial ?_
 iterate 15 refine Wz ?_
 refine gV rfl rfl (fun K hK=>?_);unfold aw;go_simp;refine (ma _ (M4.out.same kd).A.B.H).mono ?_;rintro e w5 ⟨v5,rfl,hv5,hk⟩;have K5:=Hz (kd.trans hk);obtain ⟨ro,rc,no,nc,F,rfl,-,-,-⟩:=hv5;rw [HV1.out];refine hK _ _ (fun _=>HB.out _ K5.out) (fun h=>h) ?_;clear hK K kd hk t0 c0 tl pl d0 dl;have hfd:∀ wz:World,(Instr.field 41 (.agg #[.slice ro O.view.1.length rc, .slice no 1 nc]) 1).run Tryz.prog wz=.ok (.slice no 1 nc) wz:=fun _=>by kernel_rfl
 iterate 19 refine Wz ?_
 refine gV rfl rfl (fun K hK=>?_);unfold aw;go_simp;refine (ma _ (M4.out.same K5.out).A.B.H).mono ?_;rintro e w6 ⟨v6,rfl,hv6,hk⟩;have K6:=Hz (K5.out.trans hk);have V6:=Hz hv6;refine hK _ _ (fun _=>HB.out _ K6.out) (fun h=>h) ?_;clear hK K hk hv6 K5;refine gV rfl rfl (fun K hK=>?_);unfold aw;go_simp;refine (ma _ (M4.out.same K6.out).A.B.H).mono ?_;rintro e w7 ⟨v7,rfl,hv7,hk⟩;have K7:=Hz (K6.out.trans hk);have V7:=Hz (V6.out.ab hk (fun _ _ _ h=>h));have U7:=Hz hv7;refine hK _ _ (fun _=>HB.out _ K7.out) (fun h=>h) ?_;clear hK K hk hv7 K6 V6;refine gV rfl rfl (fun K hK=>?_);unfold aw;go_simp;refine (ru _ _ O.view O.view _ (V7.out.rep R.out) (U7.out.rep R.out)).mono ?_;rintro e w8 ⟨rfl,hk⟩;have K8:=Hz (K7.out.trans hk);rw [decide_eq_true rfl];refine hK _ _ (fun _=>HB.out _ K8.out) (fun h=>h) ?_;clear hK K hk K7 V7 U7
 iterate 10 refine Wz ?_
 refine gV rfl rfl (fun K hK=>?_);unfold aw;go_simp;refine (ma _ (M4.out.same K8.out).A.B.H).mono ?_;rintro e w9 ⟨v9,rfl,hv9,hk⟩;have K9:=Hz (K8.out.trans hk);have V9:=Hz hv9;refine hK _ _ (fun _=>HB.out _ K9.out) (fun h=>h) ?_;clear hK K hk hv9 K8;refine gV rfl rfl (fun K hK=>?_);unfold aw;go_simp;refine (ru _ _ O.view ([],[]) _ (V9.out.rep R.out) (kE.CV _)).mono ?_;rintro e w10 ⟨rfl,hk⟩;have K10:=Hz (M4.out.A.K.trans (K9.out.trans hk));have HB10:=Hz (HB.out _ (K9.out.trans hk));rw [decide_eq_false (fun e=>by have:=HV12.out;rw [e] at this;cases this)];refine hK _ _ (fun _=>HB10.out) (fun h=>h) ?_;clear hK K hk K9 V9
 iterate 3 refine Wz ?_
 refine av ?_;go_wp2_with fail;go_ret;exact ⟨rfl,K10.out⟩
end
section
open Go.RowKit
def rH (w wr:World) (t p q k:Nat) (n o:Int):Prop:=∃ W,mz w wr t p q k W∧W.T.length≤k∧W.most=n∧W.grow=o
section
variable {w w':World}
theorem ue (n o:Int) (lo:Option Addr) (lc m:Nat) (xs:List Int) (w:World) (h0:Rd w lo (xs.map (Value.int .i64))) (hx:xs.length=m*6) (hb:∀ x ∈ xs,a9 x) :
  Calls Tryz.prog 8 #[.int .i64 n, .int .i64 o, .slice lo m lc] w fun e w'=>e=.returned (.bool true)∧aa (fun _=>False) w w':=by
 have H0:=Hz h0;have HX:=Hz hx;have HBD:=Hz hb;clear h0 hx hb;go_enter Tryz.func8,Tryz.ntmps8;go_wp2_with fail;refine (pk _).mono ?_;rintro e w1 ⟨rfl,hk1⟩;have HK1:=Hz hk1;clear hk1;by_cases hm:300<m
 ·go_wp2_with fail;go_ret;exact ⟨rfl,HK1.out⟩
 have hm300:m≤300:=by omega
 cases hfit:Ar.fits n o
 ·go_wp2_with fail;refine (vA n o _ hfit).mono ?_;rintro e w2 ⟨rfl,hk2⟩;have HK2:=Hz (HK1.out.trans hk2);clear hk2;have HF:=Hz (show iF n o=(1,-1) by unfold iF;rw [hfit];rfl);go_wp2_with fail;refine (o9 n o _).mono ?_;rintro e w3 ⟨rfl,hk3⟩;rw [HF.out];dsimp only;have HK3:=Hz ((HK2.out.alloc (.cells #[.int .i64 1, .int .i64 (-1)] 28)).trans hk3);have ax:=hk3.aq (show aj (w2.alloc (.cells #[.int .i64 1, .int .i64 (-1)] 28)) w2.heap.size [.int .i64 1, .int .i64 (-1)] 28 from aj.newAt _ rfl rfl) (fun h=>h);have b0:=ax.cell 0;have b1:=ax.cell 1;have bl:=ax.lt;simp only [Lz,aC] at b0 b1;clear hk3 ax;go_wp2_with fail;go_ret;exact ⟨rfl,HK3.out.alloc _⟩
 have HF:=Hz (show iF n o=(0,0) by unfold iF;rw [hfit];rfl);go_wp2_with fail;refine (pZ n o _ hfit).mono ?_;rintro e w2 ⟨t,p,q,rfl,I2⟩;have HI2:=Hz I2;have K2:=Hz (HK1.out);clear I2 hfit;go_wp2_with fail;refine (o9 n o _).mono ?_;rintro e w3 ⟨rfl,hk3⟩;rw [HF.out];dsimp only;have hka:=(Kz w2).alloc (.cells #[.int .i64 0, .int .i64 0] 28);have HI3:=Hz (HI2.out.same (hka.trans hk3));have ax:=hk3.aq (show aj (w2.alloc (.cells #[.int .i64 0, .int .i64 0] 28)) w2.heap.size [.int .i64 0, .int .i64 0] 28 from aj.newAt _ rfl rfl) (fun h=>h);have b0:=ax.cell 0;have b1:=ax.cell 1;have bl:=ax.lt;simp only [Lz,aC] at b0 b1;clear hk3 hka ax HI2;have HI:=Hz (show rH w1 (w3.alloc (.cells #[.int .i64 0, .int .i64 0] 28)) t p q 0 n o from ⟨_,HI3.out.same ((Kz w3).alloc _),by simp [Wd.new],rfl,rfl⟩);clear HI3 HF;go_upto_region 9 with (fail)
 generalize w3.alloc (.cells #[.int .i64 0, .int .i64 0] 28)=w4 at *;clear b0 b1 bl;go_wp2_with fail;refine nS (fun i=>Nat.blt 12 i || Nat.beq i 10 || Nat.beq i 11 || Nat.beq i 12) (fun s wr=>∃ k:Nat,k≤m∧s 10=.int .i64 k∧rH w1 wr t p q k n o) (fun s _=>m-(intOf (s 10)).toNat) ?_ ?_
 ·exact ⟨0,Nat.zero_le _,rfl,HI.out⟩
 ·intro u0 wr hrel K hK;clear HI;obtain ⟨k,hk,e10,hI⟩:=hrel;have e10:u0 10=.int .i64 k:=e10;have HI:=Hz hI;clear hI;simp only [fN,overL,List.toList_toArray,Nat.blt,Nat.beq,Nat.ble,Nat.reduceAdd,Bool.or_false,Bool.false_or,Bool.or_true,Bool.true_or,Bool.and_true,Bool.true_and,Bool.and_false,Bool.false_and,cond_true,cond_false];rw [e10];have E10:=Hz e10;clear e10;by_cases hlt:k<m
  ·obtain ⟨W1,I1,hT1,hm1,hg1⟩:=HI.out;obtain ⟨gs,os,rfl,hgl,d0⟩:=H0.out.nth (k*6) (by rw [HX.out];omega);obtain ⟨_,_,e',-,d1⟩:=H0.out.nth (k*6+1) (by rw [HX.out];omega);cases e';obtain ⟨_,_,e',-,d2⟩:=H0.out.nth (k*6+2) (by rw [HX.out];omega);cases e';obtain ⟨_,_,e',-,d3⟩:=H0.out.nth (k*6+3) (by rw [HX.out];omega);cases e';obtain ⟨_,_,e',-,d4⟩:=H0.out.nth (k*6+4) (by rw [HX.out];omega);cases e';obtain ⟨_,_,e',-,d5⟩:=H0.out.nth (k*6+5) (by rw [HX.out];omega);cases e';rw [←Nat.add_assoc] at d1 d2 d3 d4 d5;have HZ:=Hz (show a9 (xs.getD (k*6+5) 0) from HBD.out _ (by rw [Ld,Le (by rw [HX.out];omega)];exact List.getElem_mem _));generalize xs.getD (k*6) 0=d at *;generalize xs.getD (k*6+1) 0=r at *;generalize xs.getD (k*6+2) 0=a at *;generalize xs.getD (k*6+3) 0=b at *;generalize xs.getD (k*6+4) 0=i at *;generalize xs.getD (k*6+5) 0=z at *;have hcl:∀ w',aa (fun _=>False) w w'→w'.cell? ⟨gs,os+k*6,none⟩=some (.int .i64 d)∧w'.cell? ⟨gs,os+k*6+1,none⟩=some (.int .i64 r)∧w'.cell? ⟨gs,os+k*6+2,none⟩=some (.int .i64 a)∧w'.cell? ⟨gs,os+k*6+3,none⟩=some (.int .i64 b)∧w'.cell? ⟨gs,os+k*6+4,none⟩=some (.int .i64 i)∧w'.cell? ⟨gs,os+k*6+5,none⟩=some (.int .i64 z):=fun w' kk=>by
    have hcc:∀ q,w'.cell? ⟨gs,q,none⟩=w.cell? ⟨gs,q,none⟩:=fun q=>World.cell?_of_block (w:=w) (a:=⟨gs,q,none⟩) (kk.block gs hgl (fun h=>h));exact ⟨(hcc _).trans d0,(hcc _).trans d1,(hcc _).trans d2,(hcc _).trans d3,(hcc _).trans d4,(hcc _).trans d5⟩
   have HCL:=Hz hcl;clear d0 d1 d2 d3 d4 d5 hcl;obtain ⟨d0,d1,d2,d3,d4,d5⟩:=HCL.out _ (K2.out.trans I1.K);have hgl:=Nat.lt_of_lt_of_le hgl (aa.size (K2.out.trans I1.K));have I:=Hz I1;have HT:=Hz hT1;have hdo:=wI I1 (by omega) (by omega) ⟨d,r,a,b,i,z⟩;unfold oH at hdo;have HDO:=Hz hdo;have HX:=Hz (show (W1.do ⟨d,r,a,b,i,z⟩).2.T.length≤k+1∧(W1.do ⟨d,r,a,b,i,z⟩).2.most=n∧(W1.do ⟨d,r,a,b,i,z⟩).2.grow=o from ⟨by have:=Wd.tZ W1 ⟨d,r,a,b,i,z⟩;omega,(Wd.oP W1 _).1.trans hm1,(Wd.oP W1 _).2.trans hg1⟩);have tl:=I1.tl;clear HI I1 hT1 hm1 hg1 hdo;have hki:(k:Int)<m:=by omega
   go_wp2_with fail;refine HDO.out.mono ?_;rintro e w5 ⟨rfl,I5⟩;have HIK:=Hz (show rH w1 (w5.alloc (.cells #[.int .i64 0, .int .i64 0] 28)) t p q (k+1) n o from ⟨_,I5.same ((Kz w5).alloc _),HX.out⟩);have f0:(w5.alloc (.cells #[.int .i64 0, .int .i64 0] 28)).cell? ⟨w5.heap.size,0,none⟩=some (.int .i64 0):=(aj.new w5 [.int .i64 0, .int .i64 0] 28).cell 0;have fl:w5.heap.size<(w5.alloc (.cells #[.int .i64 0, .int .i64 0] 28)).heap.size:=by simp
   clear I5 HDO I HT HX tl d0 d1 d2 d3 d4 d5 hgl;go_upto_region 13 with (fail)
   generalize w5.alloc (.cells #[.int .i64 0, .int .i64 0] 28)=w6 at *;generalize w5.heap.size=fb at *;go_wp2_with fail;refine ⟨⟨by kernel_rfl,?rel⟩,?measure⟩
   case rel=>exact ⟨k+1,hlt,by go_num,HIK.out⟩
   case measure=>exact vn (by go_num) (by first | rfl | exact E10.out) hlt
  ·obtain rfl:k=m:=by omega
   obtain ⟨W1,I1,-⟩:=HI.out;have K1:=Hz (K2.out.trans I1.K);clear HI I1;go_wp2_with fail;go_ret;exact ⟨rfl,K1.out⟩
theorem sx (n o:Int) (lo:Option Addr) (lc m:Nat) (xs:List Int) (w:World) (_:a9 n) (_:a9 o) (h0:Rd w lo (xs.map (Value.int .i64))) (hx:xs.length=m*6) (_:m≤maxLen) (hb:∀ x ∈ xs,a9 x) :
  Calls Tryz.prog 8 #[.int .i64 n, .int .i64 o, .slice lo m lc] w fun e w'=>e=.returned (.bool true)∧Below w.heap.size w w':=
 (ue n o lo lc m xs w h0 hx hb).mono fun e w' ⟨h1,h2⟩=>⟨h1,h2.below (fun _ _ h=>h)⟩
end
end
section
open Go.RowKit
section
variable {w w':World}
theorem ug (n o:Int) (lo:Option Addr) (lc m:Nat) (xs:List Int) (w:World) (h0:Rd w lo (xs.map (Value.int .i64))) (hx:xs.length=m*6) (hb:∀ x ∈ xs,a9 x) :
  Calls Tryz.prog 10 #[.int .i64 n, .int .i64 o, .slice lo m lc] w fun e w'=>e=.returned (.bool true)∧aa (fun _=>False) w w':=by
 have H0:=Hz h0;have HX:=Hz hx;have HBD:=Hz hb;clear h0 hx hb;go_enter Tryz.func10,Tryz.ntmps10;go_wp2_with fail;refine (pk _).mono ?_;rintro e w1 ⟨rfl,hk1⟩;have HK1:=Hz hk1;clear hk1;by_cases hm:200<m
 ·go_wp2_with fail;go_ret;exact ⟨rfl,HK1.out⟩
 have hm200:m≤200:=by omega
 cases hfit:Ar.fits n o
 ·go_wp2_with fail;refine (vA n o _ hfit).mono ?_;rintro e w2 ⟨rfl,hk2⟩;have HK2:=Hz (HK1.out.trans hk2);clear hk2;go_wp2_with fail;go_ret;exact ⟨rfl,HK2.out.alloc _⟩
 have hno:16≤n∧n≤256∧0≤o∧o≤1024:=by simp [Ar.fits] at hfit;omega
 go_wp2_with fail;refine (pZ n o _ hfit).mono ?_;rintro e w2 ⟨t,p,q,rfl,I2⟩;have K2:=Hz (HK1.out);have HI:=Hz (show rH w1 (w2.alloc (.cells #[.int .i64 0, .int .i64 0] 28)) t p q 0 n o from ⟨_,I2.same ((Kz w2).alloc _),by simp [Wd.new],rfl,rfl⟩);clear I2 hfit;go_upto_region 8 with (fail);generalize w2.alloc (.cells #[.int .i64 0, .int .i64 0] 28)=w4 at *;go_wp2_with fail;refine nS (fun i=>Nat.blt 25 i || Nat.blt 8 i && Nat.blt i 12) (fun s wr=>∃ k:Nat,k≤m∧s 9=.int .i64 k∧rH w1 wr t p q k n o) (fun s _=>m-(intOf (s 9)).toNat) ?_ ?_
 ·exact ⟨0,Nat.zero_le _,rfl,HI.out⟩
 ·intro u0 wr hrel K hK;clear HI;obtain ⟨k,hk,e9,hI⟩:=hrel;have e9:u0 9=.int .i64 k:=e9;have HI:=Hz hI;clear hI;simp only [fN,overL,List.toList_toArray,Nat.blt,Nat.beq,Nat.ble,Nat.reduceAdd,Bool.or_false,Bool.false_or,Bool.or_true,Bool.true_or,Bool.and_true,Bool.true_and,Bool.and_false,Bool.false_and,cond_true,cond_false];rw [e9];have E9:=Hz e9;clear e9;by_cases hlt:k<m
  ·obtain ⟨W1,I1,hT1,hm1,hg1⟩:=HI.out;obtain ⟨gs,os,rfl,hgl,d0⟩:=H0.out.nth (k*6) (by rw [HX.out];omega);obtain ⟨_,_,e',-,d1⟩:=H0.out.nth (k*6+1) (by rw [HX.out];omega);cases e';obtain ⟨_,_,e',-,d2⟩:=H0.out.nth (k*6+2) (by rw [HX.out];omega);cases e';obtain ⟨_,_,e',-,d3⟩:=H0.out.nth (k*6+3) (by rw [HX.out];omega);cases e';obtain ⟨_,_,e',-,d4⟩:=H0.out.nth (k*6+4) (by rw [HX.out];omega);cases e';obtain ⟨_,_,e',-,d5⟩:=H0.out.nth (k*6+5) (by rw [HX.out];omega);cases e';rw [←Nat.add_assoc] at d1 d2 d3 d4 d5;have HZ:=Hz (show a9 (xs.getD (k*6+5) 0) from HBD.out _ (by rw [Ld,Le (by rw [HX.out];omega)];exact List.getElem_mem _));generalize xs.getD (k*6) 0=d at *;generalize xs.getD (k*6+1) 0=r at *;generalize xs.getD (k*6+2) 0=a at *;generalize xs.getD (k*6+3) 0=b at *;generalize xs.getD (k*6+4) 0=i at *;generalize xs.getD (k*6+5) 0=z at *;have hcl:∀ w',aa (fun _=>False) w w'→w'.cell? ⟨gs,os+k*6,none⟩=some (.int .i64 d)∧w'.cell? ⟨gs,os+k*6+1,none⟩=some (.int .i64 r)∧w'.cell? ⟨gs,os+k*6+2,none⟩=some (.int .i64 a)∧w'.cell? ⟨gs,os+k*6+3,none⟩=some (.int .i64 b)∧w'.cell? ⟨gs,os+k*6+4,none⟩=some (.int .i64 i)∧w'.cell? ⟨gs,os+k*6+5,none⟩=some (.int .i64 z):=fun w' kk=>by
    have hcc:∀ q,w'.cell? ⟨gs,q,none⟩=w.cell? ⟨gs,q,none⟩:=fun q=>World.cell?_of_block (w:=w) (a:=⟨gs,q,none⟩) (kk.block gs hgl (fun h=>h));exact ⟨(hcc _).trans d0,(hcc _).trans d1,(hcc _).trans d2,(hcc _).trans d3,(hcc _).trans d4,(hcc _).trans d5⟩
   have HCL:=Hz hcl;clear d0 d1 d2 d3 d4 d5 hcl;obtain ⟨d0,d1,d2,d3,d4,d5⟩:=HCL.out _ (K2.out.trans I1.K);have hgl:=Nat.lt_of_lt_of_le hgl (aa.size (K2.out.trans I1.K));have hdo:=wI I1 (by omega) (by omega) ⟨d,r,a,b,i,z⟩;unfold oH at hdo;have HX:=Hz (show (W1.do ⟨d,r,a,b,i,z⟩).2.T.length≤k+1∧(W1.do ⟨d,r,a,b,i,z⟩).2.most=n∧(W1.do ⟨d,r,a,b,i,z⟩).2.grow=o from ⟨by have:=Wd.tZ W1 ⟨d,r,a,b,i,z⟩;omega,(Wd.oP W1 _).1.trans hm1,(Wd.oP W1 _).2.trans hg1⟩);obtain ⟨W2,hW2⟩:∃ V,(W1.do ⟨d,r,a,b,i,z⟩).2=V:=⟨_,rfl⟩;rw [hW2] at HX;simp only [hW2] at hdo;have HDO:=Hz hdo;have tl:=I1.tl;clear HI I1 hT1 hm1 hg1 hdo hW2;have hki:(k:Int)<m:=by omega
   go_wp2_with fail;refine HDO.out.mono ?_;rintro e w5 ⟨rfl,I5⟩;obtain ⟨h,g,O,φ,M,R⟩:=I5;have M5:=Hz M;have RR:=Hz R;clear HDO d0 d1 d2 d3 d4 d5 hgl tl M R;obtain ⟨ya,hya⟩:∃ y,((O.ar.yng:Nat):Int)=y:=⟨_,rfl⟩;obtain ⟨ga,hga⟩:∃ y,((O.ar.grn-O.ar.nur:Nat):Int)=y:=⟨_,rfl⟩;obtain ⟨sz,hsz⟩:∃ y,gw O.view.2=y:=⟨_,rfl⟩;have hyb:0≤ya∧ya≤n∧0≤ga∧ga≤o∧sz≤ya+ga:=by
    have e1:=RR.out.sy;have e2:=RR.out.vs;have ok:=RR.out.hw;have u1:=ok.uy;have u2:=ok.uo;have u3:=Wd.xJ ok;rw [RR.out.view] at hsz;have x1:=HX.out.2.1;have x2:=HX.out.2.2;omega
   have YA:=Hz hya;have GA:=Hz hga;have SZ:=Hz hsz;clear hya hga hsz;obtain ⟨y0,y1,g0,g1,s1⟩:=hyb;obtain ⟨t0,-,-,-,-,tl⟩:=M5.out.cells;obtain ⟨c0,pl⟩:=M5.out.A.pc;have q0:=M5.out.A.B.H.dY.1;have ql:=M5.out.A.B.H.hp.lt;go_wp2_with fail;refine (kT _ M5.out.A.B.H.ha).mono ?_;rintro e w6 ⟨rfl,hk6⟩;have M6:=Hz (M5.out.same hk6);clear hk6 t0 tl c0 pl q0 ql M5;rw [YA.out,GA.out];obtain ⟨t0,-,-,-,-,tl⟩:=M6.out.cells;obtain ⟨c0,pl⟩:=M6.out.A.pc;have n1:¬ ya<0:=by omega
   have n2:¬ ga<0:=by omega
   have n3:¬ n<ya:=by omega
   have n4:¬ o<ga:=by omega
   go_wp2_with fail;refine (ma _ M6.out.A.B.H).mono ?_;rintro e w7 ⟨v7,rfl,hv,hk7⟩;have M7:=Hz (M6.out.same hk7);have V7:=Hz hv;clear hk7 hv t0 tl c0 pl M6;go_wp2_with fail;refine (Bn _ O.view _ (V7.out.rep RR.out)).mono ?_;rintro e w8 ⟨rfl,hk8⟩;have HIK:=Hz (show rH w1 w8 t p q (k+1) n o from ⟨W2,⟨h,g,O,φ,by have:=M7.out.same hk8;push_cast;exact this,RR.out⟩,HX.out⟩);rw [SZ.out];clear hk8 M7 V7 RR YA GA SZ HX;have n5:¬ ya+ga<sz:=by omega
   go_wp2_with fail;refine ⟨⟨by kernel_rfl,?rel⟩,?measure⟩
   case rel=>exact ⟨k+1,hlt,by go_num,HIK.out⟩
   case measure=>exact vn (by go_num) (by first | rfl | exact E9.out) hlt
  ·obtain rfl:k=m:=by omega
   obtain ⟨W1,I1,-⟩:=HI.out;have K1:=Hz (K2.out.trans I1.K);clear HI I1;go_wp2_with fail;go_ret;exact ⟨rfl,K1.out⟩
theorem sA (n o:Int) (lo:Option Addr) (lc m:Nat) (xs:List Int) (w:World) (_:a9 n) (_:a9 o) (h0:Rd w lo (xs.map (Value.int .i64))) (hx:xs.length=m*6) (_:m≤maxLen) (hb:∀ x ∈ xs,a9 x) :
  Calls Tryz.prog 10 #[.int .i64 n, .int .i64 o, .slice lo m lc] w fun e w'=>e=.returned (.bool true)∧Below w.heap.size w w':=
 (ug n o lo lc m xs w h0 hx hb).mono fun e w' ⟨h1,h2⟩=>⟨h1,h2.below (fun _ _ h=>h)⟩
end
end
end Go.Proofs.YtjifdalflepcoacGreat
