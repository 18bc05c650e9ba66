/-
  Parts of the proof, merged: what the functions do, and plain laws.
-/
import Derived.Test.YtjifdalflepcoacGreatMDesP0
import Derived.Maps.Own
import Derived.Maps.OwnSet
import Derived.Deep.CutBlock
import Derived.Deep.DeepCutAuto
set_option maxHeartbeats 16000000
set_option maxRecDepth 100000
set_option linter.unusedVariables false
set_option linter.unusedSimpArgs false
namespace Go.Proofs.YtjifdalflepcoacGreat
section
open Go.RowKit
section
variable {w w':World} {h:WH} {O:Wo}
theorem Wo.set_no {x i y:Int} (hc:(O.ar.get x i).2≠0):O.set x i y=((O.ar.get x i).2,O):=if_pos hc
theorem Wo.set_yes {x i y:Int} (hc:(O.ar.get x i).2=0):O.set x i y=(0, { O with ar:=O.ar.store (x/4+1+i) y,cd:=if y%4=1∧(O.ar.store (x/4+1+i) y).young (y/4)=true∧(O.ar.store (x/4+1+i) y).old (x/4)=true then markL O.ar.nur O.cd (x/4) else O.cd }):=
 if_neg (fun h=>h hc)
theorem get_place {A:Ar} (hk:A.ok) {x i:Int} (h:(A.get x i).2=0):x%4=1∧(A.thing (x/4)).2.2=0∧0≤x/4∧x/4<A.ws.length∧0≤i∧i<(A.thing (x/4)).2.1∧(A.thing (x/4)).1≠5:=by
 unfold Ar.get at h
 split at h
 ·simp at h
 ·rename_i h1
  split at h
  ·simp at h
  ·rename_i h2
   have hc:(A.thingAt x).2.2.2=0:=Classical.not_not.1 fun e=>h1 (.inl e)
   obtain ⟨p1,p2,p3,p4,p5⟩:=thingAt_place hk hc
   rw [thingAt_yes ⟨p1,p2⟩] at h1 h2
   exact ⟨p1,p2,p3,p4,by omega,by dsimp only at h2;omega,fun e=>h1 (.inr e)⟩
theorem WSet_c (x i y:Int) (H:WoodAt w h O) (hy:R64 y) :
  Calls Tryz.prog 47 #[.pointer (some ⟨h.p,0,none⟩), .int .i64 x, .int .i64 i, .int .i64 y] w fun e w'=>
   e=.returned (.int .i64 (O.set x i y).1)∧WoodTo w h w' (O.set x i y).2:=by
 have HH:=Hz H;have HY:=Hz hy
 have pl:=H.hp.lt
 have h4:=H.ok.ha.h4
 have HN:=Hz (show 0≤(O.ar.nur:Int)∧(O.ar.nur:Int)≤1000000 by have:=H.ok.ha.h1;have:=H.ok.ha.h2;have:=H.ok.ha.h3;omega)
 by_cases hc:(O.ar.get x i).2=0
 ·have HE:=Hz (Wo.set_yes (y:=y) hc)
  obtain ⟨p1,-,p2,p3,p4,p5,-⟩:=get_place H.ok.ha hc
  have p6:=(O.ar.thing_fields (x/4)).2
  have p7:i<12:=by omega
  have P1:=Hz p1;have HC:=Hz hc
  clear H hy hc p1 p5 p6
  go_enter Tryz.func47,Tryz.ntmps47
  go_wp2_with fail
  refine (Get_c x i HH.out).mono ?_
  rintro e w1 ⟨rfl,rfl⟩
  rw [HC.out]
  go_wp2_with fail
  refine (At_yes x _ P1.out).mono ?_
  rintro e w1 ⟨rfl,rfl⟩
  obtain ⟨c0,-,-,-⟩:=HH.out.ptrs
  go_wp2_with fail
  refine (Store_c (x/4+1+i) y _ HH.out.ha HY.out).mono ?_
  rintro e w1 ⟨rfl,ht⟩
  have HT:=Hz ht.k
  have HW:=Hz (HH.out.arena ht (O.ar.store_nur _ _))
  have HTO:=Hz (HH.out.arenaTo ht (O.ar.store_nur _ _))
  clear c0 pl ht
  generalize hA:O.ar.store (x/4+1+i) y=A at *
  have HA:=Hz hA;clear hA
  obtain ⟨c0,c1,-,-⟩:=HW.out.ptrs
  have pl:=HW.out.hp.lt
  by_cases hy4:y%4=1
  ·have HY4:=Hz hy4
   cases hyo:A.young (y/4)
   ·have HF:=Hz (show ¬ (y%4=1∧A.young (y/4)=true∧A.old (x/4)=true) by rw [hyo];exact fun h=>by cases h.2.1)
    clear hy4
    go_wp2_with fail
    refine (At_yes y _ HY4.out).mono ?_
    rintro e w2 ⟨rfl,rfl⟩
    go_wp2_with fail
    refine (Young_c (y/4) _ HW.out.ha).mono ?_
    rintro e w2 ⟨rfl,rfl⟩
    rw [hyo]
    go_wp2_with fail
    go_ret
    refine ⟨by rw [HE.out];rfl,?_⟩
    rw [HE.out,if_neg HF.out]
    exact HTO.out
   ·cases hol:A.old (x/4)
    ·have HF:=Hz (show ¬ (y%4=1∧A.young (y/4)=true∧A.old (x/4)=true) by rw [hol];exact fun h=>by cases h.2.2)
     clear hy4
     go_wp2_with fail
     refine (At_yes y _ HY4.out).mono ?_
     rintro e w2 ⟨rfl,rfl⟩
     go_wp2_with fail
     refine (Young_c (y/4) _ HW.out.ha).mono ?_
     rintro e w2 ⟨rfl,rfl⟩
     rw [hyo]
     go_wp2_with fail
     refine (Old_c (x/4) _ HW.out.ha).mono ?_
     rintro e w2 ⟨rfl,rfl⟩
     rw [hol]
     go_wp2_with fail
     go_ret
     refine ⟨by rw [HE.out];rfl,?_⟩
     rw [HE.out,if_neg HF.out]
     exact HTO.out
    ·have HF:=Hz (show (y%4=1∧A.young (y/4)=true∧A.old (x/4)=true) from ⟨hy4,hyo,hol⟩)
     clear hy4
     go_wp2_with fail
     refine (At_yes y _ HY4.out).mono ?_
     rintro e w2 ⟨rfl,rfl⟩
     go_wp2_with fail
     refine (Young_c (y/4) _ HW.out.ha).mono ?_
     rintro e w2 ⟨rfl,rfl⟩
     rw [hyo]
     go_wp2_with fail
     refine (Old_c (x/4) _ HW.out.ha).mono ?_
     rintro e w2 ⟨rfl,rfl⟩
     rw [hol]
     go_wp2_with fail
     have hcc:=HW.out.hc
     have hcl:=HW.out.ok.hc
     have hnn:A.nur=O.ar.nur:=by rw [←HA.out];exact O.ar.store_nur _ _
     refine (Mark_c h.pc h.cb A.nur (x/4) O.cd _ hcc (by rw [hnn];exact HN.out.1) (by rw [hnn];exact HN.out.2) (by omega) (by omega) (by simpa using Nat.le_trans hcl (by decide))).mono ?_
     rintro e w2 ⟨rfl,hc2,hk2⟩
     have HTO2:=Hz (show WoodTo w h w2 { O with ar:=A,cd:=markL O.ar.nur O.cd (x/4) } by
      have:=HW.out.cards hc2 (by rw [markL_length];exact hcl) hk2
      refine ⟨h,?_,rfl,(HT.out.mono (fun k _ hk=>.inr (.inl hk))).then hk2 (fun k hk=>.inl (by subst hk;exact .inr (.inr (.inl (.inr rfl))))),fun k hk=>.inl hk⟩
      rw [hnn] at this
      exact this)
     clear hcc hcl hnn hc2 hk2
     go_wp2_with fail
     go_ret
     refine ⟨by rw [HE.out];rfl,?_⟩
     rw [HE.out,if_pos HF.out]
     exact HTO2.out
  ·have HY4:=Hz hy4
   have HF:=Hz (show ¬ (y%4=1∧A.young (y/4)=true∧A.old (x/4)=true) from fun h=>hy4 h.1)
   clear hy4
   go_wp2_with fail
   refine (At_no y _ HY4.out).mono ?_
   rintro e w2 ⟨rfl,rfl⟩
   go_wp2_with fail
   go_ret
   refine ⟨by rw [HE.out];rfl,?_⟩
   rw [HE.out,if_neg HF.out]
   exact HTO.out
 ·have HE:=Hz (Wo.set_no (y:=y) hc)
  have HTC:=Hz (Get_c x i H)
  obtain ⟨⟨a,c⟩,hT⟩:∃ t,O.ar.get x i=t:=⟨_,rfl⟩
  rw [hT] at hc HE HTC
  dsimp only at hc HE HTC
  have hcb:(c != 0)=true:=by simpa using hc
  clear H hc hT
  go_enter Tryz.func47,Tryz.ntmps47
  go_wp2_with fail
  refine HTC.out.mono ?_
  rintro e w1 ⟨rfl,rfl⟩
  go_wp2_with fail
  go_ret
  refine ⟨by rw [HE.out];rfl,?_⟩
  rw [HE.out]
  exact WoodTo.same HH.out (Keeps.refl _ _)
end
def WoodRet (w:World) (n o:Int) (e:Ending) (w':World):Prop:=
 ∃ h,e=.returned (.tuple #[.pointer (some ⟨h.p,0,none⟩), .agg #[.int .i64 0, .int .i64 0]])∧WoodAt w' h (Wo.new n o)∧Keeps (fun _=>False) w w'∧∀ k,h.Own k→w.heap.size≤k
theorem Wo.new_ok {n o:Int} (h:Ar.fits n o=true):(Wo.new n o).ok:=by
 have h':=h
 simp [Ar.fits] at h'
 refine ⟨Ar.new_ok h,by simp [Wo.new],fun x hx=>?_,fun e he=>by simp [Wo.new] at he,fun e he=>by simp [Wo.new] at he,by simp [Wo.new],?_⟩
 ·simp [Wo.new] at hx;subst hx;unfold R64;omega
 ·simp [Wo.new,cardsN];omega
structure NewIn (w:World) (h:WH) (n o:Int) (wr:World) (k:Nat) (v:Value):Prop where
 hp:Blk wr h.p [.pointer (some ⟨h.pa,0,none⟩), .pointer (some ⟨h.pc,0,none⟩), .pointer (some ⟨h.ps,0,none⟩),v] 52
 ha:ArenaAt wr h.pa h.g (Ar.new n o)
 hc:CardsAt wr h.pc h.cb n (List.replicate (cardsN o) false)
 hs:SideAt wr h.ps (.slice none 0 0) (.slice none 0 0) [] []
 hr:Sl wr 2 1 v k (List.replicate k (.int .i64 2))
 hk:Keeps (fun _=>False) w wr
 o1:w.heap.size≤h.p
 o2:w.heap.size≤h.pa
 o3:w.heap.size≤h.g
 o4:w.heap.size≤h.pc
 o5:w.heap.size≤h.cb
 o6:w.heap.size≤h.ps
 o7:∀ b,ownB v b→w.heap.size≤b
 ap:¬ ownB v h.g
 hz:Blk wr w.heap.size [.int .i64 0, .int .i64 0] 28
theorem NewIn.app {w wr wa w2:World} {h:WH} {n o:Int} {k:Nat} {v v2:Value} (H:NewIn w h n o wr k v) (ka:Keeps (fun _=>False) wr wa) (hs2:Sl w2 2 1 v2 (k+1) (List.replicate k (.int .i64 2) ++ [.int .i64 2])) (hk2:Keeps (ownB v) wa w2) (ho2:∀ b,ownB v2 b→ownB v b∨wa.heap.size≤b) :
  NewIn w h n o (w2.setCell ⟨h.p,3,none⟩ v2) (k+1) v2:=by
 have own:=fun b (hb:ownB v b)=>(H.hr.keep ka (fun _ _ h=>h)).own hb
 have ne1:∀ {b:Nat} {c:List Value} {T:TypeId},Blk wr b c T→T≠2→¬ ownB v b:=fun hb hT hv=>by
  obtain ⟨_,c',hc⟩:=own _ hv
  exact (ka.blk hb (fun h=>h)).ne hc hT rfl
 have lt1:∀ {b:Nat} {c:List Value} {T:TypeId},Blk wr b c T→b<wa.heap.size:=fun hb=>(ka.blk hb (fun h=>h)).lt
 have k2:=(ka.mono (T:=ownB v) (fun _ _ h=>h.elim)).trans hk2
 have hsz:=H.hk.size
 have hpl:=H.hp.lt
 have kc:=fun {S:Nat→Prop} (k:Keeps S wr w2)=>k
 have hp2:=k2.blk H.hp (ne1 H.hp (by decide))
 have set:=(Keeps.refl (·=h.p) w2).setCell (p:=⟨h.p,3,none⟩) (.inl rfl) v2
 have nep:∀ {b:Nat} {c:List Value} {T:TypeId},Blk w2 b c T→T≠52→¬ b=h.p:=fun hb hT=>hb.ne hp2 hT
 have ha2:=H.ha.keep k2 (ne1 H.ha.hp (by decide)) H.ap
 have hc2:=H.hc.keep k2 (ne1 H.hc.hp (by decide)) (ne1 H.hc.hq (by decide))
 have fsd:∀ b,SideFp h.ps (.slice none 0 0) (.slice none 0 0) b→b=h.ps:=fun b hb=>by
  rcases hb with h | h | h
  ·exact h
  ·exact (nil_own h).elim
  ·exact (nil_own h).elim
 have hs3:=H.hs.keep k2 (fun b hb=>by rw [fsd b hb];exact ne1 H.hs.hp (by decide))
 refine ⟨by simpa using hp2.setSame 3 v2,ha2.keep set (nep ha2.hp (by decide)) (nep ha2.hg (by decide)),hc2.keep set (nep hc2.hp (by decide)) (nep hc2.hq (by decide)),hs3.keep set (fun b hb=>by rw [fsd b hb];exact nep hs3.hp (by decide)),?_,?_,H.o1,H.o2,H.o3,H.o4,H.o5,H.o6,?_,?_,?_⟩
 ·rw [←List.replicate_succ'] at hs2
  exact hs2.keep set (fun b hb e=>by
   obtain ⟨_,c',hc⟩:=hs2.own hb
   exact nep hc (by decide) e)
 ·exact (H.hk.then k2 (fun b hb=>.inr (H.o7 b hb))).setCell (.inr H.o1) _
 ·intro b hb
  rcases ho2 b hb with h1 | h1
  ·exact H.o7 b h1
  ·have:=ka.size;omega
 ·intro hb
  rcases ho2 _ hb with h1 | h1
  ·exact H.ap h1
  ·have:=lt1 H.ha.hg;omega
 ·have hz2:=k2.blk H.hz (ne1 H.hz (by decide))
  exact set.blk hz2 (nep hz2 (by decide))
theorem NewIn.done {w wr:World} {h:WH} {n o:Int} {v:Value} (H:NewIn w h n o wr 12 v) (hf:Ar.fits n o=true):WoodAt wr { h with ro:=v,rv:=.slice none 0 0,wv:=.slice none 0 0 } (Wo.new n o) ∧
  ∀ k,({ h with ro:=v,rv:=.slice none 0 0,wv:=.slice none 0 0 }:WH).Own k→w.heap.size≤k:=by
 have hn:((Ar.new n o).nur:Int)=n:=by simp [Ar.fits] at hf;simp [Ar.new];omega
 refine ⟨⟨H.hp,H.ha,?_,H.hs,?_,H.ap,Wo.new_ok hf⟩,?_⟩
 ·show CardsAt wr h.pc h.cb ((Ar.new n o).nur:Int) _
  rw [hn];exact H.hc
 ·have e:(Wo.new n o).rt=List.replicate 12 2:=rfl
  rw [e]
  simpa using H.hr
 ·rintro k (rfl | (rfl | rfl) | (rfl | rfl) | (rfl | h1 | h1) | h1)
  ·exact H.o1
  ·exact H.o2
  ·exact H.o3
  ·exact H.o4
  ·exact H.o5
  ·exact H.o6
  ·exact (nil_own h1).elim
  ·exact (nil_own h1).elim
  ·exact H.o7 k h1
theorem WNew_no (n o:Int) (w:World) (h:Ar.fits n o=false) :
  Calls Tryz.prog 44 #[.int .i64 n, .int .i64 o] w fun e w'=>e=.returned (.tuple #[.pointer none, .agg #[.int .i64 1, .int .i64 (-1)]])∧Keeps (fun _=>False) w w':=by
 go_enter Tryz.func44,Tryz.ntmps44
 go_wp2_with fail
 refine (ANew_no n o _ h).mono ?_
 rintro e w1 ⟨rfl,hk⟩
 have HK:=Hz (((Kz w).alloc (.cells #[.int .i64 0, .int .i64 0] 28)).trans hk)
 go_wp2_with fail
 have HB:=Hz (Blk.newAt (w:=w1) (b:=w1.heap.size) (T:=28) #[.int .i64 1, .int .i64 (-1)] rfl rfl)
 have h0:=HB.out.cell 0;have h1:=HB.out.cell 1;have hl:=HB.out.lt
 have k0:Blk (w.alloc (.cells #[.int .i64 0, .int .i64 0] 28)) w.heap.size [.int .i64 0, .int .i64 0] 28:=Blk.newAt _ rfl rfl
 have k1:=(hk.blk k0 (fun h=>h)).alloc (.cells #[.int .i64 1, .int .i64 (-1)] 28)
 have l0:=k1.cell 0;have l1:=k1.cell 1;have ll:=k1.lt;have f0:=k1.free 0;have f1:=k1.free 1
 simp only [List.getElem?_cons_zero,List.getElem?_cons_succ] at h0 h1 l0 l1
 have HKA:=Hz (HK.out.alloc (.cells #[.int .i64 1, .int .i64 (-1)] 28))
 clear hk k0 k1
 generalize w1.alloc (.cells #[.int .i64 1, .int .i64 (-1)] 28)=wa at *
 refine wp_region_ro (.free 1 (.pure 0 (.run 2 (.swi [] (.fin))))) [2] (fun w'=>w'.cell? ⟨w1.heap.size,0,none⟩=some (.int .i64 1)∧w'.cell? ⟨w1.heap.size,1,none⟩=some (.int .i64 (-1))) (by kernel_rfl) (by kernel_rfl) ⟨h0,h1⟩ ?_
 iterate 2 first | (refine wpRO_free rfl rfl _ (fun w'=>by go_simp;exact Gives.mk _ _) (fun K hK=>?_);go_simp;refine hK _ ?_;clear hK K) | (refine wpRO_skipF rfl rfl (fun K hK=>?_);go_simp;refine hK _ ?_;clear hK K) | (refine wpRO_pure rfl rfl _ (fun w' hG=>by obtain ⟨g0,g1⟩:=hG;exact gives_agg2 rfl (by decide +kernel) rfl (by assumption) (by assumption)) (fun K hK=>?_);go_simp;refine hK _ ?_;clear hK K) | (refine wpRO_pure rfl rfl _ (fun w' hG=>by obtain ⟨g0,g1⟩:=hG;go_simp;exact Gives.mk _ _) (fun K hK=>?_);go_simp;refine hK _ ?_;clear hK K) | (refine wpRO_skip rfl rfl (fun K hK=>?_);go_simp;refine hK _ ?_;clear hK K)
 refine wpRO_chg rfl rfl rfl (fun K hK=>?_);unfold gRun;go_simp
 refine hK _ _ ?_
 clear hK K
 refine wpRO_swi (fun _=>True) trivial (wpRO_fin ?_)
 go_wp2_with fail
 refine bodyPost_ret (v:=.tuple #[.pointer none, .agg #[.int .i64 1, .int .i64 (-1)]]) (by simp [results,Tryz.results44,go_sem,l0,l1]) rfl ⟨rfl,(HKA.out.drew.setCell (p:=⟨w.heap.size,0,none⟩) (.inr (Nat.le_refl _)) _).setCell (p:=⟨w.heap.size,1,none⟩) (.inr (Nat.le_refl _)) _⟩
theorem WNew_yes (n o:Int) (w:World) (h:Ar.fits n o=true) :
  Calls Tryz.prog 44 #[.int .i64 n, .int .i64 o] w fun e w'=>WoodRet w n o e w':=by
 have HF:=Hz h
 have ho:o≤1000000∧-9223372036854775808≤o:=by simp [Ar.fits] at h;omega
 obtain ⟨i0,hi,hz0,hz1,hz2⟩:=info_parts info_i64
 have Hi:=Hz hi;have Hz0:=Hz hz0;have Hz1:=Hz hz1;have Hz2:=Hz hz2;clear hi hz0 hz1 hz2
 clear h
 go_enter Tryz.func44,Tryz.ntmps44
 go_wp2_with fail
 refine (ANew_yes n o _ HF.out).mono ?_
 rintro e w1 ⟨pa,g,rfl,hA,hk,hpa,hg⟩
 have HA:=Hz hA;have HK:=Hz (((Kz w).alloc (.cells #[.int .i64 0, .int .i64 0] 28)).trans hk)
 have HZ:=Hz (hk.blk (show Blk (w.alloc (.cells #[.int .i64 0, .int .i64 0] 28)) w.heap.size [.int .i64 0, .int .i64 0] 28 from Blk.newAt _ rfl rfl) (fun h=>h))
 have hsz:=hk.size
 simp at hsz hpa hg
 have HPA:=Hz hpa;have HG:=Hz hg
 clear hA hk hpa hg
 go_wp2_with fail
 refine (New_c n o _ ho.1 ho.2).mono ?_
 rintro e w2 ⟨rfl,hC,hz,hk⟩
 have hka:=(Kz w1).alloc (.cells #[.int .i64 0, .int .i64 0] 28)
 have HC:=Hz hC;have HK2:=Hz (HK.out.trans (hka.trans hk));have HA2:=Hz (HA.out.keep (hka.trans hk) (fun h=>h) (fun h=>h));have HZ2:=Hz ((hka.trans hk).blk HZ.out (fun h=>h))
 have hsz2:=hk.size
 simp at hsz2
 clear hC hk hz hka
 go_wp2_with fail
 have HN:=Hz (show NewIn w ⟨w2.heap.size+1,pa,g,w1.heap.size+1+1,w1.heap.size+1,w2.heap.size, .slice none 0 0, .slice none 0 0, .slice none 0 0⟩ n o ((w2.alloc (.cells #[.slice none 0 0, .slice none 0 0] 133)).alloc (.cells #[.pointer (some ⟨pa,0,none⟩), .pointer (some ⟨w1.heap.size+1+1,0,none⟩), .pointer (some ⟨w2.heap.size,0,none⟩), .slice none 0 0] 52)) 0 (.slice none 0 0) by
  have k1:=(Kz w2).alloc (.cells #[.slice none 0 0, .slice none 0 0] 133)
  have k2:=(Kz (w2.alloc (.cells #[.slice none 0 0, .slice none 0 0] 133))).alloc (.cells #[.pointer (some ⟨pa,0,none⟩), .pointer (some ⟨w1.heap.size+1+1,0,none⟩), .pointer (some ⟨w2.heap.size,0,none⟩), .slice none 0 0] 52)
  have k12:=k1.trans k2
  have hc:=HC.out
  simp only [World.size_alloc] at hc
  have s0:w.heap.size≤w1.heap.size:=by omega
  refine ⟨Blk.newAt _ (by simp) rfl,HA2.out.keep k12 (fun h=>h) (fun h=>h),hc.keep k12 (fun h=>h) (fun h=>h),?_,Sl.nil _ _ _,HK2.out.trans k12,?_,?_,?_,?_,?_,?_,fun b hb=>(nil_own hb).elim,fun hb=>nil_own hb,k12.blk HZ2.out (fun h=>h)⟩
  ·refine ⟨(Blk.newAt _ rfl rfl).alloc _,Sl.nil _ _ _,Sl.nil _ _ _,fun k hk=>nil_own hk.1⟩
  all_goals (have h1:=HPA.out;have h2:=HG.out;dsimp only;omega))
 clear HC HK2 HA2
 generalize (w2.alloc (.cells #[.slice none 0 0, .slice none 0 0] 133)).alloc (.cells #[.pointer (some ⟨pa,0,none⟩), .pointer (some ⟨w1.heap.size+1+1,0,none⟩), .pointer (some ⟨w2.heap.size,0,none⟩), .slice none 0 0] 52)=wb at *
 go_loopw [27] (fun i wr=>∃ (k:Nat) (v:Value),k≤12∧i=.int .i64 k∧NewIn w ⟨w2.heap.size+1,pa,g,w1.heap.size+1+1,w1.heap.size+1,w2.heap.size, .slice none 0 0, .slice none 0 0, .slice none 0 0⟩ n o wr k v) (fun i _=>12-(intOf i).toNat)
 case atStart=>exact ⟨0,_,Nat.zero_le _,rfl,HN.out⟩
 case round=>
  clear HN
  obtain ⟨k,v,hk,rfl,hI⟩:=hrel
  have HI:=Hz hI;clear hI
  by_cases hlt:k<12
  ·have c3:=HI.out.hp.cell 3;have pl:=HI.out.hp.lt;have f3:=HI.out.hp.free 3
   simp only [List.getElem?_cons_zero,List.getElem?_cons_succ] at c3
   obtain ⟨ao,cap,rfl,-,-,-⟩:=HI.out.hr.rd
   go_wp2_with fail
   refine wp_region_ro (.free 0 (.free 1 (.free 2 (.free 3 (.pure 4 (.run 5 (.run 6 (.run 7 (.swi [10] (.free 8 (.free 9 (.run 10 (.swi [] (.fin)))))))))))))) [7,8,9,10] (fun w'=>w'.cell? ⟨w2.heap.size+1,3,none⟩=some (.slice ao k cap)) (by kernel_rfl) (by kernel_rfl) c3 ?_
   iterate 5 first | (refine wpRO_free rfl rfl _ (fun w'=>by go_simp;exact Gives.mk _ _) (fun K hK=>?_);go_simp;refine hK _ ?_;clear hK K) | (refine wpRO_skipF rfl rfl (fun K hK=>?_);go_simp;refine hK _ ?_;clear hK K) | (refine wpRO_pure rfl rfl _ (fun w' hG=>by obtain g3:=hG;exact gives_agg2 rfl (by decide +kernel) rfl (by assumption) (by assumption)) (fun K hK=>?_);go_simp;refine hK _ ?_;clear hK K) | (refine wpRO_pure rfl rfl _ (fun w' hG=>by obtain g3:=hG;go_simp;exact Gives.mk _ _) (fun K hK=>?_);go_simp;refine hK _ ?_;clear hK K) | (refine wpRO_skip rfl rfl (fun K hK=>?_);go_simp;refine hK _ ?_;clear hK K)
   refine wpRO_run rfl rfl (fun K hK=>?_);unfold gRun;go_simp
   refine (Nil_c _).mono ?_
   rintro e w3 ⟨rfl,rfl⟩
   refine hK _ _ (fun h=>h) ?_
   clear hK K
   refine wpRO_run rfl rfl (fun K hK=>?_);unfold gRun;go_simp
   have hkb:Keeps (fun _=>False) wr ((wr.drew).alloc (.cells #[.int .i64 2] 2)):=(Kz wr).drew.alloc (.cells #[.int .i64 2] 2)
   refine hK _ _ (fun _=>(hkb.blk HI.out.hp (fun h=>h)).cell 3) ?_
   clear hK K
   refine wpRO_chg rfl rfl rfl (fun K hK=>?_)
   refine gRun_app (.tmp 33) (.tmp 35) 50 rfl 2 i0 (.int .i64 0) 1 8 Tryz.underlying50 Hi.out Hz0.out Hz1.out Hz2.out rfl (by decide) _ k (List.replicate k (.int .i64 2)) rfl (HI.out.hr.keep hkb (fun _ _ h=>h)) ⟨wr.heap.size,0,none⟩ 1 1 [.int .i64 2] rfl rfl (news_at wr.drew 2 #[.int .i64 2]) (by intro u hu;simp at hu;subst hu;rfl) (by unfold maxLen;omega) (by omega) ?_
   intro v3 w3 hs3 hk3 ho3
   have HI3:=Hz (HI.out.app hkb hs3 hk3 ho3)
   have hp3:=hk3.blk (hkb.blk HI.out.hp (fun h=>h)) (fun hv=>by obtain ⟨_,c',hc⟩:=(HI.out.hr.keep hkb (fun _ _ h=>h)).own hv;exact (hkb.blk HI.out.hp (fun h=>h)).ne hc (by decide) rfl)
   have x0:=hp3.cell 3;have xf:=hp3.free 3;have xl:=hp3.lt
   simp only [List.getElem?_cons_zero,List.getElem?_cons_succ] at x0
   refine hK _ _ ?_
   clear hK K hkb hs3 hk3 ho3 hp3 c3 pl f3
   refine wpRO_swi (fun _=>True) trivial ?_
   obtain ⟨vo3,vc3,rfl,-,-,-⟩:=HI3.out.hr.rd
   iterate 2 first | (refine wpRO_free rfl rfl _ (fun w'=>by go_simp;exact Gives.mk _ _) (fun K hK=>?_);go_simp;refine hK _ ?_;clear hK K) | (refine wpRO_skipF rfl rfl (fun K hK=>?_);go_simp;refine hK _ ?_;clear hK K)
   refine wpRO_chg rfl rfl rfl (fun K hK=>?_);unfold gRun;go_simp
   refine hK _ _ ?_
   clear hK K
   refine wpRO_swi (fun _=>True) trivial (wpRO_fin ?_)
   clear x0 xf xl
   go_wp2_with fail
   go_roundw
   case rel=>exact ⟨k+1,_,by omega,by go_num,HI3.out⟩
   case measure=>simp [intOf];omega
  ·obtain rfl:k=12:=by omega
   have z0:=HI.out.hz.cell 0;have z1:=HI.out.hz.cell 1;have zl:=HI.out.hz.lt;have zf:=HI.out.hz.free 0;have zg:=HI.out.hz.free 1
   simp only [List.getElem?_cons_zero,List.getElem?_cons_succ] at z0 z1
   have HD:=Hz (HI.out.done HF.out);have HKI:=Hz HI.out.hk
   go_wp2_with fail
   refine bodyPost_ret (v:=.tuple #[.pointer (some ⟨w2.heap.size+1,0,none⟩), .agg #[.int .i64 0, .int .i64 0]]) (by simp [results,Tryz.results44,go_sem,z0,z1]) rfl ⟨_,rfl,?_,(HKI.out.setCell (p:=⟨w.heap.size,0,none⟩) (.inr (Nat.le_refl _)) _).setCell (p:=⟨w.heap.size,1,none⟩) (.inr (Nat.le_refl _)) _,HD.out.2⟩
   have hD:=HD.out.1
   have ke:=((Keeps.refl (·=w.heap.size) wr).setCell (p:=⟨w.heap.size,0,none⟩) (.inl rfl) (.int .i64 0)).setCell (p:=⟨w.heap.size,1,none⟩) (.inl rfl) (.int .i64 0)
   exact hD.keep ke (fun b hb e=>by
    subst e
    have hzz:=HI.out.hz
    rcases hb with e | (e | e) | (e | e) | e | e
    ·exact hzz.ne hD.hp (by decide) e
    ·exact hzz.ne hD.ha.hp (by decide) e
    ·exact hzz.ne hD.ha.hg (by decide) e
    ·exact hzz.ne hD.hc.hp (by decide) e
    ·exact hzz.ne hD.hc.hq (by decide) e
    ·exact hD.side_ne hzz (by decide) (by decide) e
    ·exact hD.ro_ne hzz (by decide) e)
end
section
open Go.RowKit
def RowsC {α:Type} (c:Nat) (R:α→List Value→Prop):List α→List Value→Prop
 | [],cs=>cs=[]
 | a :: l,cs=>∃ r rest,cs=r ++ rest∧r.length=c∧R a r∧RowsC c R l rest
section
variable {α:Type} {c:Nat} {R Q:α→List Value→Prop}
theorem RowsC.length:∀ {l:List α} {cs:List Value},RowsC c R l cs→cs.length=l.length*c
 | [],cs,h=>by cases h;simp
 | a :: l,cs,h=>by
  obtain ⟨r,rest,rfl,h1,_,h2⟩:=h
  rw [List.length_append,h1,RowsC.length h2,List.length_cons,Nat.succ_mul]
  omega
theorem RowsC.mono {l:List α} (hq:∀ a ∈ l, ∀ r,R a r→Q a r):∀ {cs:List Value},RowsC c R l cs→RowsC c Q l cs:=by
 induction l with
 | nil=>intro cs h;exact h
 | cons a l ih=>
  intro cs h
  obtain ⟨r,rest,rfl,h1,h2,h3⟩:=h
  exact ⟨r,rest,rfl,h1,hq a (by simp) r h2,ih (fun b hb=>hq b (by simp [hb])) h3⟩
theorem RowsC.app:∀ {l:List α} {cs:List Value} {a:α} {r:List Value},RowsC c R l cs→r.length=c→R a r→RowsC c R (l ++ [a]) (cs ++ r)
 | [],cs,a,r,h,h1,h2=>by cases h;exact ⟨r,[],by simp,h1,h2,rfl⟩
 | b :: l,cs,a,r,h,h1,h2=>by
  obtain ⟨r',rest,rfl,h3,h4,h5⟩:=h
  exact ⟨r',rest ++ r,by simp,h3,h4,RowsC.app h5 h1 h2⟩
theorem RowsC.get:∀ {l:List α} {cs:List Value} {i:Nat} (h:i<l.length),RowsC c R l cs→∃ r,(cs.drop (i*c)).take c=r∧r.length=c∧R l[i] r
 | a :: l,cs,0,_,h=>by
  obtain ⟨r,rest,rfl,h1,h2,_⟩:=h
  exact ⟨r,by simp [←h1],h1,h2⟩
 | a :: l,cs,i+1,hi,h=>by
  obtain ⟨r,rest,rfl,h1,_,h2⟩:=h
  obtain ⟨r',e,h3,h4⟩:=RowsC.get (i:=i) (by simpa using hi) h2
  refine ⟨r',?_,h3,h4⟩
  rw [←e,Nat.succ_mul,Nat.add_comm,←h1,←List.drop_drop,List.drop_left]
theorem RowsC.cell {l:List α} {cs:List Value} {i:Nat} (h:i<l.length) (hr:RowsC c R l cs):∃ r,r.length=c∧R l[i] r∧∀ j,j<c→cs[i*c+j]? = r[j]? := by
 obtain ⟨r,e,h1,h2⟩:=RowsC.get h hr
 refine ⟨r,h1,h2,fun j hj=>?_⟩
 rw [←e,List.getElem?_take,if_pos hj,List.getElem?_drop]
theorem RowsC.set:∀ {l:List α} {cs:List Value} {i:Nat} {a:α} {r:List Value} (_:i<l.length),RowsC c R l cs→r.length=c→R a r →
  RowsC c R (l.set i a) (cs.take (i*c) ++ r ++ cs.drop (i*c+c))
 | b :: l,cs,0,a,r,_,h,h1,h2=>by
  obtain ⟨r',rest,rfl,h3,_,h5⟩:=h
  refine ⟨r,rest,?_,h1,h2,h5⟩
  simp [←h3]
 | b :: l,cs,i+1,a,r,hi,h,h1,h2=>by
  obtain ⟨r',rest,rfl,h3,h4,h5⟩:=h
  refine ⟨r',_,?_,h3,h4,RowsC.set (i:=i) (by simpa using hi) h5 h1 h2⟩
  have e:(i+1)*c=r'.length+i*c:=by rw [Nat.succ_mul,h3];omega
  rw [e,List.take_append,List.take_of_length_le (by omega),show r'.length+i*c-r'.length=i*c by omega,show r'.length+i*c+c=r'.length+(i*c+c) by omega,←List.drop_drop,List.drop_left]
  simp
theorem RowsC.setCell {l:List α} {cs:List Value} {i j:Nat} {a:α} {u:Value} (h:i<l.length) (hj:j<c) (hr:RowsC c R l cs) (hR:∀ r,r.length=c→R l[i] r→R a (r.set j u)) :
  RowsC c R (l.set i a) (cs.set (i*c+j) u):=by
 obtain ⟨r,e,h1,h2⟩:=RowsC.get h hr
 have hlen:=RowsC.length hr
 have hm:i*c+c≤l.length*c:=by rw [←Nat.succ_mul];exact Nat.mul_le_mul_right _ h
 have:=RowsC.set (a:=a) (r:=r.set j u) h hr (by simpa using h1) (hR r h1 h2)
 have e2:cs.set (i*c+j) u=cs.take (i*c) ++ r.set j u ++ cs.drop (i*c+c):=by
  apply List.ext_getElem?
  intro k
  rw [List.getElem?_set]
  by_cases k1:k<i*c
  ·rw [if_neg (by omega),List.append_assoc,List.getElem?_append_left (by simp;omega),List.getElem?_take,if_pos k1]
  ·by_cases k2:k<i*c+c
   ·rw [List.append_assoc,List.getElem?_append_right (by simp;omega),List.length_take,List.getElem?_append_left (by simp;omega),List.getElem?_set,Nat.min_eq_left (by omega)]
    by_cases e3:i*c+j=k
    ·rw [if_pos e3,if_pos (by omega),if_pos (by omega),if_pos (by omega)]
    ·rw [if_neg e3,if_neg (by omega),←e,List.getElem?_take,if_pos (by omega),List.getElem?_drop]
     congr 1;omega
   ·rw [if_neg (by omega),List.getElem?_append_right (by simp;omega),List.getElem?_drop]
    congr 1;simp;omega
 rw [e2];exact this
end
end
section
open Go.RowKit Go.Maps
theorem Rd.int64 {w:World} {ao:Option Addr} {l:List Int} (h:Rd w ao (l.map (Value.int .i64))) (i:Nat) (hi:i<l.length) :
  ∃ g o,ao=some ⟨g,o,none⟩∧g<w.heap.size∧w.cell? ⟨g,o+i,none⟩=some (.int .i64 (l.getD i 0)):=by
 obtain ⟨g,o,rfl,hg,hc⟩:=h (by intro e;simp at e;subst e;simp at hi)
 refine ⟨g,o,rfl,hg,?_⟩
 rw [hc i (by simpa using hi)]
 simp [List.getD,hi]
theorem Sl.set {w:World} {e size:Nat} {g o n cap j:Nat} {xs:List Value} {u:Value} (h:Sl w e size (.slice (some ⟨g,o,none⟩) n cap) n xs) (hj:j<n*size) :
  Sl (w.setCell ⟨g,o+j,none⟩ u) e size (.slice (some ⟨g,o,none⟩) n cap) n (xs.set j u):=by
 obtain ⟨hl,⟨h1,_⟩ | ⟨g',o',cap',cur,e1,hb,h1,h2,h3,h4⟩⟩:=h
 ·cases h1
 ·cases e1
  refine ⟨by simpa using hl, .inr ⟨g,o,cap,_,rfl,hb.setSame _ _,h1,h2,by simpa using h3,?_⟩⟩
  rw [←h4]
  apply List.ext_getElem?
  intro k
  simp only [List.getElem?_take,List.getElem?_drop,List.getElem?_set,List.length_take,List.length_drop]
  by_cases hk:k<n*size
  ·rw [if_pos hk,if_pos hk]
   by_cases e:j=k
   ·subst e
    have:n*size≤cap*size:=Nat.mul_le_mul_right _ h1
    rw [if_pos rfl,if_pos rfl,if_pos (by omega),if_pos (by omega)]
   ·rw [if_neg (by omega),if_neg e]
  ·rw [if_neg hk,if_neg (by omega)]
   rw [if_neg hk]
def NodeRow (w:World) (F:Nat→Prop) (nd:Nd) (r:List Value):Prop:=
 ∃ ao cap,r=[.int .i64 nd.1, .slice ao nd.2.length cap]∧Rd w ao (entV nd.2)∧(∀ a,ao=some a→F a.block)∧nd.2.length≤maxLen
theorem NodeRow.keep {w w':World} {F S:Nat→Prop} {nd:Nd} {r:List Value} (h:NodeRow w F nd r) (k:Keeps S w w') (hn:∀ b,F b→b<w.heap.size→¬ S b):NodeRow w' F nd r:=by
 obtain ⟨ao,cap,e,hr,hf,hc⟩:=h
 exact ⟨ao,cap,e,hr.keep k (fun a ha hb=>hn _ (hf a ha) hb),hf,hc⟩
theorem NodeRow.more {w:World} {F F':Nat→Prop} {nd:Nd} {r:List Value} (h:NodeRow w F nd r) (hF:∀ b,F b→F' b):NodeRow w F' nd r:=by
 obtain ⟨ao,cap,e,hr,hf,hc⟩:=h
 exact ⟨ao,cap,e,hr,fun a ha=>hF _ (hf a ha),hc⟩
def NodesAt (w:World) (nv:Value) (F:Nat→Prop) (l:List Nd):Prop:=∃ cs,Sl w 139 2 nv l.length cs∧RowsC 2 (NodeRow w F) l cs
theorem NodesAt.keep {w w':World} {F S:Nat→Prop} {nv:Value} {l:List Nd} (h:NodesAt w nv F l) (k:Keeps S w w') (hn:∀ b,F b→b<w.heap.size→¬ S b) (hv:∀ b,ownB nv b→¬ S b):NodesAt w' nv F l:=by
 obtain ⟨cs,h1,h2⟩:=h
 exact ⟨cs,h1.keep k hv,h2.mono (fun a _ r hr=>hr.keep k hn)⟩
theorem NodesAt.nil (w:World) (F:Nat→Prop):NodesAt w (.slice none 0 0) F []:=⟨[],Sl.nil _ _ _,rfl⟩
def SeenAt (w:World) (b:Nat) (met:List Int):Prop:=
 ∃ n D,w.ownsMap (H:=Unit) Tryz.prog 3 (plainElem Tryz.prog 3) b n D∧n≤met.length ∧
  ∀ x:Int,-9223372036854775808≤x→x≤9223372036854775807→Maps.has D (.int .i64 x)=decide (x ∈ met)∧(x ∈ met→D.atKey (.int .i64 x) (.lit (.int .i64 0))=.lit (.int .i64 (met.idxOf x:Nat)))
theorem SeenAt.lt {w:World} {b:Nat} {met:List Int} (h:SeenAt w b met):b<w.heap.size:=by
 obtain ⟨n,D,h,_⟩:=h;exact h.lt
theorem SeenAt.ne {w:World} {b:Nat} {met:List Int} (h:SeenAt w b met) {k:Nat} {c:List Value} {T:TypeId} (hk:Blk w k c T):k≠b:=by
 rintro rfl
 obtain ⟨n,D,⟨es,clock,hb,_⟩,_⟩:=h
 unfold Blk at hk
 rw [hb] at hk;cases hk
theorem SeenAt.keep {w w':World} {b:Nat} {met:List Int} {S:Nat→Prop} (h:SeenAt w b met) (k:Keeps S w w') (hn:¬ S b):SeenAt w' b met:=by
 obtain ⟨n,D,⟨es,clock,hb,hr⟩,h2⟩:=h
 exact ⟨n,D,⟨es,clock,(k.block b (Array.getElem?_eq_some_iff.1 hb).1 hn).trans hb,hr⟩,h2⟩
theorem SeenAt.made (w:World):SeenAt (w.alloc (.map #[] 0)) w.heap.size []:=
 ⟨0, .map [],World.ownsMap_made _ _ _ _,Nat.le_refl _,fun x _ _=>⟨rfl,fun h=>by cases h⟩⟩
theorem grown_keeps {w w':World} {b:Nat} (h:w.grownBy w' (some b)):Keeps (·=b) w w':=
 ⟨h.os,h.tape,h.output,h.size,fun k hk hn=>h.block k hk (fun e=>hn (by cases e;rfl))⟩
theorem SeenAt.push {w w':World} {b n:Nat} {met:List Int} {x:Int} {D:DataW Unit} (hown:w.ownsMap (H:=Unit) Tryz.prog 3 (plainElem Tryz.prog 3) b n D) (hn:n≤met.length)
  (hD:∀ x:Int,-9223372036854775808≤x→x≤9223372036854775807→Maps.has D (.int .i64 x)=decide (x ∈ met)∧(x ∈ met→D.atKey (.int .i64 x) (.lit (.int .i64 0))=.lit (.int .i64 (met.idxOf x:Nat))))
  (hm:¬ x ∈ met) (h1:w'.ownsMap Tryz.prog 3 (plainElem Tryz.prog 3) b (n+1) (D.put (.int .i64 x) (.lit (.int .i64 (met.length:Nat))))):SeenAt w' b (met ++ [x]):=by
 refine ⟨n+1,_,h1,by simp;omega,fun y y1 y2=>?_⟩
 have hM:=hown.isMap
 by_cases e:y=x
 ·subst e
  refine ⟨by rw [has_put_same hM (show WideAt.IsKeyLit (.int .i64 y) from trivial)];simp,fun _=>?_⟩
  rw [atKey_put_same hM (show WideAt.IsKeyLit (.int .i64 y) from trivial),List.idxOf_append,if_neg hm]
  simp
 ·have hne:(Lit.int .i64 y)≠(Lit.int .i64 x):=fun h=>e (by cases h;rfl)
  have:=hD y y1 y2
  refine ⟨by rw [has_put_other hne,this.1];simp [e],fun hy=>?_⟩
  have hy':y ∈ met:=by simpa [e] using hy
  rw [atKey_put_other hne,this.2 hy',List.idxOf_append,if_pos hy']
end
section
open Go.RowKit Go.Maps
theorem key_int:Keyed Tryz.prog 3:=int_keyed Tryz.underlying3
theorem zero_int (w:World):(zeroValue 3).run Tryz.prog w=.ok (.int .i64 0) w:=by kernel_rfl
section
variable {w w':World} {h:WH} {O:Wo}
theorem WoodAt.own_type (H:WoodAt w h O) {k:Nat} (hk:h.Own k):∃ c T,Blk w k c T∧(T=52∨T=141∨T=2∨T=168∨T=4∨T=133∨T=101):=by
 rcases hk with rfl | (rfl | rfl) | (rfl | rfl) | hk | hk
 ·exact ⟨_,_,H.hp, .inl rfl⟩
 ·exact ⟨_,_,H.ha.hp, .inr (.inl rfl)⟩
 ·exact ⟨_,_,H.ha.hg, .inr (.inr (.inl rfl))⟩
 ·exact ⟨_,_,H.hc.hp, .inr (.inr (.inr (.inl rfl)))⟩
 ·exact ⟨_,_,H.hc.hq, .inr (.inr (.inr (.inr (.inl rfl))))⟩
 ·obtain ⟨c,T,hc,hT⟩:=H.hs.fp_type hk
  rcases hT with rfl | rfl
  ·exact ⟨_,_,hc, .inr (.inr (.inr (.inr (.inr (.inl rfl)))))⟩
  ·exact ⟨_,_,hc, .inr (.inr (.inr (.inr (.inr (.inr rfl)))))⟩
 ·obtain ⟨_,c,hc⟩:=H.hr.own hk;exact ⟨_,_,hc, .inr (.inr (.inl rfl))⟩
structure VwAt (w:World) (q:Nat) (h:WH) (O:Wo) (b:Nat) (rv nv:Value) (F:Nat→Prop) (s:VS):Prop where
 hq:Blk w q [.pointer (some ⟨h.p,0,none⟩), .map (some b),rv,nv] 118
 hw:WoodAt w h O
 hm:SeenAt w b s.1
 hn:NodesAt w nv F s.2
 hl:s.2.length=s.1.length
 hF:∀ k,F k→k<w.heap.size∧¬ (k=q∨k=b∨ownB nv k)
def VwFp (q b:Nat) (nv:Value) (k:Nat):Prop:=k=q∨k=b∨ownB nv k
theorem NodesAt.own {F:Nat→Prop} {nv:Value} {l:List Nd} (h:NodesAt w nv F l) {k:Nat} (hk:ownB nv k):k<w.heap.size∧∃ c,Blk w k c 139:=by
 obtain ⟨cs,hs,_⟩:=h
 exact hs.own hk
variable {q b:Nat} {rv nv:Value} {F:Nat→Prop} {s:VS}
theorem VwAt.wood_apart (V:VwAt w q h O b rv nv F s) {k:Nat} (hk:h.Own k):¬ VwFp q b nv k:=by
 obtain ⟨c,T,hc,hT⟩:=V.hw.own_type hk
 have hne:T≠118∧T≠139:=by rcases hT with rfl | rfl | rfl | rfl | rfl | rfl | rfl <;> exact ⟨by decide,by decide⟩
 rintro (rfl | rfl | hk2)
 ·exact hc.ne V.hq hne.1 rfl
 ·exact V.hm.ne hc rfl
 ·obtain ⟨_,c',hc'⟩:=V.hn.own hk2
  exact hc.ne hc' hne.2 rfl
theorem VwAt.lt (V:VwAt w q h O b rv nv F s) {k:Nat} (hk:VwFp q b nv k):k<w.heap.size:=by
 rcases hk with rfl | rfl | hk
 ·exact V.hq.lt
 ·exact V.hm.lt
 ·exact (V.hn.own hk).1
theorem VwAt.fp_ne (V:VwAt w q h O b rv nv F s) {k:Nat} {c:List Value} {T:TypeId} (hc:Blk w k c T) (h1:T≠118) (h2:T≠139):¬ VwFp q b nv k:=by
 rintro (rfl | rfl | hk2)
 ·exact hc.ne V.hq h1 rfl
 ·exact V.hm.ne hc rfl
 ·obtain ⟨_,c',hc'⟩:=V.hn.own hk2
  exact hc.ne hc' h2 rfl
theorem VwAt.keep {S:Nat→Prop} (V:VwAt w q h O b rv nv F s) (k:Keeps S w w') (h1:∀ j,VwFp q b nv j→¬ S j) (h2:∀ j,h.Own j→¬ S j) (h3:∀ j,F j→¬ S j):VwAt w' q h O b rv nv F s:=
 ⟨k.blk V.hq (h1 _ (.inl rfl)),V.hw.keep k h2,V.hm.keep k (h1 _ (.inr (.inl rfl))),V.hn.keep k (fun j hj _=>h3 j hj) (fun j hj=>h1 j (.inr (.inr hj))),V.hl,fun j hj=>⟨Nat.lt_of_lt_of_le (V.hF j hj).1 k.size,(V.hF j hj).2⟩⟩
theorem VwAt.same (V:VwAt w q h O b rv nv F s) (k:Keeps (fun _=>False) w w'):VwAt w' q h O b rv nv F s:=V.keep k (fun _ _ h=>h) (fun _ _ h=>h) (fun _ _ h=>h)
def VwTo (w:World) (q:Nat) (h:WH) (O:Wo) (b:Nat) (rv nv:Value) (F:Nat→Prop) (s':VS) (w':World):Prop:=
 ∃ nv' F',VwAt w' q h O b rv nv' F' s'∧Keeps (VwFp q b nv) w w'∧(∀ k,ownB nv' k→ownB nv k∨w.heap.size≤k)∧∀ k,F' k→F k∨w.heap.size≤k
theorem VwTo.refl (V:VwAt w q h O b rv nv F s) (k:Keeps (fun _=>False) w w'):VwTo w q h O b rv nv F s w':=
 ⟨nv,F,V.same k,k.mono (fun _ _ h=>h.elim),fun _ h=>.inl h,fun _ h=>.inl h⟩
def ValRet (w:World) (q:Nat) (h:WH) (O:Wo) (b:Nat) (rv nv:Value) (F:Nat→Prop) (r:Vl × VS) (e:Ending) (w':World):Prop:=
 e=.returned (.agg #[.int .i64 r.1.1, .int .i64 r.1.2])∧VwTo w q h O b rv nv F r.2 w'
def NodeRet (w:World) (q:Nat) (h:WH) (O:Wo) (b:Nat) (rv nv:Value) (F:Nat→Prop) (n:Nat) (s':VS) (e:Ending) (w':World):Prop:=
 e=.returned (.int .i64 n)∧VwTo w q h O b rv nv F s' w'
theorem valO_plain {x:Int} (h:x%4≠1):valO x=((decW x).1,(decW x).2.1):=if_neg h
theorem valO_ref {x:Int} (h:x%4=1):valO x=(3,x/4):=if_pos h
theorem valO_kind {x:Int} (h:x%4≠1):(valO x).1≠3:=by
 rw [valO_plain h]
 dsimp only
 unfold decW
 repeat' split
 all_goals (dsimp only;omega)
theorem value_met (x:Int) (n:Nat) (V:VwAt w q h O b rv nv F s) (hx:R64 x) (hm:x%4=1→x/4 ∈ s.1) (hl:s.1.length≤1000000) :
  Calls Tryz.prog 65 #[.pointer (some ⟨q,0,none⟩), .int .i64 x] w fun e w'=>ValRet w q h O b rv nv F (valM O.gr n (valO x) s) e w':=by
 have HV:=Hz V
 by_cases h1:x%4=1
 ·have HE:=Hz (show valM O.gr n (valO x) s=(refV (s.1.idxOf (x/4)),s) by rw [valO_ref h1];exact valM_met O.gr n rfl (hm h1))
  have H1:=Hz h1;have HM:=Hz (hm h1)
  have r1:-9223372036854775808≤x/4:=by have:=hx.1;omega
  have r2:x/4≤9223372036854775807:=by have:=hx.2;omega
  clear V h1 hm
  go_enter Tryz.func65,Tryz.ntmps65
  go_wp2_with fail
  refine (At_yes x _ H1.out).mono ?_
  rintro e w1 ⟨rfl,rfl⟩
  have V1:=Hz (HV.out.same ((Kz w).alloc (.cells #[.int .i64 0, .int .i64 0] 96)))
  have c1:=V1.out.hq.cell 1;have cl:=V1.out.hq.lt
  simp only [List.getElem?_cons_zero,List.getElem?_cons_succ] at c1
  obtain ⟨n0,D,hown,hn0,hD⟩:=V1.out.hm
  have HD:=Hz (hD (x/4) r1 r2)
  clear hD
  go_wp2_with (at_lookup;refine wpList_lookup_own_ok_int _ rfl _ _ 116 rfl 3 3 .i64 key_int Tryz.underlying116 Tryz.underlying3 (zero_int _) b n0 D rfl hown _ _ rfl (keyOf_int_mk Tryz.underlying3 (WalkArith.wf_i64 (by constructor <;> omega))) ?_)
  intro c hat hwc
  have hat2:=HD.out.2 HM.out
  rw [hat] at hat2
  obtain rfl:c=(s.1.idxOf (x/4):Nat):=by simpa using hat2
  rw [HD.out.1,decide_eq_true HM.out]
  clear hat hat2 hwc hown hn0
  go_wp2_with fail
  refine bodyPost_ret (v:=.agg #[.int .i64 3, .int .i64 (s.1.idxOf (x/4):Nat)]) (by simp [results,Tryz.results65,go_sem]) rfl ?_
  refine ⟨by rw [HE.out];rfl,?_⟩
  rw [HE.out]
  exact VwTo.refl HV.out ((Kz w).alloc _)
 ·have HE:=Hz (show valM O.gr n (valO x) s=(((decW x).1,(decW x).2.1),s) by rw [valM_plain O.gr n s (valO_kind h1),valO_plain h1])
  have H1:=Hz h1;have HX:=Hz hx
  clear V h1 hm hx
  go_enter Tryz.func65,Tryz.ntmps65
  go_wp2_with fail
  refine (At_no x _ H1.out).mono ?_
  rintro e w1 ⟨rfl,rfl⟩
  go_wp2_with fail
  refine (Decode_c x _ HX.out.1 HX.out.2).mono ?_
  rintro e w1 ⟨rfl,hk⟩
  have hka:=(Kz w).alloc (.cells #[.int .i64 0, .int .i64 0] 96)
  have HKA:=Hz (hka.trans hk)
  have l0:=(hk.blk (show Blk (w.alloc (.cells #[.int .i64 0, .int .i64 0] 96)) w.heap.size [.int .i64 0, .int .i64 0] 96 from Blk.newAt _ rfl rfl) (fun h=>h))
  have L0:=Hz l0
  clear hka hk l0
  obtain ⟨⟨dk,dn,dc⟩,hd⟩:∃ t,decW x=t:=⟨_,rfl⟩
  rw [hd] at HE ⊢
  clear hd
  dsimp only at HE ⊢
  have l0:=L0.out.cell 0;have l1:=L0.out.cell 1;have ll:=L0.out.lt;have f0:=L0.out.free 0;have f1:=L0.out.free 1
  simp only [List.getElem?_cons_zero,List.getElem?_cons_succ] at l0 l1
  go_wp2_with fail
  have hb2:=((L0.out.setSame 0 (.int .i64 dk)).setSame 1 (.int .i64 dn)).alloc (.cells #[.int .i64 dk, .int .i64 dn] 96)
  have x0:=hb2.cell 0;have x1:=hb2.cell 1
  simp only [List.set_cons_zero,List.set_cons_succ,List.getElem?_cons_zero,List.getElem?_cons_succ] at x0 x1
  refine bodyPost_ret (v:=.agg #[.int .i64 dk, .int .i64 dn]) (by simp [results,Tryz.results65,go_sem,x0,x1]) rfl ?_
  refine ⟨by rw [HE.out],?_⟩
  rw [HE.out]
  exact VwTo.refl HV.out (((HKA.out.setCell (p:=⟨w.heap.size,0,none⟩) (.inr (Nat.le_refl _)) _).setCell (p:=⟨w.heap.size,1,none⟩) (.inr (Nat.le_refl _)) _).alloc _)
structure InNode (w:World) (q:Nat) (h:WH) (O:Wo) (b:Nat) (rv nv:Value) (F:Nat→Prop) (s:VS) (lv:Value) (l:List Vl) (wr:World) (nv':Value) (F':Nat→Prop):Prop where
 V:VwAt wr q h O b rv nv' F' s
 K:Keeps (VwFp q b nv) w wr
 o1:∀ k,ownB nv' k→ownB nv k∨w.heap.size≤k
 o2:∀ k,F' k→F k∨w.heap.size≤k
 L:Sl wr 96 2 lv l.length (entV l)
 o3:∀ k,ownB lv k→w.heap.size≤k∧¬ F' k
theorem InNode.lv_ne {lv:Value} {l:List Vl} {wr:World} {nv':Value} {F':Nat→Prop} (I:InNode w q h O b rv nv F s lv l wr nv' F') {k:Nat} (hk:ownB lv k):¬ VwFp q b nv' k∧¬ h.Own k:=by
 obtain ⟨_,c,hc⟩:=I.L.own hk
 constructor
 ·rintro (rfl | rfl | h1)
  ·exact hc.ne I.V.hq (by decide) rfl
  ·exact I.V.hm.ne hc rfl
  ·obtain ⟨_,c',hc'⟩:=I.V.hn.own h1
   exact hc.ne hc' (by decide) rfl
 ·intro h1
  obtain ⟨c',T,hc',hT⟩:=I.V.hw.own_type h1
  rcases hT with rfl | rfl | rfl | rfl | rfl | rfl | rfl <;> exact hc.ne hc' (by decide) rfl
theorem InNode.told {lv:Value} {l:List Vl} {wr w2:World} {nv':Value} {F':Nat→Prop} {s2:VS} (I:InNode w q h O b rv nv F s lv l wr nv' F') (t:VwTo wr q h O b rv nv' F' s2 w2):∃ nv2 F2,InNode w q h O b rv nv F s2 lv l w2 nv2 F2:=by
 obtain ⟨nv2,F2,V2,k2,p1,p2⟩:=t
 refine ⟨nv2,F2,V2,I.K.then k2 (fun j hj=>?_),fun j hj=>?_,fun j hj=>?_,I.L.keep k2 (fun j hj=>(I.lv_ne hj).1),fun j hj=>⟨(I.o3 j hj).1,fun hf=>?_⟩⟩
 ·rcases hj with rfl | rfl | hj
  ·exact .inl (.inl rfl)
  ·exact .inl (.inr (.inl rfl))
  ·rcases I.o1 j hj with h | h
   ·exact .inl (.inr (.inr h))
   ·exact .inr h
 ·rcases p1 j hj with h | h
  ·exact I.o1 j h
  ·exact .inr (Nat.le_trans I.K.size h)
 ·rcases p2 j hj with h | h
  ·exact I.o2 j h
  ·exact .inr (Nat.le_trans I.K.size h)
 ·rcases p2 j hf with h | h
  ·exact (I.o3 j hj).2 h
  ·have:=(I.L.own hj).1;omega
theorem InNode.app {lv:Value} {l:List Vl} {wr wa w2:World} {nv' lv2:Value} {F':Nat→Prop} {v:Vl} (I:InNode w q h O b rv nv F s lv l wr nv' F') (ka:Keeps (fun _=>False) wr wa)
  (hs:Sl w2 96 2 lv2 (l.length+1) (entV l ++ [.int .i64 v.1, .int .i64 v.2])) (hk:Keeps (ownB lv) wa w2) (ho:∀ k,ownB lv2 k→ownB lv k∨wa.heap.size≤k):InNode w q h O b rv nv F s lv2 (l ++ [v]) w2 nv' F':=by
 have k2:=(ka.mono (T:=ownB lv) (fun _ _ h=>h.elim)).trans hk
 refine ⟨I.V.keep k2 (fun j hj hl=>(I.lv_ne hl).1 hj) (fun j hj hl=>(I.lv_ne hl).2 hj) (fun j hj hl=>(I.o3 j hl).2 hj),I.K.then k2 (fun j hj=>.inr (I.o3 j hj).1),I.o1,I.o2,?_,fun j hj=>?_⟩
 ·have e:entV (l ++ [v])=entV l ++ [.int .i64 v.1, .int .i64 v.2]:=by simp [entV]
  rw [e,List.length_append];exact hs
 ·rcases ho j hj with h1 | h1
  ·exact I.o3 j h1
  ·have:=ka.size;have:=I.K.size
   exact ⟨by omega,fun hf=>by have:=(I.V.hF j hf).1;omega⟩
theorem InNode.same {lv:Value} {l:List Vl} {wr w2:World} {nv':Value} {F':Nat→Prop} (I:InNode w q h O b rv nv F s lv l wr nv' F') (k:Keeps (fun _=>False) wr w2):InNode w q h O b rv nv F s lv l w2 nv' F':=
 ⟨I.V.same k,I.K.trans (k.mono (fun _ _ h=>h.elim)),I.o1,I.o2,I.L.keep k (fun _ _ h=>h),I.o3⟩
theorem VwAt.push {x:Int} {kd:Int} {wm wa w2:World} {nv2:Value} (V:VwAt w q h O b rv nv F s) (hm:SeenAt wm b (s.1 ++ [x])) (km:Keeps (·=b) w wm) (ka:Keeps (fun _=>False) wm wa)
  (cs:List Value) (hcs:RowsC 2 (NodeRow w F) s.2 cs)
  (hs:Sl w2 139 2 nv2 (s.2.length+1) (cs ++ [.int .i64 kd, .slice none 0 0])) (hk:Keeps (ownB nv) wa w2) (ho:∀ k,ownB nv2 k→ownB nv k∨wa.heap.size≤k) :
  VwTo w q h O b rv nv F (s.1 ++ [x],s.2 ++ [(kd,[])]) (w2.setCell ⟨q,3,none⟩ nv2):=by
 have K1:Keeps (VwFp q b nv) w w2:=((km.mono (fun j _ hj=>.inr (.inl hj))).trans (ka.mono (fun _ _ h=>h.elim))).trans (hk.mono (fun j _ hj=>.inr (.inr hj)))
 have K2:=K1.setCell (p:=⟨q,3,none⟩) (.inl (.inl rfl)) nv2
 have hsz:=km.size;have hsz2:=ka.size;have hsz3:=hk.size
 have nq:¬ ownB nv q:=fun hq=>by obtain ⟨_,c,hc⟩:=V.hn.own hq;exact V.hq.ne hc (by decide) rfl
 have nb:¬ ownB nv b:=fun hq=>by obtain ⟨_,c,hc⟩:=V.hn.own hq;exact V.hm.ne hc rfl
 have qb:q≠b:=V.hm.ne V.hq
 have hq2:=hk.blk (ka.blk (km.blk V.hq qb) (fun h=>h)) nq
 have ne2:∀ k,ownB nv2 k→k≠q:=fun k hk2 e=>by
  obtain ⟨_,c,hc⟩:=hs.own hk2
  exact hc.ne hq2 (by decide) e
 have setk:=(Keeps.refl (·=q) w2).setCell (p:=⟨q,3,none⟩) (.inl rfl) nv2
 refine ⟨nv2,F,⟨by simpa using hq2.setSame 3 nv2,V.hw.keep K2 (fun j hj=>V.wood_apart hj),?_,⟨_,by rw [List.length_append];exact hs.keep setk ne2,?_⟩,by simp [V.hl],fun j hj=>⟨?_,?_⟩⟩,K2,fun j hj=>?_,fun j hj=>.inl hj⟩
 ·exact (hm.keep (ka.mono (T:=ownB nv) (fun _ _ h=>h.elim) |>.trans hk) nb).keep setk (Ne.symm qb)
 ·refine RowsC.app (hcs.mono (fun a _ r hr=>hr.keep K2 (fun j hj _=>(V.hF j hj).2))) rfl ?_
  exact ⟨none,0,rfl,Rd.nil _ _,(fun a ha=>by cases ha),Nat.zero_le _⟩
 ·have:=(V.hF j hj).1;have:=K2.size;omega
 ·rintro (e | e | e)
  ·exact (V.hF j hj).2 (.inl e)
  ·exact (V.hF j hj).2 (.inr (.inl e))
  ·rcases ho j e with h1 | h1
   ·exact (V.hF j hj).2 (.inr (.inr h1))
   ·have:=(V.hF j hj).1;omega
 ·rcases ho j hj with h1 | h1
  ·exact .inl h1
  ·exact .inr (by omega)
theorem InNode.done {lv:Value} {l:List Vl} {wr:World} {nv':Value} {F':Nat→Prop} {kd:Int} {n:Nat} {g o cap:Nat} {ao:Option Addr} {lc:Nat} (hlv:lv=.slice ao l.length lc) (I:InNode w q h O b rv nv F s lv l wr nv' F')
  (hnv:nv'=.slice (some ⟨g,o,none⟩) s.2.length cap) (hn:s.2[n]? = some (kd,[])):VwTo w q h O b rv nv F (s.1,s.2.set n (kd,l)) (wr.setCell ⟨g,o+n*2+1,none⟩ lv):=by
 subst hnv hlv
 have hlt:n<s.2.length:=(List.getElem?_eq_some_iff.1 hn).1
 have hgo:ownB (.slice (some ⟨g,o,none⟩) s.2.length cap) g:=rfl
 have hne:=fun k hk=>I.lv_ne (k:=k) hk
 have setk:=(Keeps.refl (·=g) wr).setCell (p:=⟨g,o+n*2+1,none⟩) (.inl rfl) (.slice ao l.length lc)
 have K2:Keeps (VwFp q b nv) w (wr.setCell ⟨g,o+n*2+1,none⟩ (.slice ao l.length lc)):=I.K.setCell (p:=⟨g,o+n*2+1,none⟩) (by
  rcases I.o1 g hgo with h1 | h1
  ·exact .inl (.inr (.inr h1))
  ·exact .inr h1) _
 obtain ⟨cs,hs,hr⟩:=I.V.hn
 have hgq:¬ q=g:=fun e=>by
  obtain ⟨_,c,hc⟩:=hs.own hgo
  exact I.V.hq.ne hc (by decide) e
 have hgb:¬ b=g:=fun e=>by
  obtain ⟨_,c,hc⟩:=hs.own hgo
  exact I.V.hm.ne hc e.symm
 obtain ⟨ao',cap',e1,hrd,hcm,hnc⟩:=I.L.rd
 cases e1
 have hlF:∀ k,ownB (.slice ao l.length lc) k→¬ k=g:=fun k hk e=>by
  subst e
  exact (hne _ hk).1 (.inr (.inr hgo))
 refine ⟨.slice (some ⟨g,o,none⟩) s.2.length cap,fun k=>F' k∨ownB (.slice ao l.length lc) k,⟨setk.blk I.V.hq hgq,I.V.hw.keep setk (fun j hj e=>?_),I.V.hm.keep setk hgb,?_,by simp [I.V.hl],fun j hj=>?_⟩,K2,I.o1,fun j hj=>?_⟩
 ·subst e;exact I.V.wood_apart hj (.inr (.inr hgo))
 ·have hsl:(s.2.set n (kd,l)).length=s.2.length:=by simp
  refine ⟨cs.set (n*2+1) (.slice ao l.length lc),?_,?_⟩
  ·rw [hsl]
   exact hs.set (j:=n*2+1) (by omega)
  ·have hr':RowsC 2 (NodeRow (wr.setCell ⟨g,o+n*2+1,none⟩ (.slice ao l.length lc)) (fun k=>F' k∨ownB (.slice ao l.length lc) k)) s.2 cs:=
    hr.mono (fun a _ r h1=>(h1.keep setk (fun j hj _ e=>by subst e;exact (I.V.hF j hj).2 (.inr (.inr hgo)))).more (fun j hj=>.inl hj))
   refine RowsC.setCell hlt (by decide) hr' (fun r h2 h3=>?_)
   have e2:s.2[n]=(kd,[]):=by rw [List.getElem?_eq_getElem hlt] at hn;exact Option.some.inj hn
   rw [e2] at h3
   obtain ⟨_,_,rfl,-⟩:=h3
   refine ⟨ao,lc,rfl,hrd.keep setk (fun a ha _ e=>?_),fun a ha=>.inr ?_,hcm⟩
   ·subst ha;exact hlF a.block rfl e
   ·subst ha;rfl
 ·rcases hj with hj | hj
  ·exact ⟨Nat.lt_of_lt_of_le (I.V.hF j hj).1 setk.size,(I.V.hF j hj).2⟩
  ·exact ⟨Nat.lt_of_lt_of_le (I.L.own hj).1 setk.size,(hne j hj).1⟩
 ·rcases hj with hj | hj
  ·exact I.o2 j hj
  ·exact .inr (I.o3 j hj).1
end
end
section
open Go.RowKit Go.Maps
theorem info_parts1 {T:TypeId} {z:Option Value} {s b:Nat} (h:(Tryz.prog.info? T).map (fun i=>(i.zero,i.size,i.bytes))=some (z,s,b)):∃ i,Tryz.prog.info? T=some i∧i.zero=z∧i.size=s∧i.bytes=b:=by
 cases hx:Tryz.prog.info? T with
 | none=>rw [hx] at h;cases h
 | some i=>rw [hx] at h;simp at h;exact ⟨i,rfl,h.1,h.2.1,h.2.2⟩
theorem info_node:(Tryz.prog.info? 139).map (fun i=>(i.zero,i.size,i.bytes))=some (some (.agg #[.int .i64 0, .slice none 0 0]),2,32):=by kernel_rfl
theorem info_val:(Tryz.prog.info? 96).map (fun i=>(i.zero,i.size,i.bytes))=some (some (.agg #[.int .i64 0, .int .i64 0]),2,16):=by kernel_rfl
section
variable {h:WH} {O:Wo} {q b:Nat} {rv:Value}
def ValOk (h:WH) (O:Wo) (q b:Nat) (rv:Value) (n:Nat):Prop:=∀ (x:Int) (nv:Value) (F:Nat→Prop) (s:VS) (w:World),VwAt w q h O b rv nv F s→R64 x→(x%4=1→x/4 ∈ O.univ)→unM O.univ s.1≤n→s.1.length+unM O.univ s.1≤5000 →
 Calls Tryz.prog 65 #[.pointer (some ⟨q,0,none⟩), .int .i64 x] w fun e w'=>ValRet w q h O b rv nv F (valM O.gr n (valO x) s) e w'
def NS (G:Gr) (n:Nat) (x:Int) (s:VS) (j:Nat):List Vl × VS:=fldM (valM G n) ((G x).2.take j) (s.1 ++ [x],s.2 ++ [((G x).1,[])])
theorem NS_zero (G:Gr) (n:Nat) (x:Int) (s:VS):NS G n x s 0=([],(s.1 ++ [x],s.2 ++ [((G x).1,[])])):=rfl
theorem NS_step (G:Gr) (n:Nat) (x:Int) (s:VS) {j:Nat} {v:Vl} (h:(G x).2[j]? = some v):NS G n x s (j+1)=((NS G n x s j).1 ++ [(valM G n v (NS G n x s j).2).1],(valM G n v (NS G n x s j).2).2):=by
 unfold NS
 rw [List.take_add_one,h,Option.toList_some,fldM_app]
 rfl
theorem NS_len (G:Gr) (n:Nat) (x:Int) (s:VS) {j:Nat} (h:j≤(G x).2.length):(NS G n x s j).1.length=j:=by
 unfold NS;rw [fldM_len,List.length_take];omega
theorem NS_un {O:Wo} (hO:O.ok) {n:Nat} {x:Int} {s:VS} (hx:x ∈ O.univ) (j:Nat) (h:unM O.univ (s.1 ++ [x])≤n) (hc:(s.1 ++ [x]).length+unM O.univ (s.1 ++ [x])≤5000) :
  unM O.univ (NS O.gr n x s j).2.1≤n∧(NS O.gr n x s j).2.1.length+unM O.univ (NS O.gr n x s j).2.1≤5000:=by
 have I:=Wo.inU hO
 unfold NS
 obtain ⟨m,hm⟩:=fldM_pre (valM_pre O.gr n) ((O.gr x).2.take j) (s.1 ++ [x],s.2 ++ [((O.gr x).1,[])])
 have h1:=unM_app O.univ (s.1 ++ [x]) m
 have h2:=fldM_count (f:=valM O.gr n) (U:=O.univ) (valM_count I n) ((O.gr x).2.take j) (s.1 ++ [x],s.2 ++ [((O.gr x).1,[])]) (fun v hv=>I.shut x hx v (List.mem_of_mem_take hv))
 rw [hm] at h2 ⊢
 dsimp only at h2 ⊢
 exact ⟨by omega,by omega⟩
theorem gr_field {O:Wo} {x:Int} {j:Nat} (h:j<(O.ar.thing x).2.1.toNat):(O.gr x).2[j]? = some (valO (O.ar.load (x+1+j))):=by
 unfold Wo.gr
 dsimp only
 rw [List.getElem?_append_left (by simp [Ar.fields];omega),List.getElem?_map]
 unfold Ar.fields
 rw [List.getElem?_map,List.getElem?_range h]
 rfl
theorem gr_wait {O:Wo} {x:Int} {j:Nat} (hk:(O.ar.thing x).1=5) (h:j<(waitO O.wt (4*x+1)).length):(O.gr x).2[(O.ar.thing x).2.1.toNat+j]? = some (valO ((waitO O.wt (4*x+1)).getD j 0)):=by
 have e:((O.ar.fields x).map valO).length=(O.ar.thing x).2.1.toNat:=by simp [Ar.fields]
 unfold Wo.gr
 dsimp only
 rw [if_pos hk,List.getElem?_append_right (by rw [e];omega),e,show (O.ar.thing x).2.1.toNat+j-(O.ar.thing x).2.1.toNat=j by omega,List.getElem?_map,List.getElem?_eq_getElem h]
 simp [List.getD,h]
theorem gr_len {O:Wo} {x:Int}:(O.gr x).2.length=(O.ar.thing x).2.1.toNat+if (O.ar.thing x).1=5 then (waitO O.wt (4*x+1)).length else 0:=by
 unfold Wo.gr
 simp only [List.length_append,List.length_map,Ar.fields,List.length_range]
 split <;> simp
theorem NS_keep (G:Gr) (n:Nat) (x:Int) (s:VS) (j:Nat) (hl:s.2.length=s.1.length):(NS G n x s j).2.2[s.1.length]? = some ((G x).1,[]):=by
 unfold NS
 rw [fldM_keepN (valM_nodes G n) (valM_pre G n) (valM_keepN G n) _ _ (by simp [hl]) s.1.length (by simp)]
 simp [←hl]
theorem thing_guard {A:Ar} {x:Int} (h:(A.thing x).1=5):(A.thing x).2.1=0∧(A.thing x).2.2=0:=by
 unfold Ar.thing partsW at *
 split at h
 ·rename_i hf
  rw [if_pos hf]
  dsimp only at h ⊢
  rw [h] at hf
  simp [fitsW] at hf
  exact ⟨hf,rfl⟩
 ·cases h
theorem node_c (n:Nat) (ih:ValOk h O q b rv n) (x:Int) (nv:Value) (F:Nat→Prop) (s:VS) (w:World) (V:VwAt w q h O b rv nv F s) (x0:-2305843009213693952≤x) (x1:x≤2305843009213693951) (hx:x ∈ O.univ) (hm:¬ x ∈ s.1)
  (hu:unM O.univ s.1≤n+1) (hc:s.1.length+unM O.univ s.1≤5000) :
  Calls Tryz.prog 130 #[.pointer (some ⟨q,0,none⟩), .int .i64 x] w fun e w'=>NodeRet w q h O b rv nv F s.1.length (valM O.gr (n+1) (3,x) s).2 e w':=by
 have HV:=Hz V
 have HNEW:=Hz (valM_new O.gr n (v:=(3,x)) rfl hm)
 have HM:=Hz hm;have HX:=Hz hx
 have hp:=unM_push hx hm
 have HU:=Hz (show unM O.univ (s.1 ++ [x])≤n by omega)
 have HC:=Hz (show (s.1 ++ [x]).length+unM O.univ (s.1 ++ [x])≤5000 by rw [List.length_append];simp;omega)
 have hl5:s.1.length≤5000:=by omega
 obtain ⟨ni,hi,hz0,hz1,hz2⟩:=info_parts1 info_node
 have Ni:=Hz hi;have Nz0:=Hz hz0;have Nz1:=Hz hz1;have Nz2:=Hz hz2;clear hi hz0 hz1 hz2
 obtain ⟨vi,hi,hz0,hz1,hz2⟩:=info_parts1 info_val
 have Vi:=Hz hi;have Vz0:=Hz hz0;have Vz1:=Hz hz1;have Vz2:=Hz hz2;clear hi hz0 hz1 hz2
 obtain ⟨cs,hsl,hcs⟩:=V.hn
 obtain ⟨no,nc,rfl,-,hnm,-⟩:=hsl.rd
 have HSL:=Hz hsl;have HCS:=Hz hcs
 have HLL:=Hz V.hl
 have hs5:s.2.length≤5000:=by rw [V.hl];exact hl5
 obtain ⟨n0,D,hown,hn0,hD⟩:=V.hm
 have c3:=V.hq.cell 3;have cl:=V.hq.lt;have c1:=V.hq.cell 1;have c0:=V.hq.cell 0
 simp only [List.getElem?_cons_zero,List.getElem?_cons_succ] at c3 c1 c0
 have HD:=Hz hD
 clear V hm hp hu hc hsl hcs hD hnm
 go_enter Tryz.func130,Tryz.ntmps130
 go_wp2_with (at_mapUpdate;refine wpList_mapUpdate_own _ rfl _ _ _ 116 rfl 3 3 key_int Tryz.underlying116 _ b n0 D rfl hown (by unfold maxLen;omega) _ _ _ rfl rfl (keyOf_int_mk Tryz.underlying3 (WalkArith.wf_i64 (by constructor <;> omega))) _ [] (plainElem_int Tryz.underlying3 (WalkArith.wf_i64 (by constructor <;> omega))) ?_)
 intro wm hown1 hgrow
 have hsee:=SeenAt.push (w:=w) (w':=wm) hown hn0 HD.out HM.out (by rw [←HLL.out];exact hown1)
 have KM:=Hz (grown_keeps hgrow);have HSEE:=Hz hsee
 have Wm:=HV.out.hw.keep KM.out (fun j hj e=>HV.out.wood_apart hj (.inr (.inl e)))
 have HWM:=Hz Wm
 have hqm:=KM.out.blk HV.out.hq (HV.out.hm.ne HV.out.hq)
 have HQM:=Hz hqm
 have c3:=hqm.cell 3;have cl:=hqm.lt;have c0:=hqm.cell 0
 simp only [List.getElem?_cons_zero,List.getElem?_cons_succ] at c3 c0
 obtain ⟨d0,-,d2,-⟩:=Wm.ptrs
 have dl:=Wm.hp.lt
 clear hown hown1 hgrow hn0 hsee Wm hqm c1
 go_wp2_with fail
 refine (Thing_c x _ HWM.out.ha).mono ?_
 rintro e w2 ⟨rfl,rfl⟩
 obtain ⟨⟨kd,nf,kc⟩,hT⟩:∃ t,O.ar.thing x=t:=⟨_,rfl⟩
 have HT:=Hz hT
 have hnf:=O.ar.thing_fields x
 rw [hT] at hnf ⊢
 dsimp only at hnf ⊢
 clear hT
 go_wp2_with (at_builtin;refine wpList_app rfl (.tmp 43) (.tmp 46) 39 rfl 139 ni (.agg #[.int .i64 0, .slice none 0 0]) 2 32 Tryz.underlying39 Ni.out Nz0.out Nz1.out Nz2.out rfl (by decide) _ s.2.length cs rfl ((HSL.out.keep KM.out (fun j hj e=>by subst e;obtain ⟨_,c,hc⟩:=HSL.out.own hj;exact HV.out.hm.ne hc rfl)).keep ((Kz wm).alloc _) (fun _ _ h=>h)) ⟨wm.heap.size,0,none⟩ 1 1 [.int .i64 kd, .slice none 0 0] rfl rfl (news_at wm 139 #[.int .i64 kd, .slice none 0 0]) (by intro u hu;simp at hu;rcases hu with rfl | rfl <;> rfl) (by unfold maxLen;omega) (by omega) ?_)
 intro v2 w2 hs2 hk2 ho2
 have hka:=(Kz wm).alloc (.cells #[.int .i64 kd, .slice none 0 0] 139)
 have HT2:=Hz (HV.out.push (x:=x) (kd:=kd) HSEE.out KM.out hka cs HCS.out hs2 hk2 (by simpa using ho2))
 have nq:¬ ownB (.slice no s.2.length nc) q:=fun hq=>by obtain ⟨_,c,hc⟩:=HSL.out.own hq;exact HV.out.hq.ne hc (by decide) rfl
 have hq2:=hk2.blk (hka.blk HQM.out (fun h=>h)) nq
 have x3:=hq2.cell 3;have xl:=hq2.lt;have xf:=hq2.free 3
 simp only [List.getElem?_cons_zero,List.getElem?_cons_succ] at x3
 obtain ⟨vo2,vc2,rfl,-,-,-⟩:=hs2.rd
 clear hs2 hk2 ho2 hka nq hq2 c3 c0 cl d0 d2 dl
 go_wp2_with fail
 have HI:=Hz (show ∃ nv1 F1,InNode w q h O b rv (.slice no s.2.length nc) F (s.1 ++ [x],s.2 ++ [(kd,[])]) (.slice none 0 0) [] (w2.setCell ⟨q,3,none⟩ (.slice vo2 (s.2.length+1) vc2)) nv1 F1 by
  obtain ⟨nv1,F1,V1,k1,p1,p2⟩:=HT2.out
  exact ⟨nv1,F1,V1,k1,p1,p2,Sl.nil _ _ _,fun k hk=>(nil_own hk).elim⟩)
 clear HT2 x3 xl xf
 generalize w2.setCell ⟨q,3,none⟩ (.slice vo2 (s.2.length+1) vc2)=w3 at *
 have hkd:(O.gr x).1=kd:=by show (O.ar.thing x).1=kd;rw [HT.out]
 have HNF:=Hz (show ∀ j:Nat,(j:Int)<nf→(O.gr x).2[j]? = some (valO (O.ar.load (x+1+j))) from fun j hj=>gr_field (by rw [HT.out];dsimp only;omega))
 have HLEN:=Hz (show (O.gr x).2.length=nf.toNat+if kd=5 then (waitO O.wt (4*x+1)).length else 0 by rw [gr_len,HT.out])
 have HKP:=Hz (fun j=>NS_keep O.gr n x s j HLL.out)
 have HUN:=Hz (fun j=>NS_un HV.out.hw.ok HX.out j HU.out HC.out)
 obtain ⟨f,rfl⟩:∃ f:Nat,nf=f:=⟨nf.toNat,by omega⟩
 have HI0:=Hz (show ∃ nv1 F1,InNode w q h O b rv (.slice no s.2.length nc) F (NS O.gr n x s 0).2 (.slice none 0 0) (NS O.gr n x s 0).1 w3 nv1 F1 by rw [NS_zero,hkd];exact HI.out)
 have HKD:=Hz hkd
 clear HI hkd
 have ih':=Hz ih
 go_loopw [9,52] (fun lv i wr=>∃ (j:Nat) (nv1:Value) (F1:Nat→Prop),j≤f∧i=.int .i64 j∧InNode w q h O b rv (.slice no s.2.length nc) F (NS O.gr n x s j).2 lv (NS O.gr n x s j).1 wr nv1 F1) (fun _ i _=>f-(intOf i).toNat)
 case atStart=>
  obtain ⟨nv1,F1,hI⟩:=HI0.out
  exact ⟨0,nv1,F1,Nat.zero_le _,rfl,hI⟩
 case round=>
  clear HI0
  obtain ⟨j,nv1,F1,hj,rfl,hI⟩:=hrel
  have HI:=Hz hI
  by_cases hlt:j<f
  ·have HST:=Hz (NS_step O.gr n x s (HNF.out j (by omega)))
   have hjl:=NS_len O.gr n x s (j:=j) (by rw [HLEN.out];omega)
   have HJL:=Hz hjl
   have c0:=hI.V.hq.cell 0;have cl:=hI.V.hq.lt
   obtain ⟨d0,-,-,-⟩:=hI.V.hw.ptrs
   have dl:=hI.V.hw.hp.lt
   simp only [List.getElem?_cons_zero,List.getElem?_cons_succ] at c0
   obtain ⟨lo,lc,rfl,-,-,-⟩:=hI.L.rd
   rw [hjl] at HI ⊢
   clear hI hjl
   go_wp2_with fail
   refine (Load_c (x+1+j) _ HI.out.V.hw.ha).mono ?_
   rintro e w4 ⟨rfl,rfl⟩
   have HLR:=Hz (HV.out.hw.ok.ha.load (x+1+j))
   have HLU:=Hz (Wo.univ_load HV.out.hw.ok (x+1+j))
   generalize O.ar.load (x+1+j)=y at *
   go_wp2_with fail
   refine (ih'.out y nv1 F1 _ _ HI.out.V HLR.out (fun _=>HLU.out) (HUN.out j).1 (HUN.out j).2).mono ?_
   rintro e w4 ⟨rfl,ht⟩
   obtain ⟨nv2,F2,hI2⟩:=HI.out.told ht
   obtain ⟨⟨⟨r1,r2⟩,sr⟩,hr⟩:∃ t,valM O.gr n (valO y) (NS O.gr n x s j).2=t:=⟨_,rfl⟩
   rw [hr] at hI2 HST ⊢
   dsimp only at hI2 HST ⊢
   have HI2:=Hz hI2
   have HL2:=Hz (show Sl w4 96 2 (.slice lo j lc) j (entV (NS O.gr n x s j).1) by have:=hI2.L;rw [HJL.out] at this;exact this)
   clear hI2 ht c0 cl d0 dl hr
   go_wp2_with (at_builtin;refine wpList_app rfl (.tmp 55) (.tmp 70) 38 rfl 96 vi (.agg #[.int .i64 0, .int .i64 0]) 2 16 Tryz.underlying38 Vi.out Vz0.out Vz1.out Vz2.out rfl (by decide) _ j (entV (NS O.gr n x s j).1) rfl (HL2.out.keep ((Kz w4).alloc _) (fun _ _ h=>h)) ⟨w4.heap.size,0,none⟩ 1 1 [.int .i64 r1, .int .i64 r2] rfl rfl (news_at w4 96 #[.int .i64 r1, .int .i64 r2]) (by intro u hu;simp at hu;rcases hu with rfl | rfl <;> rfl) (by unfold maxLen;omega) (by omega) ?_)
   intro v5 w5 hs5 hk5 ho5
   have HI5:=Hz (HI2.out.app (v:=(r1,r2)) ((Kz w4).alloc _) (by rw [HJL.out];exact hs5) hk5 (by simpa using ho5))
   clear hs5 hk5 ho5
   go_wp2_with fail
   go_roundw
   case rel=>exact ⟨j+1,nv2,F2,by omega,by go_num,by rw [HST.out];exact HI5.out⟩
   case measure=>simp [intOf];omega
  ·obtain rfl:j=f:=by omega
   clear hlt hj
   by_cases hk5:kd=5
   ·subst hk5
    have hg:=thing_guard (A:=O.ar) (x:=x) (by rw [HT.out])
    rw [HT.out] at hg
    dsimp only at hg
    obtain rfl:j=0:=by omega
    obtain rfl:kc=0:=hg.2
    have hux:=HV.out.hw.ok.ha.use_lt (O.ar.thing_use (i:=x) (by rw [HT.out]))
    have h4:=HV.out.hw.ok.ha.h4
    rw [if_pos rfl] at HLEN
    have HGW:=Hz (fun (j:Nat) (hj:j<(waitO O.wt (4*x+1)).length)=>by have:=gr_wait (O:=O) (x:=x) (by rw [HT.out]) hj;rw [HT.out] at this;exact this)
    have hwl:(waitO O.wt (4*x+1)).length≤24:=by have h1:=atG_le (4*x+1) O.wt;have h2:=HV.out.hw.ok.hq;unfold waitO;unfold atG at h1;omega
    have hgl:O.rg.length≤1000000:=by have h2:=HV.out.hw.ok.hq;omega
    have hwl2:O.wt.length≤1000000:=by have h2:=HV.out.hw.ok.hq;omega
    have c0:=hI.V.hq.cell 0;have cl:=hI.V.hq.lt
    obtain ⟨-,-,d2,-⟩:=hI.V.hw.ptrs
    have dl:=hI.V.hw.hp.lt
    simp only [List.getElem?_cons_zero,List.getElem?_cons_succ] at c0
    clear hg hI
    go_wp2_with fail
    refine wp_region_ro (.free 0 (.free 1 (.free 2 (.free 7 (.free 11 (.pure 3 (.free 4 (.free 5 (.pure 6 (.run 8 (.run 9 (.swi [] (.free 10 (.fin)))))))))))))) [9,10] (fun w'=>w'.cell? ⟨q,0,none⟩=some (.pointer (some ⟨h.p,0,none⟩))∧w'.cell? ⟨h.p,2,none⟩=some (.pointer (some ⟨h.ps,0,none⟩))) (by kernel_rfl) (by kernel_rfl) ⟨c0,d2⟩ ?_
    iterate 9 first | (refine wpRO_free rfl rfl _ (fun w'=>by go_simp;exact Gives.mk _ _) (fun K hK=>?_);go_simp;refine hK _ ?_;clear hK K) | (refine wpRO_skipF rfl rfl (fun K hK=>?_);go_simp;refine hK _ ?_;clear hK K) | (refine wpRO_pure rfl rfl _ (fun w' hG=>by obtain ⟨g0,g2⟩:=hG;exact gives_agg2 rfl (by decide +kernel) rfl (by assumption) (by assumption)) (fun K hK=>?_);go_simp;refine hK _ ?_;clear hK K) | (refine wpRO_pure rfl rfl _ (fun w' hG=>by obtain ⟨g0,g2⟩:=hG;go_simp;exact Gives.mk _ _) (fun K hK=>?_);go_simp;refine hK _ ?_;clear hK K) | (refine wpRO_skip rfl rfl (fun K hK=>?_);go_simp;refine hK _ ?_;clear hK K)
    refine wpRO_run rfl rfl (fun K hK=>?_);unfold gRun;go_simp
    refine (Ref_c x _ (by omega) (by omega)).mono ?_
    rintro e w4 ⟨rfl,rfl⟩
    refine hK _ _ (fun h=>h) ?_
    clear hK K
    refine wpRO_chg rfl rfl rfl (fun K hK=>?_);unfold gRun;go_simp
    refine (At_c h.ps _ _ _ _ (4*x+1) _ (HI.out.same (Kz wr).drew).V.hw.hs hwl2).mono ?_
    rintro e w4 ⟨ao,ac,rfl,hs4,hk4,ho4⟩
    have hI4:=HI.out.same ((Kz wr).drew.trans hk4)
    have HI4:=Hz hI4;have HS4:=Hz hs4
    have HO4:Hid (∀ k,ownB (.slice ao (atG (4*x+1) O.wt).length ac) k→wr.heap.size≤k):=fun k hk=>ho4 k hk
    refine hK _ _ ?_
    clear hK K hs4 hk4 ho4 hI4 c0 cl d2 dl
    refine wpRO_swi (fun _=>True) trivial ?_
    iterate 1 first | (refine wpRO_free rfl rfl _ (fun w'=>by go_simp;exact Gives.mk _ _) (fun K hK=>?_);go_simp;refine hK _ ?_;clear hK K) | (refine wpRO_skipF rfl rfl (fun K hK=>?_);go_simp;refine hK _ ?_;clear hK K)
    refine wpRO_fin ?_
    have hLW:atG (4*x+1) O.wt=waitO O.wt (4*x+1):=rfl
    rw [hLW] at HS4 HO4 ⊢
    have HRW:=Hz (show ∀ y ∈ waitO O.wt (4*x+1),R64 y from fun y hy=>by
     unfold waitO at hy
     obtain ⟨e,he,rfl⟩:=List.mem_map.1 hy
     exact (HV.out.hw.ok.hw e (List.mem_filter.1 he).1).2)
    have HRU:=Hz (show ∀ y ∈ waitO O.wt (4*x+1),y/4 ∈ O.univ from fun y hy=>Wo.univ_wait hy)
    clear hLW
    generalize waitO O.wt (4*x+1)=L at *
    simp only [Int.toNat_natCast,Nat.zero_add] at HLEN HGW
    go_wp2_with fail
    go_loopw [9,86] (fun lv i wx=>∃ (j:Nat) (nv1:Value) (F1:Nat→Prop),j≤L.length∧i=.int .i64 j∧InNode w q h O b rv (.slice no s.2.length nc) F (NS O.gr n x s j).2 lv (NS O.gr n x s j).1 wx nv1 F1∧Sl wx 2 1 (.slice ao L.length ac) L.length (L.map (Value.int .i64))) (fun _ i _=>L.length-(intOf i).toNat)
    case atStart=>
     exact ⟨0,nv1,F1,Nat.zero_le _,rfl,HI4.out,HS4.out⟩
    case round=>
     clear HI HI4 HS4 HO4
     rename_i nv0 F0 _ _ _
     obtain ⟨j,nv1,F1,hj,rfl,hI,hsr⟩:=hrel
     have HI:=Hz hI;have HSR:=Hz hsr
     obtain ⟨_,_,e',hrd,-,-⟩:=hsr.rd
     cases e'
     clear hsr
     by_cases hlt:j<L.length
     ·have HST:=Hz (NS_step O.gr n x s (HGW.out j hlt))
      have hjl:=NS_len O.gr n x s (j:=j) (by rw [HLEN.out];omega)
      have HJL:=Hz hjl
      obtain ⟨lo,lc,rfl,-,-,-⟩:=hI.L.rd
      rw [hjl] at HI ⊢
      obtain ⟨gg,go,rfl,ggl,g0⟩:=hrd.int64 j hlt
      have HLR:=Hz (HRW.out (L.getD j 0) (by rw [List.getD_eq_getElem?_getD,List.getElem?_eq_getElem hlt];exact List.getElem_mem hlt))
      have HLU:=Hz (HRU.out (L.getD j 0) (by rw [List.getD_eq_getElem?_getD,List.getElem?_eq_getElem hlt];exact List.getElem_mem hlt))
      clear hI hjl hrd
      generalize L.getD j 0=y at *
      go_wp2_with fail
      refine (ih'.out y nv1 F1 _ _ HI.out.V HLR.out (fun _=>HLU.out) (HUN.out j).1 (HUN.out j).2).mono ?_
      rintro e w5 ⟨rfl,ht⟩
      have HSR5:=Hz (HSR.out.keep ht.choose_spec.choose_spec.2.1 (fun k hk=>by obtain ⟨_,c,hc⟩:=HSR.out.own hk;exact HI.out.V.fp_ne hc (by decide) (by decide)))
      obtain ⟨nv2,F2,hI2⟩:=HI.out.told ht
      obtain ⟨⟨⟨r1,r2⟩,sr⟩,hr⟩:∃ t,valM O.gr n (valO y) (NS O.gr n x s j).2=t:=⟨_,rfl⟩
      rw [hr] at hI2 HST ⊢
      dsimp only at hI2 HST ⊢
      have HI2:=Hz hI2
      have HL2:=Hz (show Sl w5 96 2 (.slice lo j lc) j (entV (NS O.gr n x s j).1) by have:=hI2.L;rw [HJL.out] at this;exact this)
      clear hI2 ht g0 ggl hr
      go_wp2_with (at_builtin;refine wpList_app rfl (.tmp 90) (.tmp 94) 38 rfl 96 vi (.agg #[.int .i64 0, .int .i64 0]) 2 16 Tryz.underlying38 Vi.out Vz0.out Vz1.out Vz2.out rfl (by decide) _ j (entV (NS O.gr n x s j).1) rfl (HL2.out.keep ((Kz w5).alloc _) (fun _ _ h=>h)) ⟨w5.heap.size,0,none⟩ 1 1 [.int .i64 r1, .int .i64 r2] rfl rfl (news_at w5 96 #[.int .i64 r1, .int .i64 r2]) (by intro u hu;simp at hu;rcases hu with rfl | rfl <;> rfl) (by unfold maxLen;omega) (by omega) ?_)
      intro v6 w6 hs6 hk6 ho6
      have HI6:=Hz (HI2.out.app (v:=(r1,r2)) ((Kz w5).alloc _) (by rw [HJL.out];exact hs6) hk6 (by simpa using ho6))
      have hka6:=(Kz w5).alloc (.cells #[.int .i64 r1, .int .i64 r2] 96)
      have HSR6:=Hz ((HSR5.out.keep hka6 (fun _ _ h=>h)).keep hk6 (fun k hk hk2=>by
       obtain ⟨_,c,hc⟩:=(HSR5.out.keep hka6 (fun _ _ h=>h)).own hk
       obtain ⟨_,c',hc'⟩:=(HL2.out.keep hka6 (fun _ _ h=>h)).own hk2
       exact hc.ne hc' (by decide) rfl))
      clear hs6 hk6 ho6 hka6
      go_wp2_with fail
      go_roundw
      case rel=>exact ⟨j+1,nv2,F2,by omega,by go_num,by rw [HST.out];exact HI6.out,HSR6.out⟩
      case measure=>simp [intOf];omega
     ·obtain rfl:j=L.length:=by omega
      clear hlt hj
      have HI9:=Hz hI
      obtain ⟨cs9,hs9,hr9⟩:=hI.V.hn
      have hlt9:s.1.length<(NS O.gr n x s L.length).2.2.length:=(List.getElem?_eq_some_iff.1 (HKP.out L.length)).1
      obtain ⟨g,o,cap9,cur,rfl,hb9,h91,h92,h93,h94⟩:=hs9.laid (by omega)
      have c3:=hI.V.hq.cell 3;have cl:=hI.V.hq.lt
      have g1:=hb9.cell (o+s.2.length*2+1);have gl:=hb9.lt;have gf:=hb9.free (o+s.2.length*2+1)
      have hs9l:s.2.length<(NS O.gr n x s L.length).2.2.length:=by rw [HLL.out];exact hlt9
      obtain ⟨u9,hu9⟩:∃ u,cur[o+s.2.length*2+1]? = some u:=⟨_,List.getElem?_eq_getElem (by omega)⟩
      simp only [List.getElem?_cons_zero,List.getElem?_cons_succ] at c3
      rw [hu9] at g1
      obtain ⟨lo9,lc9,rfl,-,-,-⟩:=hI.L.rd
      have hs9m:(NS O.gr n x s L.length).2.2.length≤cap9:=h91
      clear hI hr9 hs9 hb9 h92 h93 h94 hlt9 h91 hu9
      go_wp2_with fail
      go_ret
      have hd:=InNode.done (kd:=5) (n:=s.1.length) rfl HI9.out rfl (by have hkp:=HKP.out L.length;rw [HKD.out] at hkp;exact hkp)
      refine ⟨ret_int (by rw [HLL.out]),?_⟩
      rw [HNEW.out]
      have hfull:NS O.gr n x s L.length=fldM (valM O.gr n) (O.gr x).2 (s.1 ++ [x],s.2 ++ [((O.gr x).1,[])]):=by
       unfold NS;rw [List.take_of_length_le (by rw [HLEN.out];simp)]
      rw [←hfull,HKD.out]
      rw [←HLL.out] at hd ⊢
      exact hd
   ·have hkb:(kd == 5)=false:=by simpa using hk5
    rw [if_neg hk5] at HLEN
    clear hk5
    have HI9:=Hz hI
    obtain ⟨cs9,hs9,hr9⟩:=hI.V.hn
    have hlt9:s.1.length<(NS O.gr n x s j).2.2.length:=(List.getElem?_eq_some_iff.1 (HKP.out j)).1
    obtain ⟨g,o,cap9,cur,rfl,hb9,h91,h92,h93,h94⟩:=hs9.laid (by omega)
    have c3:=hI.V.hq.cell 3;have cl:=hI.V.hq.lt
    have g1:=hb9.cell (o+s.2.length*2+1);have gl:=hb9.lt;have gf:=hb9.free (o+s.2.length*2+1)
    have hs9l:s.2.length<(NS O.gr n x s j).2.2.length:=by rw [HLL.out];exact hlt9
    obtain ⟨u9,hu9⟩:∃ u,cur[o+s.2.length*2+1]? = some u:=⟨_,List.getElem?_eq_getElem (by omega)⟩
    rw [hu9] at g1
    simp only [List.getElem?_cons_zero,List.getElem?_cons_succ] at c3
    obtain ⟨lo9,lc9,rfl,-,-,-⟩:=hI.L.rd
    have hs9m:(NS O.gr n x s j).2.2.length≤cap9:=h91
    clear hI hr9 hs9 hb9 h92 h93 h94 hlt9 h91 hu9
    go_wp2_with fail
    go_ret
    have hd:=InNode.done (kd:=kd) (n:=s.1.length) rfl HI9.out rfl (by have hkp:=HKP.out j;rw [HKD.out] at hkp;exact hkp)
    refine ⟨ret_int (by rw [HLL.out]),?_⟩
    rw [HNEW.out]
    have hfull:NS O.gr n x s j=fldM (valM O.gr n) (O.gr x).2 (s.1 ++ [x],s.2 ++ [((O.gr x).1,[])]):=by
     unfold NS;rw [List.take_of_length_le (by rw [HLEN.out];simp)]
    rw [←hfull,HKD.out]
    rw [←HLL.out] at hd ⊢
    exact hd
end
end
section
open Go.RowKit Go.Maps
section
variable {h:WH} {O:Wo} {q b:Nat} {rv:Value}
theorem value_new (n:Nat) (ih:ValOk h O q b rv n) (x:Int) (nv:Value) (F:Nat→Prop) (s:VS) (w:World) (V:VwAt w q h O b rv nv F s) (hx:R64 x) (h1:x%4=1) (hxu:x/4 ∈ O.univ) (hm:¬ x/4 ∈ s.1)
  (hu:unM O.univ s.1≤n+1) (hc:s.1.length+unM O.univ s.1≤5000) :
  Calls Tryz.prog 65 #[.pointer (some ⟨q,0,none⟩), .int .i64 x] w fun e w'=>ValRet w q h O b rv nv F (valM O.gr (n+1) (valO x) s) e w':=by
 have HV:=Hz V
 have HE:=Hz (show (valM O.gr (n+1) (valO x) s).1=refV s.1.length by rw [valO_ref h1,valM_new O.gr n rfl hm])
 have HVO:=Hz (valO_ref h1)
 have H1:=Hz h1;have HM:=Hz hm;have HU:=Hz hu;have HC:=Hz hc;have HXU:=Hz hxu;have HIH:=Hz ih
 have r0:-2305843009213693952≤x/4:=by have:=hx.1;omega
 have r2:x/4≤2305843009213693951:=by have:=hx.2;omega
 clear V h1 hm hu hc hxu ih
 go_enter Tryz.func65,Tryz.ntmps65
 go_wp2_with fail
 refine (At_yes x _ H1.out).mono ?_
 rintro e w1 ⟨rfl,rfl⟩
 have hka:=(Kz w).alloc (.cells #[.int .i64 0, .int .i64 0] 96)
 have V1:=Hz (HV.out.same hka)
 have hal:Blk (w.alloc (.cells #[.int .i64 0, .int .i64 0] 96)) w.heap.size [.int .i64 0, .int .i64 0] 96:=Blk.newAt _ rfl rfl
 have HAL:=Hz hal;have HKA:=Hz hka
 have c1:=V1.out.hq.cell 1;have cl:=V1.out.hq.lt
 simp only [List.getElem?_cons_zero,List.getElem?_cons_succ] at c1
 obtain ⟨n0,D,hown,hn0,hD⟩:=V1.out.hm
 have HD:=Hz (hD (x/4) (by omega) (by omega))
 clear hD hka hal
 go_wp2_with (at_lookup;refine wpList_lookup_own_ok_int _ rfl _ _ 116 rfl 3 3 .i64 key_int Tryz.underlying116 Tryz.underlying3 (zero_int _) b n0 D rfl hown _ _ rfl (keyOf_int_mk Tryz.underlying3 (WalkArith.wf_i64 (by constructor <;> omega))) ?_)
 intro c hat hwc
 rw [HD.out.1,decide_eq_false HM.out]
 clear hat hwc hown hn0 c1 cl
 go_wp2_with fail
 refine (node_c n HIH.out (x/4) nv F s _ V1.out r0 r2 HXU.out HM.out HU.out HC.out).mono ?_
 rintro e w2 ⟨rfl,ht⟩
 have hb2:=ht.choose_spec.choose_spec.2.1.blk HAL.out (by
  intro hf
  have:=HV.out.lt hf
  omega)
 have l0:=hb2.cell 0;have l1:=hb2.cell 1;have ll:=hb2.lt;have f0:=hb2.free 0;have f1:=hb2.free 1
 simp only [List.getElem?_cons_zero,List.getElem?_cons_succ] at l0 l1
 have HB2:=Hz hb2;have HT:=Hz ht
 clear hb2 ht
 go_wp2_with fail
 have hb3:=(HB2.out.setSame 0 (.int .i64 3)).setSame 1 (.int .i64 s.1.length)
 have x0':=hb3.cell 0;have x1':=hb3.cell 1
 simp only [List.set_cons_zero,List.set_cons_succ,List.getElem?_cons_zero,List.getElem?_cons_succ] at x0' x1'
 refine bodyPost_ret (v:=.agg #[.int .i64 3, .int .i64 s.1.length]) (by simp [results,Tryz.results65,go_sem,x0',x1']) rfl ?_
 refine ⟨by rw [HE.out];rfl,?_⟩
 rw [HVO.out]
 have hsz:=HKA.out.size
 have hsz1:(w.alloc (.cells #[.int .i64 0, .int .i64 0] 96)).heap.size=w.heap.size+1:=by simp
 obtain ⟨nv1,F1,V2,k2,p1,p2⟩:=HT.out
 have ke:=((Keeps.refl (·=w.heap.size) w2).setCell (p:=⟨w.heap.size,0,none⟩) (.inl rfl) (.int .i64 3)).setCell (p:=⟨w.heap.size,1,none⟩) (.inl rfl) (.int .i64 s.1.length)
 refine ⟨nv1,F1,V2.keep ke (fun j hj e=>?_) (fun j hj e=>?_) (fun j hj e=>?_),(((HKA.out.mono (fun _ _ h=>h.elim)).trans k2).setCell (p:=⟨w.heap.size,0,none⟩) (.inr (Nat.le_refl _)) _).setCell (p:=⟨w.heap.size,1,none⟩) (.inr (Nat.le_refl _)) _,fun j hj=>?_,fun j hj=>?_⟩
 ·subst e;exact V2.fp_ne HB2.out (by decide) (by decide) hj
 ·subst e
  obtain ⟨c',T,hc',hT⟩:=V2.hw.own_type hj
  rcases hT with rfl | rfl | rfl | rfl | rfl | rfl | rfl <;> exact HB2.out.ne hc' (by decide) rfl
 ·subst e
  rcases p2 _ hj with h1 | h1
  ·have:=(HV.out.hF _ h1).1;omega
  ·omega
 ·rcases p1 j hj with h1 | h1
  ·exact .inl h1
  ·exact .inr (by omega)
 ·rcases p2 j hj with h1 | h1
  ·exact .inl h1
  ·exact .inr (by omega)
theorem value_c:∀ n:Nat,n≤5000→ValOk h O q b rv n:=by
 intro n
 induction n with
 | zero=>
  intro _ x nv F s w V hx hxu hu hc
  exact value_met x 0 V hx (fun h1=>unM_zero (Nat.le_zero.1 hu) (hxu h1)) (by omega)
 | succ n ih=>
  intro hn x nv F s w V hx hxu hu hc
  by_cases hm:x%4=1→x/4 ∈ s.1
  ·exact value_met x (n+1) V hx hm (by omega)
  ·obtain ⟨h1,h2⟩:=Classical.not_imp.1 hm
   exact value_new n (ih (by omega)) x nv F s w V hx h1 (hxu h1) h2 hu hc
def ViewV (w:World) (lo:Nat) (v:Value) (V:List Vl × List Nd):Prop:=
 ∃ ro rc no nc F,v=.agg #[.slice ro V.1.length rc, .slice no V.2.length nc]∧Sl w 96 2 (.slice ro V.1.length rc) V.1.length (entV V.1)∧NodesAt w (.slice no V.2.length nc) F V.2 ∧
  ∀ k,(F k∨ownB (.slice ro V.1.length rc) k∨ownB (.slice no V.2.length nc) k)→lo≤k∧k<w.heap.size
theorem ViewV.keep {w w':World} {S:Nat→Prop} {lo:Nat} {v:Value} {V:List Vl × List Nd} (H:ViewV w lo v V) (k:Keeps S w w') (hn:∀ j,lo≤j→j<w.heap.size→¬ S j):ViewV w' lo v V:=by
 obtain ⟨ro,rc,no,nc,F,e,h1,h2,h3⟩:=H
 refine ⟨ro,rc,no,nc,F,e,h1.keep k (fun j hj=>?_),h2.keep k (fun j hj _=>?_) (fun j hj=>?_),fun j hj=>⟨(h3 j hj).1,Nat.lt_of_lt_of_le (h3 j hj).2 k.size⟩⟩
 ·have:=h3 j (.inr (.inl hj));exact hn j this.1 this.2
 ·have:=h3 j (.inl hj);exact hn j this.1 this.2
 ·have:=h3 j (.inr (.inr hj));exact hn j this.1 this.2
structure TopIn (w:World) (q:Nat) (h:WH) (O:Wo) (b:Nat) (wr:World) (rv nv:Value) (F:Nat→Prop) (s:VS) (l:List Vl):Prop where
 V:VwAt wr q h O b rv nv F s
 K:Keeps (fun _=>False) w wr
 o1:∀ k,ownB nv k→w.heap.size≤k
 o2:∀ k,F k→w.heap.size<k
 L:Sl wr 96 2 rv l.length (entV l)
 o3:∀ k,ownB rv k→w.heap.size≤k∧¬ F k
 oq:w.heap.size≤q
 ob:w.heap.size≤b
 B:Blk wr w.heap.size [.slice none 0 0, .slice none 0 0] 41
theorem TopIn.rv_ne {w wr:World} {rv nv:Value} {F:Nat→Prop} {s:VS} {l:List Vl} (I:TopIn w q h O b wr rv nv F s l) {k:Nat} (hk:ownB rv k):¬ VwFp q b nv k∧¬ h.Own k:=by
 obtain ⟨_,c,hc⟩:=I.L.own hk
 refine ⟨I.V.fp_ne hc (by decide) (by decide),fun h1=>?_⟩
 obtain ⟨c',T,hc',hT⟩:=I.V.hw.own_type h1
 rcases hT with rfl | rfl | rfl | rfl | rfl | rfl | rfl <;> exact hc.ne hc' (by decide) rfl
theorem TopIn.told {w wr w2:World} {rv nv:Value} {F:Nat→Prop} {s s2:VS} {l:List Vl} (I:TopIn w q h O b wr rv nv F s l) (t:VwTo wr q h O b rv nv F s2 w2):∃ nv2 F2,TopIn w q h O b w2 rv nv2 F2 s2 l:=by
 obtain ⟨nv2,F2,V2,k2,p1,p2⟩:=t
 have hz:=I.K.size
 refine ⟨nv2,F2,V2,I.K.then k2 (fun j hj=>?_),fun j hj=>?_,fun j hj=>?_,I.L.keep k2 (fun j hj=>(I.rv_ne hj).1),fun j hj=>⟨(I.o3 j hj).1,fun hf=>?_⟩,I.oq,I.ob,k2.blk I.B (I.V.fp_ne I.B (by decide) (by decide))⟩
 ·rcases hj with rfl | rfl | hj
  ·exact .inr I.oq
  ·exact .inr I.ob
  ·exact .inr (I.o1 j hj)
 ·rcases p1 j hj with h | h
  ·exact I.o1 j h
  ·omega
 ·have hbl:=I.B.lt
  rcases p2 j hj with h | h
  ·exact I.o2 j h
  ·omega
 ·rcases p2 j hf with h | h
  ·exact (I.o3 j hj).2 h
  ·have:=(I.L.own hj).1;omega
theorem TopIn.same {w wr w2:World} {rv nv:Value} {F:Nat→Prop} {s:VS} {l:List Vl} (I:TopIn w q h O b wr rv nv F s l) (k:Keeps (fun _=>False) wr w2):TopIn w q h O b w2 rv nv F s l:=
 ⟨I.V.same k,I.K.trans k,I.o1,I.o2,I.L.keep k (fun _ _ h=>h),I.o3,I.oq,I.ob,k.blk I.B (fun h=>h)⟩
theorem TopIn.app {w wr wa w2:World} {rv nv v2:Value} {F:Nat→Prop} {s:VS} {l:List Vl} {v:Vl} (I:TopIn w q h O b wr rv nv F s l) (ka:Keeps (fun _=>False) wr wa)
  (hs:Sl w2 96 2 v2 (l.length+1) (entV l ++ [.int .i64 v.1, .int .i64 v.2])) (hk:Keeps (ownB rv) wa w2) (ho:∀ k,ownB v2 k→ownB rv k∨wa.heap.size≤k):TopIn w q h O b (w2.setCell ⟨q,2,none⟩ v2) v2 nv F s (l ++ [v]):=by
 have k2:=(ka.mono (T:=ownB rv) (fun _ _ h=>h.elim)).trans hk
 have hz:=ka.size;have hz2:=I.K.size
 have nq:∀ {v:Value} {wx:World} {n:Nat} {xs:List Value},Sl wx 96 2 v n xs→Blk wx q [.pointer (some ⟨h.p,0,none⟩), .map (some b),rv,nv] 118→¬ ownB v q:=fun hs hq h=>by
  obtain ⟨_,c,hc⟩:=hs.own h
  exact hc.ne hq (by decide) rfl
 have hq2:=k2.blk I.V.hq (nq I.L I.V.hq)
 have set:=(Keeps.refl (·=q) w2).setCell (p:=⟨q,2,none⟩) (.inl rfl) v2
 have V2:=I.V.keep k2 (fun j hj hl=>(I.rv_ne hl).1 hj) (fun j hj hl=>(I.rv_ne hl).2 hj) (fun j hj hl=>(I.o3 j hl).2 hj)
 have sq:∀ j,ownB v2 j→¬ j=q:=fun j hj e=>nq hs hq2 (e ▸ hj)
 have B2:=k2.blk I.B (fun hl=>by obtain ⟨_,c,hc⟩:=I.L.own hl;exact hc.ne I.B (by decide) rfl)
 refine ⟨⟨by simpa using hq2.setSame 2 v2,V2.hw.keep set (fun j hj e=>by subst e;exact V2.wood_apart hj (.inl rfl)),V2.hm.keep set (fun e=>V2.hm.ne V2.hq e.symm),V2.hn.keep set (fun j hj _ e=>(V2.hF j hj).2 (.inl e)) (fun j hj e=>?_),V2.hl,fun j hj=>⟨?_,(V2.hF j hj).2⟩⟩,
  (I.K.then k2 (fun j hj=>.inr (I.o3 j hj).1)).setCell (p:=⟨q,2,none⟩) (.inr I.oq) _,I.o1,I.o2,?_,fun j hj=>?_,I.oq,I.ob,set.blk B2 (B2.ne hq2 (by decide))⟩
 ·obtain ⟨_,c,hc⟩:=V2.hn.own hj
  exact hc.ne hq2 (by decide) e
 ·have:=(V2.hF j hj).1;have:=set.size;omega
 ·have e:entV (l ++ [v])=entV l ++ [.int .i64 v.1, .int .i64 v.2]:=by simp [entV]
  rw [e,List.length_append]
  exact hs.keep set sq
 ·rcases ho j hj with h1 | h1
  ·exact I.o3 j h1
  ·exact ⟨by omega,fun hf=>by have:=(I.V.hF j hf).1;omega⟩
def TS (O:Wo) (k:Nat):List Vl × VS:=fldM (valM O.gr 5000) ((O.rt.map valO).take k) ([],[])
theorem TS_step {O:Wo} {k:Nat} (h:k<O.rt.length):TS O (k+1)=((TS O k).1 ++ [(valM O.gr 5000 (valO (O.rt.getD k 0)) (TS O k).2).1],(valM O.gr 5000 (valO (O.rt.getD k 0)) (TS O k).2).2):=by
 unfold TS
 have e:(O.rt.map valO)[k]? = some (valO (O.rt.getD k 0)):=by rw [List.getElem?_map,List.getElem?_eq_getElem h];simp [List.getD,h]
 rw [List.take_add_one,e,Option.toList_some,fldM_app]
 rfl
theorem TS_len {O:Wo} {k:Nat} (h:k≤O.rt.length):(TS O k).1.length=k:=by
 unfold TS;rw [fldM_len,List.length_take,List.length_map];omega
theorem TS_un {O:Wo} (hO:O.ok) (k:Nat):unM O.univ (TS O k).2.1≤5000∧(TS O k).2.1.length+unM O.univ (TS O k).2.1≤5000:=by
 have I:=Wo.inU hO
 unfold TS
 have h1:=Wo.univ_le hO
 have h2:=unM_nil O.univ
 have h3:=fldM_count (f:=valM O.gr 5000) (U:=O.univ) (valM_count I 5000) ((O.rt.map valO).take k) ([],[]) (fun v hv h3=>by
  obtain ⟨x,hx,rfl⟩:=List.mem_map.1 (List.mem_of_mem_take hv)
  rw [(valO_three h3).2];exact Wo.univ_root hx)
 simp only [List.length_nil] at h3
 exact ⟨by omega,by omega⟩
def ViewRet (w:World) (V:List Vl × List Nd) (e:Ending) (w':World):Prop:=∃ v,e=.returned v∧ViewV w' w.heap.size v V∧Keeps (fun _=>False) w w'
theorem View_c (w:World) (H:WoodAt w h O) :
  Calls Tryz.prog 17 #[.pointer (some ⟨h.p,0,none⟩)] w fun e w'=>ViewRet w O.view e w':=by
 have HH:=Hz H
 obtain ⟨vi,hi,hz0,hz1,hz2⟩:=info_parts1 info_val
 have Vi:=Hz hi;have Vz0:=Hz hz0;have Vz1:=Hz hz1;have Vz2:=Hz hz2;clear hi hz0 hz1 hz2
 have hmm:=@run_makeMap Tryz.prog
 have HMM:=Hz hmm
 have h12:=H.ok.h12
 obtain ⟨ro,rc,hro,-,-,-⟩:=H.hr.rd
 have HRO:=Hz hro
 have c3:=H.ptrs.2.2.2;have pl:=H.hp.lt
 rw [hro,h12] at c3
 have HRR:=Hz H.hr
 rw [hro,h12] at HRR
 clear H h12 hro
 go_enter Tryz.func17,Tryz.ntmps17
 go_upto_region 2 with fail
 have k1:=(((Kz w).alloc (.cells #[.slice none 0 0, .slice none 0 0] 41)).alloc (.map #[] 0)).alloc (.cells #[.pointer (some ⟨h.p,0,none⟩), .map (some (w.heap.size+1)), .slice none 0 0, .slice none 0 0] 118)
 have hb:Blk (((w.alloc (.cells #[.slice none 0 0, .slice none 0 0] 41)).alloc (.map #[] 0)).alloc (.cells #[.pointer (some ⟨h.p,0,none⟩), .map (some (w.heap.size+1)), .slice none 0 0, .slice none 0 0] 118)) w.heap.size [.slice none 0 0, .slice none 0 0] 41:=((Blk.newAt _ rfl rfl).alloc _).alloc _
 have hsn:SeenAt (((w.alloc (.cells #[.slice none 0 0, .slice none 0 0] 41)).alloc (.map #[] 0)).alloc (.cells #[.pointer (some ⟨h.p,0,none⟩), .map (some (w.heap.size+1)), .slice none 0 0, .slice none 0 0] 118)) (w.heap.size+1) []:=by
  have:=SeenAt.made (w.alloc (.cells #[.slice none 0 0, .slice none 0 0] 41))
  simp only [World.size_alloc] at this
  exact this.keep ((Kz _).alloc _) (fun h=>h)
 have hv:VwAt (((w.alloc (.cells #[.slice none 0 0, .slice none 0 0] 41)).alloc (.map #[] 0)).alloc (.cells #[.pointer (some ⟨h.p,0,none⟩), .map (some (w.heap.size+1)), .slice none 0 0, .slice none 0 0] 118)) (w.heap.size+1+1) h O (w.heap.size+1) (.slice none 0 0) (.slice none 0 0) (fun _=>False) ([],[]):=
  ⟨Blk.newAt _ (by simp) rfl,HH.out.keep k1 (fun _ _ h=>h),hsn,NodesAt.nil _ _,rfl,fun _ h=>h.elim⟩
 have HK1:=Hz k1;have HB:=Hz hb;have HVW:=Hz hv
 have HSZ:=Hz (show w.heap.size+3≤(((w.alloc (.cells #[.slice none 0 0, .slice none 0 0] 41)).alloc (.map #[] 0)).alloc (.cells #[.pointer (some ⟨h.p,0,none⟩), .map (some (w.heap.size+1)), .slice none 0 0, .slice none 0 0] 118)).heap.size by simp)
 have c3:=hv.hw.ptrs.2.2.2;have pl:=hv.hw.hp.lt
 rw [HRO.out,HH.out.ok.h12] at c3
 clear k1 hb hsn hv hmm
 generalize ((w.alloc (.cells #[.slice none 0 0, .slice none 0 0] 41)).alloc (.map #[] 0)).alloc (.cells #[.pointer (some ⟨h.p,0,none⟩), .map (some (w.heap.size+1)), .slice none 0 0, .slice none 0 0] 118)=w1 at *
 go_wp2_with fail
 have HI0:=Hz (show TopIn w (w.heap.size+1+1) h O (w.heap.size+1) w1 (.slice none 0 0) (.slice none 0 0) (fun _=>False) (TS O 0).2 (TS O 0).1 from
  ⟨HVW.out,HK1.out,fun _ h=>(nil_own h).elim,fun _ h=>h.elim,Sl.nil _ _ _,fun _ h=>(nil_own h).elim,by omega,by omega,HB.out⟩)
 clear HVW HB HSZ HK1 c3 pl
 go_loopw [16] (fun i wr=>∃ (k:Nat) (rv nv:Value) (F:Nat→Prop),k≤12∧i=.int .i64 k∧TopIn w (w.heap.size+1+1) h O (w.heap.size+1) wr rv nv F (TS O k).2 (TS O k).1) (fun i _=>12-(intOf i).toNat)
 case atStart=>exact ⟨0,_,_,_,Nat.zero_le _,rfl,HI0.out⟩
 case round=>
  clear HI0
  obtain ⟨k,rv,nv,F,hk,rfl,hI⟩:=hrel
  have HI:=Hz hI
  have hkl:=TS_len (O:=O) (k:=k) (by rw [HH.out.ok.h12];exact hk)
  have HKL:=Hz hkl
  by_cases hlt:k<12
  ·have HST:=Hz (TS_step (O:=O) (k:=k) (by rw [HH.out.ok.h12];exact hlt))
   have hm:O.rt.getD k 0 ∈ O.rt:=by rw [List.getD_eq_getElem?_getD,List.getElem?_eq_getElem (by rw [HH.out.ok.h12];exact hlt)];exact List.getElem_mem _
   have HLR:=Hz (HH.out.ok.hR _ hm);have HLU:=Hz (Wo.univ_root hm)
   have hrd:=(HRR.keep hI.K (fun _ _ h=>h))
   obtain ⟨_,_,e',hrr,-,-⟩:=hrd.rd
   cases e'
   obtain ⟨gg,go,rfl,ggl,g0⟩:=hrr.int64 k (by rw [HH.out.ok.h12];exact hlt)
   clear hI hkl hm hrd hrr
   generalize O.rt.getD k 0=y at *
   go_wp2_with fail
   refine (value_c 5000 (Nat.le_refl _) y nv F _ _ HI.out.V HLR.out (fun _=>HLU.out) (TS_un HH.out.ok k).1 (TS_un HH.out.ok k).2).mono ?_
   rintro e w2 ⟨rfl,ht⟩
   obtain ⟨nv2,F2,hI2⟩:=HI.out.told ht
   obtain ⟨⟨⟨r1,r2⟩,sr⟩,hr⟩:∃ t,valM O.gr 5000 (valO y) (TS O k).2=t:=⟨_,rfl⟩
   rw [hr] at hI2 HST ⊢
   dsimp only at hI2 HST ⊢
   clear hr ht g0 ggl
   go_upto_region 6 with fail
   have hka:=(Kz w2).alloc (.cells #[.int .i64 r1, .int .i64 r2] 96)
   have hI3:=hI2.same hka
   have hvb:Blk (w2.alloc (.cells #[.int .i64 r1, .int .i64 r2] 96)) w2.heap.size [.int .i64 r1, .int .i64 r2] 96:=Blk.newAt _ rfl rfl
   have HI3:=Hz hI3
   obtain ⟨lo,lc,rfl,-,-,-⟩:=hI3.L.rd
   rw [HKL.out] at HI3
   have c2:=hI3.V.hq.cell 2;have cl:=hI3.V.hq.lt
   have v0:=hvb.cell 0;have v1:=hvb.cell 1;have vl:=hvb.lt
   simp only [List.getElem?_cons_zero,List.getElem?_cons_succ] at c2 v0 v1
   rw [HKL.out] at c2
   have HL3:=Hz (show Sl (w2.alloc (.cells #[.int .i64 r1, .int .i64 r2] 96)) 96 2 (.slice lo k lc) k (entV (TS O k).1) by have:=HI3.out.L;rw [HKL.out] at this;exact this)
   clear hka hI3 hI2 hvb HI
   generalize w2.alloc (.cells #[.int .i64 r1, .int .i64 r2] 96)=wb at *
   generalize w2.heap.size=bv at *
   refine wp_region_ro (.free 0 (.free 1 (.free 2 (.free 3 (.free 4 (.pure 5 (.pure 6 (.run 7 (.run 8 (.swi [12] (.free 9 (.free 10 (.free 11 (.run 12 (.swi [] (.fin)))))))))))))))) [8,9,10,11,12] (fun w'=>w'.cell? ⟨w.heap.size+1+1,2,none⟩=some (.slice lo k lc)∧w'.cell? ⟨bv,0,none⟩=some (.int .i64 r1)∧w'.cell? ⟨bv,1,none⟩=some (.int .i64 r2)) (by kernel_rfl) (by kernel_rfl) ⟨c2,v0,v1⟩ ?_
   iterate 7 first | (refine wpRO_free rfl rfl _ (fun w'=>by go_simp;exact Gives.mk _ _) (fun K hK=>?_);go_simp;refine hK _ ?_;clear hK K) | (refine wpRO_skipF rfl rfl (fun K hK=>?_);go_simp;refine hK _ ?_;clear hK K) | (refine wpRO_pure rfl rfl _ (fun w' hG=>by obtain ⟨g2,g0,g1⟩:=hG;exact gives_agg2 rfl (by decide +kernel) rfl (by assumption) (by assumption)) (fun K hK=>?_);go_simp;refine hK _ ?_;clear hK K) | (refine wpRO_pure rfl rfl _ (fun w' hG=>by obtain ⟨g2,g0,g1⟩:=hG;go_simp;exact Gives.mk _ _) (fun K hK=>?_);go_simp;refine hK _ ?_;clear hK K) | (refine wpRO_skip rfl rfl (fun K hK=>?_);go_simp;refine hK _ ?_;clear hK K)
   refine wpRO_run rfl rfl (fun K hK=>?_);unfold gRun;go_simp
   have hkb:Keeps (fun _=>False) wb ((wb.drew).alloc (.cells #[.int .i64 r1, .int .i64 r2] 96)):=(Kz wb).drew.alloc (.cells #[.int .i64 r1, .int .i64 r2] 96)
   refine hK _ _ (fun hg=>?_) ?_
   ·refine ⟨?_,?_,?_⟩
    ·exact (World.cell?_of_block (w:=wb) (a:=⟨w.heap.size+1+1,2,none⟩) (hkb.block _ cl (fun h=>h))).trans c2
    ·exact (World.cell?_of_block (w:=wb) (a:=⟨bv,0,none⟩) (hkb.block _ vl (fun h=>h))).trans v0
    ·exact (World.cell?_of_block (w:=wb) (a:=⟨bv,1,none⟩) (hkb.block _ vl (fun h=>h))).trans v1
   clear hK K
   refine wpRO_chg rfl rfl rfl (fun K hK=>?_)
   refine gRun_app (.tmp 28) (.tmp 30) 38 rfl 96 vi (.agg #[.int .i64 0, .int .i64 0]) 2 16 Tryz.underlying38 Vi.out Vz0.out Vz1.out Vz2.out rfl (by decide) _ k (entV (TS O k).1) rfl (HL3.out.keep hkb (fun _ _ h=>h)) ⟨wb.heap.size,0,none⟩ 1 1 [.int .i64 r1, .int .i64 r2] rfl rfl (news_at wb.drew 96 #[.int .i64 r1, .int .i64 r2]) (by intro u hu;simp at hu;rcases hu with rfl | rfl <;> rfl) (by unfold maxLen;omega) (by omega) ?_
   intro v3 w3 hs3 hk3 ho3
   have HI4:=Hz (HI3.out.app (v:=(r1,r2)) hkb (by rw [HKL.out];exact hs3) hk3 ho3)
   have hp3:=hk3.blk (hkb.blk HI3.out.V.hq (fun h=>h)) (fun hv=>by obtain ⟨_,c',hc⟩:=(HL3.out.keep hkb (fun _ _ h=>h)).own hv;exact (hkb.blk HI3.out.V.hq (fun h=>h)).ne hc (by decide) rfl)
   have x0:=hp3.cell 2;have xf:=hp3.free 2;have xl:=hp3.lt
   simp only [List.getElem?_cons_zero,List.getElem?_cons_succ] at x0
   obtain ⟨lo3,lc3,rfl,-,-,-⟩:=hs3.rd
   refine hK _ _ ?_
   clear hK K hkb hs3 hk3 ho3 hp3 c2 cl v0 v1 vl
   refine wpRO_swi (fun _=>True) trivial ?_
   iterate 3 first | (refine wpRO_free rfl rfl _ (fun w'=>by go_simp;exact Gives.mk _ _) (fun K hK=>?_);go_simp;refine hK _ ?_;clear hK K) | (refine wpRO_skipF rfl rfl (fun K hK=>?_);go_simp;refine hK _ ?_;clear hK K)
   refine wpRO_chg rfl rfl rfl (fun K hK=>?_);unfold gRun;go_simp
   refine hK _ _ ?_
   clear hK K
   refine wpRO_swi (fun _=>True) trivial (wpRO_fin ?_)
   clear x0 xf xl
   go_wp2_with fail
   go_roundw
   case rel=>exact ⟨k+1,_,nv2,F2,by omega,by go_num,by rw [HST.out];exact HI4.out⟩
   case measure=>simp [intOf];omega
  ·obtain rfl:k=12:=by omega
   obtain ⟨lo,lc,rfl,hrr,-,-⟩:=hI.L.rd
   obtain ⟨cs,hns,hnr⟩:=hI.V.hn
   obtain ⟨no,nc,rfl,-,-,-⟩:=hns.rd
   have c2:=hI.V.hq.cell 2;have c3:=hI.V.hq.cell 3;have cl:=hI.V.hq.lt
   have b0:=hI.B.cell 0;have b1:=hI.B.cell 1;have bl:=hI.B.lt;have f0:=hI.B.free 0;have f1:=hI.B.free 1
   simp only [List.getElem?_cons_zero,List.getElem?_cons_succ] at c2 c3 b0 b1
   have HVE:=Hz (show O.view=((TS O 12).1,(TS O 12).2.2) by
    unfold Wo.view viewM TS deep
    rw [List.take_of_length_le (by rw [List.length_map,HH.out.ok.h12];exact Nat.le_refl _)])
   clear hI hrr hns hnr hlt hk hkl
   go_wp2_with (refine wpList_agg2 rfl 41 (.tmp 38) rfl (by kernel_rfl) (w.heap.size+1+1) 2 rfl _ _ c2 c3 ?_)
   have hb3:=(HI.out.B.setSame 0 (.slice lo (TS O 12).1.length lc)).setSame 1 (.slice no (TS O 12).2.2.length nc)
   have x0:=hb3.cell 0;have x1:=hb3.cell 1
   simp only [List.set_cons_zero,List.set_cons_succ,List.getElem?_cons_zero,List.getElem?_cons_succ] at x0 x1
   refine bodyPost_ret (v:=.agg #[.slice lo (TS O 12).1.length lc, .slice no (TS O 12).2.2.length nc]) (by simp [results,Tryz.results17,go_sem,x0,x1]) rfl ?_
   refine ⟨_,rfl,?_,(HI.out.K.setCell (p:=⟨w.heap.size,0,none⟩) (.inr (Nat.le_refl _)) _).setCell (p:=⟨w.heap.size,1,none⟩) (.inr (Nat.le_refl _)) _⟩
   rw [HVE.out]
   have ke:=((Keeps.refl (·=w.heap.size) wr).setCell (p:=⟨w.heap.size,0,none⟩) (.inl rfl) (.slice lo (TS O 12).1.length lc)).setCell (p:=⟨w.heap.size,1,none⟩) (.inl rfl) (.slice no (TS O 12).2.2.length nc)
   have nF:∀ j,F j→¬ j=w.heap.size:=fun j hj e=>by
    have:=HI.out.o2 j hj;omega
   refine ⟨lo,lc,no,nc,F,rfl,HI.out.L.keep ke (fun j hj e=>?_),HI.out.V.hn.keep ke (fun j hj _=>nF j hj) (fun j hj e=>?_),fun j hj=>?_⟩
   ·subst e;obtain ⟨_,c,hc⟩:=HI.out.L.own hj;exact hc.ne HI.out.B (by decide) rfl
   ·subst e;obtain ⟨_,c,hc⟩:=HI.out.V.hn.own hj;exact hc.ne HI.out.B (by decide) rfl
   ·have hks:=ke.size
    rcases hj with hj | hj | hj
    ·exact ⟨Nat.le_of_lt (HI.out.o2 j hj),by have:=(HI.out.V.hF j hj).1;omega⟩
    ·exact ⟨(HI.out.o3 j hj).1,by have:=(HI.out.L.own hj).1;omega⟩
    ·exact ⟨HI.out.o1 j hj,by have:=(HI.out.V.hn.own hj).1;omega⟩
end
end
section
open Go.RowKit
theorem Rd.val {w:World} {ao:Option Addr} {l:List Vl} (h:Rd w ao (entV l)) (i:Nat) (hi:i<l.length) :
  ∃ g o,ao=some ⟨g,o,none⟩∧g<w.heap.size∧w.cell? ⟨g,o+i*2,none⟩=some (.int .i64 (l.getD i (0,0)).1)∧w.cell? ⟨g,o+i*2+1,none⟩=some (.int .i64 (l.getD i (0,0)).2):=by
 have hlen:(entV l).length=l.length*2:=entV_length l
 obtain ⟨g,o,rfl,hg,hc⟩:=h (by intro e;rw [e] at hlen;simp at hlen;omega)
 have h1:=entV_get l i hi
 refine ⟨g,o,rfl,hg,?_,?_⟩
 ·rw [hc (i*2) (by rw [hlen];omega)];exact h1.1
 ·rw [Nat.add_assoc,hc (i*2+1) (by rw [hlen];omega)];exact h1.2
theorem SameVals_yes (a b:Option Addr) (ca cb:Nat) (l:List Vl) (w:World) (h1:Rd w a (entV l)) (h2:Rd w b (entV l)) (hl:l.length≤1000000) :
  Calls Tryz.prog 82 #[.slice a l.length ca, .slice b l.length cb] w fun e w'=>e=.returned (.bool true)∧Keeps (fun _=>False) w w':=by
 have H1:=Hz h1;have H2:=Hz h2
 clear h1 h2
 go_enter Tryz.func82,Tryz.ntmps82
 go_wp2_with fail
 go_loopw [5] (fun i wr=>∃ k:Nat,k≤l.length∧i=.int .i64 k∧Keeps (fun _=>False) w wr) (fun i _=>l.length-(intOf i).toNat)
 case atStart=>exact ⟨0,Nat.zero_le _,rfl,Keeps.refl _ _⟩
 case round=>
  obtain ⟨k,hk,rfl,hkk⟩:=hrel
  have HK:=Hz hkk;clear hkk
  by_cases hlt:k<l.length
  ·obtain ⟨g,o,rfl,hgl,d0,d1⟩:=(H1.out.keep HK.out (fun _ _ _ h=>h)).val k hlt
   obtain ⟨g',o',rfl,hgl',e0,e1⟩:=(H2.out.keep HK.out (fun _ _ _ h=>h)).val k hlt
   generalize l.getD k (0,0)=v at *
   go_wp2_with fail
   refine wp_region_ro (.free 0 (.free 1 (.free 2 (.free 4 (.free 5 (.free 6 (.pure 3 (.pure 7 (.free 8 (.fin)))))))))) [] (fun w'=>w'.cell? ⟨g,o+k*2,none⟩=some (.int .i64 v.1)∧w'.cell? ⟨g,o+k*2+1,none⟩=some (.int .i64 v.2)∧w'.cell? ⟨g',o' + k*2,none⟩=some (.int .i64 v.1)∧w'.cell? ⟨g',o' + k*2+1,none⟩=some (.int .i64 v.2)) (by kernel_rfl) (by kernel_rfl) ⟨d0,d1,e0,e1⟩ ?_
   iterate 9 first | (refine wpRO_free rfl rfl _ (fun w'=>by go_simp;exact Gives.mk _ _) (fun K hK=>?_);go_simp;refine hK _ ?_;clear hK K) | (refine wpRO_skipF rfl rfl (fun K hK=>?_);go_simp;refine hK _ ?_;clear hK K) | (refine wpRO_pure rfl rfl _ (fun w' hG=>by obtain ⟨g0,g1,g2,g3⟩:=hG;exact gives_agg2 rfl (by decide +kernel) rfl (by assumption) (by assumption)) (fun K hK=>?_);go_simp;refine hK _ ?_;clear hK K) | (refine wpRO_pure rfl rfl _ (fun w' hG=>by obtain ⟨g0,g1,g2,g3⟩:=hG;go_simp;exact Gives.mk _ _) (fun K hK=>?_);go_simp;refine hK _ ?_;clear hK K) | (refine wpRO_skip rfl rfl (fun K hK=>?_);go_simp;refine hK _ ?_;clear hK K)
   refine wpRO_fin ?_
   go_wp2_with fail
   go_roundw
   case rel=>exact ⟨k+1,by omega,by go_num,HK.out.drew⟩
   case measure=>simp [intOf];omega
  ·obtain rfl:k=l.length:=by omega
   go_wp2_with fail
   go_ret
   exact ⟨rfl,HK.out⟩
theorem NodesAt.nth {w:World} {nv:Value} {F:Nat→Prop} {l:List Nd} (h:NodesAt w nv F l):∃ no nc,nv=.slice no l.length nc∧∀ i,i<l.length→∃ g o ao cap,no=some ⟨g,o,none⟩∧g<w.heap.size∧w.cell? ⟨g,o+i*2,none⟩=some (.int .i64 (l.getD i (0,[])).1) ∧
  w.cell? ⟨g,o+i*2+1,none⟩=some (.slice ao (l.getD i (0,[])).2.length cap)∧Rd w ao (entV (l.getD i (0,[])).2)∧(l.getD i (0,[])).2.length≤maxLen:=by
 obtain ⟨cs,hs,hr⟩:=h
 obtain ⟨no,nc,rfl,hrd,-,-⟩:=hs.rd
 refine ⟨no,nc,rfl,fun i hi=>?_⟩
 obtain ⟨r,h1,⟨ao,cap,rfl,h2,-,h3⟩,h4⟩:=hr.cell hi
 have hlen:=hr.length
 have hne:cs≠[]:=by intro e;subst e;simp at hlen;omega
 obtain ⟨g,o,rfl,hg,hc⟩:=hrd hne
 have e:l.getD i (0,[])=l[i]:=by rw [List.getD_eq_getElem?_getD,List.getElem?_eq_getElem hi];rfl
 rw [e]
 refine ⟨g,o,ao,cap,rfl,hg,?_,?_,h2,h3⟩
 ·have:=h4 0 (by decide)
  rw [hc (i*2) (by rw [hlen];omega)]
  exact this
 ·have:=h4 1 (by decide)
  rw [Nat.add_assoc,hc (i*2+1) (by rw [hlen];omega)]
  exact this
def ViewR (w:World) (v:Value) (V:List Vl × List Nd):Prop:=
 ∃ ro rc nv F,v=.agg #[.slice ro V.1.length rc,nv]∧Rd w ro (entV V.1)∧NodesAt w nv F V.2∧V.1.length≤1000000∧V.2.length≤1000000∧∀ n ∈ V.2,n.2.length≤1000000
theorem ViewV.r {w:World} {lo:Nat} {v:Value} {V:List Vl × List Nd} (H:ViewV w lo v V) (h1:V.1.length≤1000000) (h2:V.2.length≤1000000) (h3:∀ n ∈ V.2,n.2.length≤1000000):ViewR w v V:=by
 obtain ⟨ro,rc,no,nc,F,e,a,b,c⟩:=H
 obtain ⟨_,_,e',hr,-,-⟩:=a.rd
 cases e'
 exact ⟨ro,rc,_,F,e,hr,b,h1,h2,h3⟩
theorem SameView_yes (x y:Value) (V:List Vl × List Nd) (w:World) (h1:ViewR w x V) (h2:ViewR w y V) :
  Calls Tryz.prog 19 #[x,y] w fun e w'=>e=.returned (.bool true)∧Keeps (fun _=>False) w w':=by
 obtain ⟨ro,rc,nv,F,rfl,r1,n1,l1,l2,l3⟩:=h1
 obtain ⟨so,sc,mv,E,rfl,r2,n2,-,-,-⟩:=h2
 obtain ⟨no,nc,rfl,N1⟩:=n1.nth
 obtain ⟨mo,mc,rfl,N2⟩:=n2.nth
 have R1:=Hz r1;have R2:=Hz r2
 have M1:=Hz n1;have M2:=Hz n2;have L3:=Hz l3
 clear r1 r2 n1 n2 N1 N2 l3
 go_enter Tryz.func19,Tryz.ntmps19
 go_wp2_with fail
 have hka:=(Kz w).alloc (.cells #[.slice ro V.1.length rc, .slice no V.2.length nc] 41)
 have hkb:=hka.alloc (.cells #[.slice so V.1.length sc, .slice mo V.2.length mc] 41)
 obtain ⟨wa,ea⟩:∃ x,x=w.alloc (.cells #[.slice ro V.1.length rc, .slice no V.2.length nc] 41):=⟨_,rfl⟩
 have hba:Blk wa w.heap.size [.slice ro V.1.length rc, .slice no V.2.length nc] 41:=by rw [ea];exact Blk.newAt _ rfl rfl
 have hsz:wa.heap.size=w.heap.size+1:=by rw [ea];simp
 rw [←ea] at hka hkb ⊢
 have hb1:=((Kz wa).alloc (.cells #[.slice so V.1.length sc, .slice mo V.2.length mc] 41)).blk hba (fun h=>h)
 have hb2:Blk (wa.alloc (.cells #[.slice so V.1.length sc, .slice mo V.2.length mc] 41)) wa.heap.size [.slice so V.1.length sc, .slice mo V.2.length mc] 41:=Blk.newAt _ rfl rfl
 rw [hsz] at hb2
 generalize wa.alloc (.cells #[.slice so V.1.length sc, .slice mo V.2.length mc] 41)=wb at *
 obtain ⟨b,hb⟩:∃ b,w.heap.size=b:=⟨_,rfl⟩
 rw [hb] at hb1 hb2 hsz ⊢
 clear hba ea hka hb
 refine (SameVals_yes ro so rc sc V.1 _ (R1.out.keep hkb (fun _ _ _ h=>h)) (R2.out.keep hkb (fun _ _ _ h=>h)) l1).mono ?_
 rintro e w1 ⟨rfl,hk1⟩
 have HK1:=Hz (hkb.trans hk1)
 have HB1:=Hz (hk1.blk hb1 (fun h=>h));have HB2:=Hz (hk1.blk hb2 (fun h=>h))
 clear hk1 hb1 hb2 hkb
 have c0:=HB1.out.cell 0;have c1:=HB1.out.cell 1;have cl:=HB1.out.lt;have d0:=HB2.out.cell 0;have d1:=HB2.out.cell 1;have dl:=HB2.out.lt
 simp only [List.getElem?_cons_zero,List.getElem?_cons_succ] at c0 c1 d0 d1
 go_wp2_with fail
 clear c0 c1 cl d0 d1 dl
 go_loopw [5] (fun i wr=>∃ k:Nat,k≤V.2.length∧i=.int .i64 k∧Keeps (fun _=>False) w wr∧Blk wr b [.slice ro V.1.length rc, .slice no V.2.length nc] 41∧Blk wr (b+1) [.slice so V.1.length sc, .slice mo V.2.length mc] 41) (fun i _=>V.2.length-(intOf i).toNat)
 case atStart=>exact ⟨0,Nat.zero_le _,rfl,HK1.out,HB1.out,HB2.out⟩
 case round=>
  obtain ⟨k,hk,rfl,hkk,hb1,hb2⟩:=hrel
  have HK:=Hz hkk;have HX1:=Hz hb1;have HX2:=Hz hb2
  clear HK1 HB1 HB2 hkk hb1 hb2
  have c1:=HX1.out.cell 1;have cl:=HX1.out.lt;have d1:=HX2.out.cell 1;have dl:=HX2.out.lt
  simp only [List.getElem?_cons_zero,List.getElem?_cons_succ] at c1 d1
  by_cases hlt:k<V.2.length
  ·obtain ⟨no',nc',e',N1⟩:=(M1.out.keep HK.out (fun _ _ _ h=>h) (fun _ _ h=>h)).nth
   cases e'
   obtain ⟨mo',mc',e',N2⟩:=(M2.out.keep HK.out (fun _ _ _ h=>h) (fun _ _ h=>h)).nth
   cases e'
   obtain ⟨g,o,ao,ac,rfl,hgl,x0,x1,rd1,-⟩:=N1 k hlt
   obtain ⟨g',o',ao',ac',rfl,hgl',y0,y1,rd2,-⟩:=N2 k hlt
   have hnl:(V.2.getD k (0,[])).2.length≤1000000:=by
    rw [List.getD_eq_getElem?_getD,List.getElem?_eq_getElem hlt];exact L3.out _ (List.getElem_mem _)
   generalize V.2.getD k (0,[])=nd at *
   have RD1:=Hz rd1;have RD2:=Hz rd2
   clear N1 N2 rd1 rd2
   go_wp2_with fail
   refine wp_region_ro (.free 0 (.free 2 (.free 6 (.free 8 (.pure 1 (.free 3 (.free 4 (.pure 5 (.pure 7 (.free 9 (.free 10 (.pure 11 (.free 12 (.free 13 (.free 14 (.free 16 (.free 20 (.free 22 (.pure 15 (.free 17 (.free 18 (.pure 19 (.pure 21 (.free 23 (.free 24 (.pure 25 (.run 26 (.swi [] (.free 27 (.free 28 (.fin))))))))))))))))))))))))))))))) [26,27,28] (fun w'=>w'.cell? ⟨b,1,none⟩=some (.slice (some ⟨g,o,none⟩) V.2.length nc)∧w'.cell? ⟨b+1,1,none⟩=some (.slice (some ⟨g',o',none⟩) V.2.length mc)∧w'.cell? ⟨g,o+k*2,none⟩=some (.int .i64 nd.1)∧w'.cell? ⟨g,o+k*2+1,none⟩=some (.slice ao nd.2.length ac)∧w'.cell? ⟨g',o' + k*2,none⟩=some (.int .i64 nd.1)∧w'.cell? ⟨g',o' + k*2+1,none⟩=some (.slice ao' nd.2.length ac')) (by kernel_rfl) (by kernel_rfl) ⟨c1,d1,x0,x1,y0,y1⟩ ?_
   iterate 26 first | (refine wpRO_free rfl rfl _ (fun w'=>by go_simp;exact Gives.mk _ _) (fun K hK=>?_);go_simp;refine hK _ ?_;clear hK K) | (refine wpRO_skipF rfl rfl (fun K hK=>?_);go_simp;refine hK _ ?_;clear hK K) | (refine wpRO_pure rfl rfl _ (fun w' hG=>by obtain ⟨g0,g1,g2,g3,g4,g5⟩:=hG;exact gives_agg2 rfl (by decide +kernel) rfl (by assumption) (by assumption)) (fun K hK=>?_);go_simp;refine hK _ ?_;clear hK K) | (refine wpRO_pure rfl rfl _ (fun w' hG=>by obtain ⟨g0,g1,g2,g3,g4,g5⟩:=hG;go_simp;exact Gives.mk _ _) (fun K hK=>?_);go_simp;refine hK _ ?_;clear hK K) | (refine wpRO_skip rfl rfl (fun K hK=>?_);go_simp;refine hK _ ?_;clear hK K)
   refine wpRO_chg rfl rfl rfl (fun K hK=>?_);unfold gRun;go_simp
   refine (SameVals_yes ao ao' ac ac' nd.2 _ (RD1.out.keep ((Kz wr).drew) (fun _ _ _ h=>h)) (RD2.out.keep ((Kz wr).drew) (fun _ _ _ h=>h)) hnl).mono ?_
   rintro e w2 ⟨rfl,hk2⟩
   refine hK _ _ ?_
   clear hK K
   have HK2:=Hz (HK.out.drew.trans hk2);have HY1:=Hz (hk2.blk HX1.out.drew (fun h=>h));have HY2:=Hz (hk2.blk HX2.out.drew (fun h=>h))
   refine wpRO_swi (fun _=>True) trivial ?_
   iterate 2 first | (refine wpRO_free rfl rfl _ (fun w'=>by go_simp;exact Gives.mk _ _) (fun K hK=>?_);go_simp;refine hK _ ?_;clear hK K) | (refine wpRO_skipF rfl rfl (fun K hK=>?_);go_simp;refine hK _ ?_;clear hK K)
   refine wpRO_fin ?_
   go_wp2_with fail
   go_roundw
   case rel=>exact ⟨k+1,by omega,by go_num,HK2.out,HY1.out,HY2.out⟩
   case measure=>simp [intOf];omega
  ·obtain rfl:k=V.2.length:=by omega
   go_wp2_with fail
   go_ret
   exact ⟨rfl,HK.out⟩
end
section
variable {τ:Type}
def wakeM (alive:τ→Int→Bool) (keep:τ→Int→τ × Int):τ→List (Int × Int)→τ × List (Int × Int) × Bool
 | t,[]=>(t,[],false)
 | t,e :: l=>
  if alive t e.1 && !alive t e.2 then
   let r:=wakeM alive keep (keep t e.2).1 l
   (r.1,(e.1,(keep t e.2).2) :: r.2.1,true)
  else
   let r:=wakeM alive keep t l
   (r.1,e :: r.2.1,r.2.2)
abbrev It:=(Int × Int) × Bool × Bool
def scanM (alive:τ→Int→Bool) (keep:τ→List (Int × Int)→Int→τ × List (Int × Int) × Int):τ→List (Int × Int)→List It→τ × List (Int × Int) × List It × Bool
 | t,q,[]=>(t,q,[],false)
 | t,q,i :: l=>
  if (i.2.1 && !i.2.2) && alive t i.1.1 then
   let r:=scanM alive keep (keep t q i.1.2).1 ((keep t q i.1.2).2.1 ++ [(i.1.1,(keep t q i.1.2).2.2)]) l
   (r.1,r.2.1,(i.1,i.2.1,true) :: r.2.2.1,true)
  else
   let r:=scanM alive keep t q l
   (r.1,r.2.1,i :: r.2.2.1,r.2.2.2)
def roundsM (alive:τ→Int→Bool) (keep:τ→List (Int × Int)→Int→τ × List (Int × Int) × Int):Nat→τ→List (Int × Int)→List It→τ × List (Int × Int) × List It
 | 0,t,q,l=>(t,q,l)
 | n+1,t,q,l=>
  let r:=scanM alive keep t q l
  if r.2.2.2 then roundsM alive keep n r.1 r.2.1 r.2.2.1 else (r.1,r.2.1,r.2.2.1)
def unN (l:List It):Nat:=(l.filter fun i=>!i.2.2).length
theorem unN_cons (i:It) (l:List It):unN (i :: l)=(if i.2.2 then 0 else 1)+unN l:=by
 unfold unN
 cases h:i.2.2 <;> simp [List.filter_cons,h];omega
theorem unN_app (a b:List It):unN (a ++ b)=unN a+unN b:=by unfold unN;simp
theorem scanM_fst (alive:τ→Int→Bool) (keep):∀ (l:List It) (t:τ) (q:List (Int × Int)),(scanM alive keep t q l).2.2.1.map (fun i=>(i.1,i.2.1))=l.map (fun i=>(i.1,i.2.1))
 | [],_,_=>rfl
 | i :: l,t,q=>by
  simp only [scanM]
  split
  ·simp only [List.map_cons];rw [scanM_fst alive keep l]
  ·simp only [List.map_cons];rw [scanM_fst alive keep l]
theorem scanM_un (alive:τ→Int→Bool) (keep):∀ (l:List It) (t:τ) (q:List (Int × Int)),unN (scanM alive keep t q l).2.2.1≤unN l∧((scanM alive keep t q l).2.2.2=true→unN (scanM alive keep t q l).2.2.1<unN l)
 | [],_,_=>by simp [scanM]
 | i :: l,t,q=>by
  simp only [scanM]
  split
  ·rename_i h
   have ih:=scanM_un alive keep l (keep t q i.1.2).1 ((keep t q i.1.2).2.1 ++ [(i.1.1,(keep t q i.1.2).2.2)])
   simp only [Bool.and_eq_true,Bool.not_eq_true'] at h
   simp only [unN_cons,h.1.2]
   simp
   omega
  ·have ih:=scanM_un alive keep l t q
   simp only [unN_cons]
   refine ⟨by omega,fun h=>?_⟩
   have:=ih.2 h
   omega
def newRegs (alive:τ→Int→Bool) (now:τ→Int→Int) (t:τ) (l:List It):List (Int × Int):=(l.filter fun i=>!i.2.1 && alive t i.1.1).map fun i=>(now t i.1.1,now t i.1.2)
def newWait (alive:τ→Int→Bool) (now:τ→Int→Int) (t:τ) (l:List (Int × Int)):List (Int × Int):=(l.filter fun e=>alive t e.1).map fun e=>(now t e.1,now t e.2)
def itemsM (alive:τ→Int→Bool) (t:τ) (regs:List (Int × Int)):List It:=regs.map fun e=>(e,!alive t e.2,false)
def passM (alive:τ→Int→Bool) (keep:τ→List (Int × Int)→Int→τ × List (Int × Int) × Int) (t:τ) (regs wait:List (Int × Int)):τ × List (Int × Int) × List It:=
 roundsM alive keep (regs.length+1) t wait (itemsM alive t regs)
end
section
def Leads (G:Gr) (wait:List (Int × Int)) (S:Int→Prop) (i j:Int):Prop:=
 (((G i).1=1∨(G i).1=2)∧((3,j):Vl) ∈ (G i).2) ∨
 ((G i).1=3∧(G i).2[1]? = some (3,j)) ∨
 ((G i).1=4∧(G i).2[1]? = some (3,j)∧∀ v,(G i).2[0]? = some v→v.1=3→S v.2) ∨
 ((G i).1=5∧(i,j) ∈ wait)
def Closed (G:Gr) (wait:List (Int × Int)) (S:Int→Prop):Prop:=∀ i j,S i→Leads G wait S i j→S j
def Alive (G:Gr) (wait:List (Int × Int)) (X:Int→Prop) (i:Int):Prop:=∀ S:Int→Prop,(∀ j,X j→S j)→Closed G wait S→S i
section
variable {G:Gr} {wait wait':List (Int × Int)} {S S' X Y:Int→Prop} {i j:Int}
theorem Leads.mono (h:∀ k,S k→S' k) (hw:∀ e ∈ wait,e ∈ wait') (hl:Leads G wait S i j):Leads G wait' S' i j:=by
 rcases hl with h1 | h1 | ⟨h1,h2,h3⟩ | ⟨h1,h2⟩
 ·exact .inl h1
 ·exact .inr (.inl h1)
 ·exact .inr (.inr (.inl ⟨h1,h2,fun v hv h3'=>h _ (h3 v hv h3')⟩))
 ·exact .inr (.inr (.inr ⟨h1,hw _ h2⟩))
theorem Alive.base (h:X i):Alive G wait X i:=fun _ hX _=>hX i h
theorem Alive.least (h:Alive G wait X i) (hX:∀ k,X k→S k) (hS:Closed G wait S):S i:=h S hX hS
theorem Alive.closed (G:Gr) (wait:List (Int × Int)) (X:Int→Prop):Closed G wait (Alive G wait X):=fun i j hi hl S hX hS=>
 hS i j (hi S hX hS) (hl.mono (fun k hk=>hk S hX hS) (fun _ h=>h))
theorem Alive.mono (h:Alive G wait X i) (hX:∀ k,X k→Alive G wait' Y k) (hw:∀ e ∈ wait,e ∈ wait'):Alive G wait' Y i:=
 h _ hX (fun a b ha hl=>Alive.closed G wait' Y a b ha (hl.mono (fun _ h=>h) hw))
theorem Alive.entry {g t:Int} (ht:X t):Alive G (wait ++ [(g,t)]) X i↔Alive G wait X i:=by
 refine ⟨fun h=>?_,fun h=>h.mono (fun _ h=>Alive.base h) (fun e he=>by simp [he])⟩
 refine h.least (fun _ h=>Alive.base h) (fun a b ha hl=>?_)
 by_cases hb:b=t
 ·subst hb;exact Alive.base ht
 ·refine Alive.closed G wait X a b ha ?_
  rcases hl with h1 | h1 | h1 | ⟨h1,h2⟩
  ·exact .inl h1
  ·exact .inr (.inl h1)
  ·exact .inr (.inr (.inl h1))
  ·refine .inr (.inr (.inr ⟨h1,?_⟩))
   rcases List.mem_append.1 h2 with h3 | h3
   ·exact h3
   ·simp at h3;exact absurd h3.2 hb
end
def atB (l:List Bool) (i:Int):Bool:=decide (0≤i) && l.getD i.toNat false
theorem atB_nat (l:List Bool) (i:Nat):atB l i=l.getD i false:=by simp [atB]
theorem atB_lt {l:List Bool} {i:Int} (h:atB l i=true):0≤i∧i<l.length:=by
 unfold atB at h
 simp only [Bool.and_eq_true,decide_eq_true_eq] at h
 refine ⟨h.1,?_⟩
 by_cases hl:i.toNat<l.length
 ·omega
 ·have h2:=h.2
  rw [List.getD_eq_getElem?_getD,List.getElem?_eq_none (by omega)] at h2
  cases h2
open Classical in
noncomputable def cloL (G:Gr) (wait:List (Int × Int)) (is:List Bool):List Bool:=
 (List.range is.length).map fun i=>decide (Alive G wait (fun k=>atB is k=true) (i:Nat))
theorem cloL_length (G:Gr) (wait:List (Int × Int)) (is:List Bool):(cloL G wait is).length=is.length:=by simp [cloL]
open Classical in
theorem cloL_at {G:Gr} {wait:List (Int × Int)} {is:List Bool} {i:Int}:atB (cloL G wait is) i=true↔0≤i∧i<is.length∧Alive G wait (fun k=>atB is k=true) i:=by
 constructor
 ·intro h
  have:=atB_lt h
  rw [cloL_length] at this
  refine ⟨this.1,this.2,?_⟩
  unfold atB cloL at h
  simp only [Bool.and_eq_true,List.getD_eq_getElem?_getD,List.getElem?_map] at h
  rw [List.getElem?_range (by omega)] at h
  have h2:=h.2
  simp only [Option.map_some,Option.getD_some,decide_eq_true_eq] at h2
  rwa [show ((i.toNat:Nat):Int)=i by omega] at h2
 ·rintro ⟨h0,h1,h2⟩
  unfold atB cloL
  simp only [Bool.and_eq_true,List.getD_eq_getElem?_getD,List.getElem?_map]
  rw [List.getElem?_range (by omega)]
  refine ⟨by simpa using h0,?_⟩
  simp only [Option.map_some,Option.getD_some,decide_eq_true_eq]
  rwa [show ((i.toNat:Nat):Int)=i by omega]
theorem atB_ext {a b:List Bool} (hl:a.length=b.length) (h:∀ i:Int,0≤i→i<a.length→(atB a i=true↔atB b i=true)):a=b:=by
 apply List.ext_getElem hl
 intro k h1 h2
 have:=h k (by omega) (by omega)
 simp only [atB_nat,List.getD_eq_getElem?_getD,List.getElem?_eq_getElem h1,List.getElem?_eq_getElem h2,Option.getD_some] at this
 rw [Bool.eq_iff_iff];exact this
theorem cloL_eq {G:Gr} {wait:List (Int × Int)} {is out:List Bool} (hl:out.length=is.length) (h1:∀ i,atB is i=true→atB out i=true) (h2:∀ i,atB out i=true→Alive G wait (fun k=>atB is k=true) i)
  (h3:Closed G wait fun k=>atB out k=true):out=cloL G wait is:=by
 refine atB_ext (by rw [cloL_length,hl]) fun i h0 hlt=>?_
 rw [cloL_at]
 exact ⟨fun h=>⟨h0,by omega,h2 i h⟩,fun h=>h.2.2.least h1 h3⟩
theorem atB_set {is:List Bool} {x i:Int} (h0:0≤x) (h1:x<is.length):atB (is.set x.toNat true) i=true↔i=x∨atB is i=true:=by
 unfold atB
 simp only [Bool.and_eq_true,decide_eq_true_eq,List.getD_eq_getElem?_getD,List.getElem?_set]
 by_cases e:x.toNat=i.toNat
 ·rw [if_pos e,if_pos (by omega)]
  simp only [Option.getD_some,and_true]
  constructor
  ·intro h;left;omega
  ·rintro (rfl | ⟨h,_⟩)
   ·exact h0
   ·exact h
 ·rw [if_neg e]
  constructor
  ·intro h;exact .inr h
  ·rintro (rfl | h)
   ·exact absurd rfl e
   ·exact h
theorem cloL_entry {G:Gr} {wait:List (Int × Int)} {is:List Bool} {g t:Int} (ht:atB is t=true):cloL G (wait ++ [(g,t)]) is=cloL G wait is:=by
 refine atB_ext (by rw [cloL_length,cloL_length]) fun i h0 hlt=>?_
 rw [cloL_at,cloL_at,Alive.entry (X:=fun k=>atB is k=true) ht]
structure Th where
 k:Int
 fs:List Vl
 old:Bool
 dead:Bool
structure Wd where
 T:List Th
 roots:List Vl
 regs:List (Int × Int)
 wait:List (Int × Int)
 most:Int
 grow:Int
def Wd.new (n o:Int):Wd:=⟨[],List.replicate 12 (0,0),[],[],n,o⟩
def Th.none:Th:=⟨0,[],false,true⟩
def Wd.th (W:Wd) (i:Int):Th:=W.T.getD i.toNat Th.none
def Wd.rt (W:Wd) (k:Int):Vl:=W.roots.getD k.toNat (0,0)
def Th.words (t:Th):Int:=1+t.fs.length
def Wd.nd (W:Wd):Gr:=fun i=>((W.th i).k,(W.th i).fs)
def waitAt (wait:List (Int × Int)) (g:Int):List Int:=(wait.filter fun e=>e.1 == g).map (·.2)
def Wd.gr (W:Wd):Gr:=fun i=>((W.th i).k,(W.th i).fs ++ if (W.th i).k=5 then (waitAt W.wait i).map fun x=>((3,x):Vl) else [])
def Wd.view (W:Wd):List Vl × List Nd:=viewM W.gr W.roots
def sumW (l:List Th) (p:Th→Bool):Int:=(l.map fun t=>if p t then t.words else 0).sum
def Wd.young (W:Wd):Int:=sumW W.T fun t=>!t.dead && !t.old
def Wd.olds (W:Wd):Int:=sumW W.T fun t=>!t.dead && t.old
def Wd.first (W:Wd) (major:Bool):List Bool:=
 (List.range W.T.length).map fun (i:Nat)=>((W.th (i:Int)).old && !(W.th (i:Int)).dead && !major) || W.roots.any fun v=>v.1 == 3 && v.2 == (i:Int)
noncomputable def Wd.clo (W:Wd) (wait:List (Int × Int)) (is:List Bool):List Bool:=cloL W.nd wait is
noncomputable def Wd.keepW (W:Wd) (is:List Bool) (q:List (Int × Int)) (x:Int):List Bool × List (Int × Int) × Int:=(W.clo q (is.set x.toNat true),q,x)
def nowW (is:List Bool) (x:Int):Int:=x
noncomputable def Wd.pass (W:Wd) (major:Bool):List Bool × List (Int × Int) × List It:=passM atB W.keepW (W.clo W.wait (W.first major)) W.regs W.wait
def inS (is:List Bool) (v:Vl):Bool:=v.1 != 3 || atB is v.2
def cutT (is:List Bool) (i:Nat) (t:Th):Th:=
 if is.getD i false then
  ⟨t.k,if t.k=4∧inS is (t.fs.getD 0 (0,0))=false then [(2,0),(2,0)]
   else if t.k=3∧inS is (t.fs.getD 0 (0,0))=false then [(2,0),t.fs.getD 1 (0,0)] else t.fs,true,t.dead⟩
 else ⟨t.k,[],t.old,true⟩
def cutTs (is:List Bool) (l:List Th):List Th:=l.mapIdx fun i t=>cutT is i t
def sumL (is:List Bool) (l:List Th):Int:=(l.mapIdx fun i t=>if is.getD i false then t.words else 0).sum
noncomputable def Wd.after (W:Wd) (major:Bool):Wd:=
 { W with T:=cutTs (W.pass major).1 W.T,regs:=newRegs atB nowW (W.pass major).1 (W.pass major).2.2,wait:=newWait atB nowW (W.pass major).1 (W.pass major).2.1 }
noncomputable def Wd.cut (W:Wd) (major:Bool):Int × Wd:=
 if major=false∧W.young > W.grow-W.olds then (3,W)
 else if sumL (W.pass major).1 W.T > W.grow then (3,W)
 else (0,W.after major)
structure St where
 k:Int
 r:Int
 a:Int
 b:Int
 i:Int
 n:Int
def usesM (k:Int):Int:=
 if k=1∨k=2∨k=8 then 1 else if k=3∨k=5∨k=10∨k=11∨k=13 then 3 else if k=4∨k=6∨k=7∨k=14 then 7 else if k=9∨k=12 then 6 else if k=15∨k=16 then 0 else -1
def rootOk (k:Int):Bool:=decide (0≤k) && decide (k<12)
def checkM (x:St):Int:=
 if usesM x.k=-1 then 2
 else if (usesM x.k%2=1∧rootOk x.r=false)∨(usesM x.k/2%2=1∧rootOk x.a=false)∨(usesM x.k/4%2=1∧rootOk x.b=false) then 1
 else if x.k=1∧¬ (-big≤x.n∧x.n<big) then 1
 else if x.k=5∧¬ (0≤x.n∧x.n≤12) then 1
 else 0
def Wd.setR (W:Wd) (r:Int) (v:Vl):Wd:={ W with roots:=W.roots.set r.toNat v }
def Wd.put (W:Wd) (r k:Int) (from_:List Vl):Wd:={ W with T:=W.T ++ [⟨k,from_,false,false⟩],roots:=W.roots.set r.toNat (refV W.T.length) }
noncomputable def Wd.room (W:Wd) (n:Int):Int × Wd:=if n > W.most-W.young then W.cut (decide (W.young > W.grow-W.olds)) else (0,W)
noncomputable def Wd.newT (W:Wd) (r k:Int) (from_:List Int):Int × Wd:=
 if (W.room (1+from_.length)).1=0 then (0,(W.room (1+from_.length)).2.put r k (from_.map (W.room (1+from_.length)).2.rt)) else ((W.room (1+from_.length)).1,W)
def Wd.thing (W:Wd) (k:Int):Int:=if (W.rt k).1=3 then (W.rt k).2 else -1
def Wd.guard (W:Wd) (k:Int):Int:=if W.thing k<0∨(W.th (W.thing k)).k≠5 then -1 else W.thing k
def Wd.setF (W:Wd) (i:Int) (fs:List Vl):Wd:={ W with T:=W.T.set i.toNat { W.th i with fs:=fs } }
def popW (wait:List (Int × Int)) (g:Int):Option (Int × List (Int × Int)):=
 match wait with
 | []=>none
 | e :: l=>if e.1=g then some (e.2,l) else (popW l g).map fun r=>(r.1,e :: r.2)
def Wd.reg (W:Wd) (x:St):Int × Wd:=
 if W.thing x.a<0∨W.guard x.b<0 then (2,W)
 else if 24≤W.regs.length+W.wait.length then (3,W)
 else (0, { W with regs:=W.regs ++ [(W.guard x.b,W.thing x.a)] })
def Wd.pop (W:Wd) (x:St):Int × Wd:=
 if W.guard x.a<0 then (2,W)
 else match popW W.wait (W.guard x.a) with
  | none=>(4,W)
  | some r=>(0, { W with wait:=r.2,roots:=W.roots.set x.r.toNat (3,r.1) })
def Wd.fieldC (W:Wd) (x:St):Int:=
 if W.thing x.a<0∨(W.th (W.thing x.a)).k=5 then 2 else if x.i<0∨((W.th (W.thing x.a)).fs.length:Int)≤x.i then 1 else 0
def Wd.get (W:Wd) (x:St):Int × Wd:=if W.fieldC x=0 then (0,W.setR x.r ((W.th (W.thing x.a)).fs.getD x.i.toNat (0,0))) else (W.fieldC x,W)
def Wd.set (W:Wd) (x:St):Int × Wd:=if W.fieldC x=0 then (0,W.setF (W.thing x.a) ((W.th (W.thing x.a)).fs.set x.i.toNat (W.rt x.b))) else (W.fieldC x,W)
def Wd.len (W:Wd) (x:St):Int × Wd:=if W.thing x.a<0∨(W.th (W.thing x.a)).k=5 then (2,W) else (0,W.setR x.r (1,(W.th (W.thing x.a)).fs.length))
def Wd.same (W:Wd) (x:St):Int × Wd:=(0,W.setR x.r (1,if W.rt x.a=W.rt x.b then 1 else 0))
noncomputable def Wd.step (W:Wd) (x:St):Int × Wd:=
 if x.k=1 then (0,W.setR x.r (1,x.n))
 else if x.k=2 then (0,W.setR x.r (0,0))
 else if x.k=3 then (0,W.setR x.r (W.rt x.a))
 else if x.k=4 then W.newT x.r 1 [x.a,x.b]
 else if x.k=5 then W.newT x.r 2 (List.replicate x.n.toNat x.a)
 else if x.k=6 then W.newT x.r 3 [x.a,x.b]
 else if x.k=7 then W.newT x.r 4 [x.a,x.b]
 else if x.k=8 then W.newT x.r 5 []
 else if x.k=9 then W.reg x
 else if x.k=10 then W.pop x
 else if x.k=11 then W.get x
 else if x.k=12 then W.set x
 else if x.k=13 then W.len x
 else if x.k=14 then W.same x
 else if x.k=15 then W.cut false
 else W.cut true
noncomputable def Wd.do (W:Wd) (x:St):Int × Wd:=if checkM x=0 then W.step x else (checkM x,W)
def Wd.fresh (W:Wd) (r k f:Int):Bool × Wd:=
 if fitsW k f=true∧1+f≤W.most-W.young then (true,W.put r k (List.replicate f.toNat (0,0))) else (false,W)
end
section
def Wd.live (W:Wd) (i:Int):Prop:=0≤i∧i<W.T.length∧(W.th i).dead=false
def Wd.okV (W:Wd) (v:Vl):Prop:=(v.1=0∧v.2=0)∨(v.1=1∧-big≤v.2∧v.2<big)∨(v.1=2∧v.2=0)∨(v.1=3∧W.live v.2)
def Wd.okE (W:Wd) (e:Int × Int):Prop:=W.live e.1∧(W.th e.1).k=5∧W.live e.2
structure Wd.ok (W:Wd):Prop where
 hr:W.roots.length=12
 rv:∀ v ∈ W.roots,W.okV v
 tk:∀ i,W.live i→fitsW (W.th i).k (W.th i).fs.length=true
 tv:∀ i,W.live i→∀ v ∈ (W.th i).fs,W.okV v
 gv:∀ e ∈ W.regs,W.okE e
 wv:∀ e ∈ W.wait,W.okE e
 hq:W.regs.length+W.wait.length≤24
 m1:16≤W.most
 m2:W.most≤256
 g1:0≤W.grow
 g2:W.grow≤1024
 uy:W.young≤W.most
 uo:W.olds≤W.grow
theorem Wd.live_th {W:Wd} {i:Int} (h:W.live i):∃ (h':i.toNat<W.T.length),W.th i=W.T[i.toNat]:=by
 have h1:=h.1;have h2:=h.2.1
 have h':i.toNat<W.T.length:=by omega
 exact ⟨h',by unfold Wd.th;rw [List.getD_eq_getElem?_getD,List.getElem?_eq_getElem h'];rfl⟩
theorem Wd.okV_ref {W:Wd} {v:Vl} (h:W.okV v) (h3:v.1=3):W.live v.2:=by
 rcases h with h | h | h | h
 ·have:=h.1;omega
 ·have:=h.1;omega
 ·have:=h.1;omega
 ·exact h.2
theorem Wd.okV_mono {W W':Wd} (h:∀ i,W.live i→W'.live i) {v:Vl} (hv:W.okV v):W'.okV v:=by
 rcases hv with h1 | h1 | h1 | h1
 ·exact .inl h1
 ·exact .inr (.inl h1)
 ·exact .inr (.inr (.inl h1))
 ·exact .inr (.inr (.inr ⟨h1.1,h _ h1.2⟩))
theorem sumW_nonneg (l:List Th) (p:Th→Bool):0≤sumW l p:=by
 unfold sumW
 induction l with
 | nil=>simp
 | cons t l ih=>
  simp only [List.map_cons,List.sum_cons]
  have:0≤(if p t then t.words else 0):=by split <;> simp [Th.words];omega
  omega
theorem sumW_app (a b:List Th) (p:Th→Bool):sumW (a ++ b) p=sumW a p+sumW b p:=by simp [sumW]
theorem sumW_set (l:List Th) (p:Th→Bool) (i:Nat) (t:Th) (h:i<l.length) (hp:p t=p l[i]) (hw:t.words=l[i].words):sumW (l.set i t) p=sumW l p:=by
 unfold sumW
 have:(l.set i t).map (fun t=>if p t then t.words else 0)=l.map (fun t=>if p t then t.words else 0):=by
  apply List.ext_getElem (by simp)
  intro j h1 h2
  simp only [List.getElem_map,List.getElem_set]
  split
  ·rename_i e;subst e;rw [hp,hw]
  ·rfl
 rw [this]
theorem Wd.rt_ok {W:Wd} (h:W.ok) (k:Int):W.okV (W.rt k):=by
 unfold Wd.rt
 rw [List.getD_eq_getElem?_getD]
 cases hx:W.roots[k.toNat]? with
 | none=>exact .inl ⟨rfl,rfl⟩
 | some v=>exact h.rv _ (List.mem_of_getElem? hx)
theorem Wd.ok.setR {W:Wd} (h:W.ok) {v:Vl} (hv:W.okV v) (r:Int):(W.setR r v).ok:=by
 refine ⟨by simpa [Wd.setR] using h.hr,fun u hu=>?_,h.tk,h.tv,h.gv,h.wv,h.hq,h.m1,h.m2,h.g1,h.g2,h.uy,h.uo⟩
 rcases List.mem_or_eq_of_mem_set hu with h1 | rfl
 ·exact h.rv u h1
 ·exact hv
theorem Wd.th_put {W:Wd} {r k:Int} {l:List Vl} {i:Int} (h0:0≤i) (h:i<W.T.length):(W.put r k l).th i=W.th i:=by
 unfold Wd.th Wd.put
 simp only [List.getD_eq_getElem?_getD]
 rw [List.getElem?_append_left (by omega)]
theorem Wd.th_put_new {W:Wd} {r k:Int} {l:List Vl}:(W.put r k l).th W.T.length=⟨k,l,false,false⟩:=by
 unfold Wd.th Wd.put
 simp only [List.getD_eq_getElem?_getD,Int.toNat_natCast]
 rw [List.getElem?_append_right (Nat.le_refl _)]
 simp
theorem Wd.live_put {W:Wd} {r k:Int} {l:List Vl} {i:Int} (h:W.live i):(W.put r k l).live i:=by
 refine ⟨h.1,?_,?_⟩
 ·have:=h.2.1;simp [Wd.put];omega
 ·rw [Wd.th_put h.1 h.2.1];exact h.2.2
theorem Wd.put_live {W:Wd} {r k:Int} {l:List Vl} {i:Int} (h:(W.put r k l).live i):W.live i∨i=W.T.length:=by
 have h1:=h.2.1
 simp [Wd.put] at h1
 by_cases e:i=W.T.length
 ·exact .inr e
 ·refine .inl ⟨h.1,by omega,?_⟩
  have:=h.2.2
  rwa [Wd.th_put h.1 (by omega)] at this
theorem Wd.put_young {W:Wd} {r k:Int} {l:List Vl}:(W.put r k l).young=W.young+(1+l.length):=by
 unfold Wd.young Wd.put
 rw [sumW_app]
 simp [sumW,Th.words]
theorem Wd.put_olds {W:Wd} {r k:Int} {l:List Vl}:(W.put r k l).olds=W.olds:=by
 unfold Wd.olds Wd.put
 rw [sumW_app]
 simp [sumW]
theorem Wd.ok.put {W:Wd} (h:W.ok) {r k:Int} {l:List Vl} (hf:fitsW k l.length=true) (hl:∀ v ∈ l,W.okV v) (hroom:1+(l.length:Int)≤W.most-W.young):(W.put r k l).ok:=by
 have hm:∀ {v},W.okV v→(W.put r k l).okV v:=fun hv=>Wd.okV_mono (fun i hi=>Wd.live_put hi) hv
 have he:∀ e,W.okE e→(W.put r k l).okE e:=fun e he=>⟨Wd.live_put he.1,by rw [Wd.th_put he.1.1 he.1.2.1];exact he.2.1,Wd.live_put he.2.2⟩
 refine ⟨by simpa [Wd.put] using h.hr,fun u hu=>?_,fun i hi=>?_,fun i hi v hv=>?_,fun e h1=>he e (h.gv e h1),fun e h1=>he e (h.wv e h1),h.hq,h.m1,h.m2,h.g1,h.g2,?_,?_⟩
 ·rcases List.mem_or_eq_of_mem_set hu with h1 | rfl
  ·exact hm (h.rv u h1)
  ·refine .inr (.inr (.inr ⟨rfl,?_,?_,?_⟩))
   ·simp [refV]
   ·simp [Wd.put,refV];omega
   ·show ((W.put r k l).th (W.T.length:Int)).dead=false
    rw [Wd.th_put_new]
 ·rcases Wd.put_live hi with h1 | rfl
  ·rw [Wd.th_put h1.1 h1.2.1];exact h.tk i h1
  ·rw [Wd.th_put_new];exact hf
 ·rcases Wd.put_live hi with h1 | rfl
  ·rw [Wd.th_put h1.1 h1.2.1] at hv;exact hm (h.tv i h1 v hv)
  ·rw [Wd.th_put_new] at hv;exact hm (hl v hv)
 ·show (W.put r k l).young≤W.most
  rw [Wd.put_young];omega
 ·show (W.put r k l).olds≤W.grow
  rw [Wd.put_olds];exact h.uo
theorem Wd.th_setF {W:Wd} {j:Int} {fs:List Vl} {i:Int} (h0:0≤i) (hj:W.live j):(W.setF j fs).th i=if i=j then { W.th j with fs:=fs } else W.th i:=by
 obtain ⟨h',e⟩:=Wd.live_th hj
 unfold Wd.setF
 simp only [Wd.th,List.getD_eq_getElem?_getD,List.getElem?_set]
 by_cases e2:i=j
 ·subst e2;rw [if_pos rfl,if_pos h',if_pos rfl];rfl
 ·have:=hj.1
  rw [if_neg (by omega),if_neg e2]
theorem Wd.setF_live {W:Wd} {j:Int} {fs:List Vl} (hj:W.live j) (i:Int):(W.setF j fs).live i↔W.live i:=by
 unfold Wd.live
 constructor
 ·rintro ⟨h0,h1,h2⟩
  rw [Wd.th_setF h0 hj] at h2
  refine ⟨h0,by simpa [Wd.setF] using h1,?_⟩
  by_cases e:i=j
  ·subst e;exact hj.2.2
  ·rwa [if_neg e] at h2
 ·rintro ⟨h0,h1,h2⟩
  refine ⟨h0,by simpa [Wd.setF] using h1,?_⟩
  rw [Wd.th_setF h0 hj]
  split
  ·exact hj.2.2
  ·exact h2
theorem Wd.setF_kind {W:Wd} {j:Int} {fs:List Vl} (hj:W.live j) {i:Int} (h0:0≤i):((W.setF j fs).th i).k=(W.th i).k:=by
 rw [Wd.th_setF h0 hj]
 split
 ·rename_i e;subst e;rfl
 ·rfl
theorem Wd.setF_sum {W:Wd} {j:Int} {fs:List Vl} (hj:W.live j) (hl:fs.length=(W.th j).fs.length):(W.setF j fs).young=W.young∧(W.setF j fs).olds=W.olds:=by
 obtain ⟨h',e⟩:=Wd.live_th hj
 constructor
 ·exact sumW_set _ _ _ _ h' (by simp [e]) (by simp [Th.words,hl,e])
 ·exact sumW_set _ _ _ _ h' (by simp [e]) (by simp [Th.words,hl,e])
theorem Wd.ok.setF {W:Wd} (h:W.ok) {j:Int} {fs:List Vl} (hj:W.live j) (hl:fs.length=(W.th j).fs.length) (hv:∀ v ∈ fs,W.okV v):(W.setF j fs).ok:=by
 have hm:∀ {v},W.okV v→(W.setF j fs).okV v:=fun hv=>Wd.okV_mono (fun i hi=>(Wd.setF_live hj i).2 hi) hv
 have he:∀ e,W.okE e→(W.setF j fs).okE e:=fun e he=>⟨(Wd.setF_live hj _).2 he.1,by rw [Wd.setF_kind hj he.1.1];exact he.2.1,(Wd.setF_live hj _).2 he.2.2⟩
 have hs:=Wd.setF_sum hj hl
 refine ⟨h.hr,fun u hu=>hm (h.rv u hu),fun i hi=>?_,fun i hi v hv'=>?_,fun e h1=>he e (h.gv e h1),fun e h1=>he e (h.wv e h1),h.hq,h.m1,h.m2,h.g1,h.g2,?_,?_⟩
 ·have h1:=(Wd.setF_live hj i).1 hi
  rw [Wd.th_setF hi.1 hj]
  split
  ·rename_i e;subst e;show fitsW (W.th i).k (fs.length:Nat)=true;rw [hl];exact h.tk i h1
  ·exact h.tk i h1
 ·have h1:=(Wd.setF_live hj i).1 hi
  rw [Wd.th_setF hi.1 hj] at hv'
  split at hv'
  ·exact hm (hv v hv')
  ·exact hm (h.tv i h1 v hv')
 ·show (W.setF j fs).young≤W.most;rw [hs.1];exact h.uy
 ·show (W.setF j fs).olds≤W.grow;rw [hs.2];exact h.uo
theorem Wd.first_length (W:Wd) (major:Bool):(W.first major).length=W.T.length:=by simp [Wd.first]
theorem Wd.first_at {W:Wd} {major:Bool} {i:Int}:atB (W.first major) i=true↔0≤i∧i<W.T.length∧(((W.th i).old=true∧(W.th i).dead=false∧major=false)∨((3,i):Vl) ∈ W.roots):=by
 constructor
 ·intro h
  have hb:=atB_lt h
  rw [Wd.first_length] at hb
  refine ⟨hb.1,hb.2,?_⟩
  unfold atB Wd.first at h
  simp only [Bool.and_eq_true,List.getD_eq_getElem?_getD,List.getElem?_map] at h
  rw [List.getElem?_range (by omega)] at h
  have h2:=h.2
  simp only [Option.map_some,Option.getD_some,show ((i.toNat:Nat):Int)=i by omega,Bool.or_eq_true,Bool.and_eq_true,Bool.not_eq_true',List.any_eq_true,beq_iff_eq] at h2
  rcases h2 with h2 | ⟨v,h3,h4,h5⟩
  ·exact .inl ⟨h2.1.1,h2.1.2,h2.2⟩
  ·right
   have:v=(3,i):=by cases v;simp_all
   rwa [this] at h3
 ·rintro ⟨h0,h1,h2⟩
  unfold atB Wd.first
  simp only [Bool.and_eq_true,List.getD_eq_getElem?_getD,List.getElem?_map]
  rw [List.getElem?_range (by omega)]
  refine ⟨by simpa using h0,?_⟩
  simp only [Option.map_some,Option.getD_some,show ((i.toNat:Nat):Int)=i by omega,Bool.or_eq_true,Bool.and_eq_true,Bool.not_eq_true',List.any_eq_true,beq_iff_eq]
  rcases h2 with h2 | h2
  ·exact .inl ⟨⟨h2.1,h2.2.1⟩,h2.2.2⟩
  ·exact .inr ⟨_,h2,rfl,rfl⟩
structure Wd.Mid (W:Wd) (major:Bool) (is:List Bool) (q:List (Int × Int)):Prop where
 len:is.length=W.T.length
 live:∀ i,atB is i=true→W.live i
 first:∀ i,atB (W.first major) i=true→atB is i=true
 shut:Closed W.nd q fun i=>atB is i=true
 wv:∀ e ∈ q,W.okE e
theorem Wd.shut_live {W:Wd} (h:W.ok) {q:List (Int × Int)} (hq:∀ e ∈ q,W.okE e):Closed W.nd q W.live:=by
 intro i j hi hl
 rcases hl with h1 | h1 | h1 | h1
 ·exact Wd.okV_ref (h.tv i hi _ h1.2) rfl
 ·exact Wd.okV_ref (h.tv i hi _ (List.mem_of_getElem? h1.2)) rfl
 ·exact Wd.okV_ref (h.tv i hi _ (List.mem_of_getElem? h1.2.1)) rfl
 ·exact (hq _ h1.2).2.2
theorem Wd.first_live {W:Wd} (h:W.ok) {major:Bool} {i:Int} (hi:atB (W.first major) i=true):W.live i:=by
 obtain ⟨h0,h1,h2 | h2⟩:=Wd.first_at.1 hi
 ·exact ⟨h0,h1,h2.2.1⟩
 ·exact Wd.okV_ref (h.rv _ h2) rfl
theorem Wd.Mid.start {W:Wd} (h:W.ok) (major:Bool):W.Mid major (W.clo W.wait (W.first major)) W.wait:=by
 have hlen:(W.clo W.wait (W.first major)).length=W.T.length:=by unfold Wd.clo;rw [cloL_length,Wd.first_length]
 have hl:∀ i,atB (W.clo W.wait (W.first major)) i=true→W.live i:=fun i hi=>
  (cloL_at.1 hi).2.2.least (fun k hk=>Wd.first_live h hk) (Wd.shut_live h h.wv)
 refine ⟨hlen,hl,fun i hi=>cloL_at.2 ⟨(atB_lt hi).1,(atB_lt hi).2,Alive.base hi⟩,?_,h.wv⟩
 intro i j hi hj
 have hlv:=Wd.shut_live h h.wv i j (hl i hi) (hj.mono (fun k hk=>hl k hk) (fun _ h=>h))
 refine cloL_at.2 ⟨hlv.1,by rw [Wd.first_length];exact hlv.2.1,?_⟩
 exact Alive.closed _ _ _ i j (cloL_at.1 hi).2.2 (hj.mono (fun k hk=>(cloL_at.1 hk).2.2) (fun _ h=>h))
theorem Wd.Mid.keep {W:Wd} (h:W.ok) {major:Bool} {is:List Bool} {q:List (Int × Int)} (m:W.Mid major is q) {g x:Int} (hx:W.live x) (hg:W.live g) (hk:(W.th g).k=5) :
  W.Mid major (W.clo q (is.set x.toNat true)) (q ++ [(g,x)])∧(∀ i,atB is i=true→atB (W.clo q (is.set x.toNat true)) i=true)∧atB (W.clo q (is.set x.toNat true)) x=true:=by
 have hset:∀ i,atB (is.set x.toNat true) i=true↔i=x∨atB is i=true:=fun i=>atB_set hx.1 (by rw [m.len];exact hx.2.1)
 have hsl:(is.set x.toNat true).length=W.T.length:=by rw [List.length_set,m.len]
 have hq':∀ e ∈ q ++ [(g,x)],W.okE e:=by
  intro e he
  rcases List.mem_append.1 he with h1 | h1
  ·exact m.wv e h1
  ·rw [List.mem_singleton.1 h1];exact ⟨hg,hk,hx⟩
 have hsv:∀ k,atB (is.set x.toNat true) k=true→W.live k:=by
  intro k hk
  rcases (hset k).1 hk with rfl | h1
  ·exact hx
  ·exact m.live k h1
 have hl:∀ i,atB (W.clo q (is.set x.toNat true)) i=true→W.live i:=fun i hi=>(cloL_at.1 hi).2.2.least hsv (Wd.shut_live h m.wv)
 have up:∀ i,atB (is.set x.toNat true) i=true→atB (W.clo q (is.set x.toNat true)) i=true:=fun i hi=>cloL_at.2 ⟨(atB_lt hi).1,(atB_lt hi).2,Alive.base hi⟩
 have hxx:=up x ((hset x).2 (.inl rfl))
 refine ⟨⟨by unfold Wd.clo;rw [cloL_length,hsl],hl,fun i hi=>up i ((hset i).2 (.inr (m.first i hi))),?_,hq'⟩,fun i hi=>up i ((hset i).2 (.inr hi)),hxx⟩
 intro i j hi hj
 by_cases e:j=x
 ·subst e;exact hxx
 ·have hj':Leads W.nd q (fun k=>atB (W.clo q (is.set x.toNat true)) k=true) i j:=by
   rcases hj with h1 | h1 | h1 | ⟨h1,h2⟩
   ·exact .inl h1
   ·exact .inr (.inl h1)
   ·exact .inr (.inr (.inl h1))
   ·refine .inr (.inr (.inr ⟨h1,?_⟩))
    rcases List.mem_append.1 h2 with h3 | h3
    ·exact h3
    ·simp at h3;exact absurd h3.2 e
  have hlv:=Wd.shut_live h m.wv i j (hl i hi) (hj'.mono (fun k hk=>hl k hk) (fun _ h=>h))
  refine cloL_at.2 ⟨hlv.1,by rw [hsl];exact hlv.2.1,?_⟩
  exact Alive.closed _ _ _ i j (cloL_at.1 hi).2.2 (hj'.mono (fun k hk=>(cloL_at.1 hk).2.2) (fun _ h=>h))
theorem unN_moved (a:Int × Int) (b:Bool) (l:List It):unN ((a,b,true) :: l)=unN l:=by rw [unN_cons];simp
theorem unN_yet {i:It} (h:i.2.2=false) (l:List It):unN (i :: l)=1+unN l:=by rw [unN_cons,h];simp
theorem unN_none (l:List (Int × Int)) (f:Int × Int→Bool):unN (l.map fun e=>(e,f e,false))=l.length:=by
 induction l with
 | nil=>rfl
 | cons a l ih=>rw [List.map_cons,unN_yet rfl,ih];simp;omega
theorem Wd.Mid.scan {W:Wd} (h:W.ok) {major:Bool}:∀ (l:List It) (is:List Bool) (q:List (Int × Int)),W.Mid major is q→(∀ i ∈ l,W.okE i.1) →
  W.Mid major (scanM atB W.keepW is q l).1 (scanM atB W.keepW is q l).2.1∧(∀ i,atB is i=true→atB (scanM atB W.keepW is q l).1 i=true) ∧
  (scanM atB W.keepW is q l).2.1.length+unN (scanM atB W.keepW is q l).2.2.1=q.length+unN l
 | [],is,q,m,_=>⟨m,fun _ h=>h,rfl⟩
 | i :: l,is,q,m,hl=>by
  have hi:=hl i (by simp)
  simp only [scanM]
  split
  ·rename_i hc
   simp only [Bool.and_eq_true,Bool.not_eq_true'] at hc
   obtain ⟨m',hm1,_⟩:=m.keep h (g:=i.1.1) (x:=i.1.2) hi.2.2 hi.1 hi.2.1
   have ih:=Wd.Mid.scan h l _ _ m' (fun j hj=>hl j (by simp [hj]))
   simp only [Wd.keepW]
   refine ⟨ih.1,fun k hk=>ih.2.1 k (hm1 k hk),?_⟩
   have h3:=ih.2.2
   simp only [Wd.keepW,List.length_append,List.length_cons,List.length_nil] at h3
   rw [unN_moved,unN_yet hc.1.2]
   omega
  ·have ih:=Wd.Mid.scan h l is q m (fun j hj=>hl j (by simp [hj]))
   refine ⟨ih.1,ih.2.1,?_⟩
   have h3:=ih.2.2
   simp only [unN_cons] at h3 ⊢
   omega
theorem scan_items {W:Wd} {l:List It} (is:List Bool) (q:List (Int × Int)) (hl:∀ i ∈ l,W.okE i.1):∀ i ∈ (scanM atB W.keepW is q l).2.2.1,W.okE i.1:=by
 intro i hi
 have h1:(i.1,i.2.1) ∈ (scanM atB W.keepW is q l).2.2.1.map (fun i=>(i.1,i.2.1)):=List.mem_map.2 ⟨i,hi,rfl⟩
 rw [scanM_fst] at h1
 obtain ⟨j,hj,e⟩:=List.mem_map.1 h1
 have:=hl j hj
 have e1:j.1=i.1:=congrArg (fun p:(Int × Int) × Bool=>p.1) e
 rwa [e1] at this
theorem Wd.Mid.rounds {W:Wd} (h:W.ok) {major:Bool}:∀ (n:Nat) (l:List It) (is:List Bool) (q:List (Int × Int)),W.Mid major is q→(∀ i ∈ l,W.okE i.1) →
  W.Mid major (roundsM atB W.keepW n is q l).1 (roundsM atB W.keepW n is q l).2.1∧(∀ i,atB is i=true→atB (roundsM atB W.keepW n is q l).1 i=true) ∧
  (roundsM atB W.keepW n is q l).2.1.length+unN (roundsM atB W.keepW n is q l).2.2=q.length+unN l ∧
  (roundsM atB W.keepW n is q l).2.2.map (fun i=>(i.1,i.2.1))=l.map (fun i=>(i.1,i.2.1))
 | 0,l,is,q,m,_=>⟨m,fun _ h=>h,rfl,rfl⟩
 | n+1,l,is,q,m,hl=>by
  have hs:=Wd.Mid.scan h l is q m hl
  have hf:=scanM_fst atB W.keepW l is q
  simp only [roundsM]
  split
  ·have ih:=Wd.Mid.rounds h n (scanM atB W.keepW is q l).2.2.1 _ _ hs.1 (scan_items is q hl)
   refine ⟨ih.1,fun k hk=>ih.2.1 k (hs.2.1 k hk),by rw [ih.2.2.1,hs.2.2],by rw [ih.2.2.2,hf]⟩
  ·exact ⟨hs.1,hs.2.1,hs.2.2,hf⟩
theorem Wd.pass_mid {W:Wd} (h:W.ok) (major:Bool):W.Mid major (W.pass major).1 (W.pass major).2.1∧(∀ i,atB (W.clo W.wait (W.first major)) i=true→atB (W.pass major).1 i=true) ∧
  (W.pass major).2.1.length+unN (W.pass major).2.2=W.wait.length+W.regs.length ∧
  (W.pass major).2.2.map (fun i=>(i.1,i.2.1))=W.regs.map fun e=>(e,!atB (W.clo W.wait (W.first major)) e.2):=by
 have:=Wd.Mid.rounds h (W.regs.length+1) (itemsM atB (W.clo W.wait (W.first major)) W.regs) _ _ (Wd.Mid.start h major) (by
  intro i hi
  simp only [itemsM,List.mem_map] at hi
  obtain ⟨e,he,rfl⟩:=hi
  exact h.gv e he)
 refine ⟨this.1,this.2.1,?_,?_⟩
 ·have h3:=this.2.2.1
  have:unN (itemsM atB (W.clo W.wait (W.first major)) W.regs)=W.regs.length:=unN_none _ _
  rw [this] at h3
  exact h3
 ·have h3:=this.2.2.2
  rw [Wd.pass,passM,h3]
  simp [itemsM]
end
section
theorem atB_toNat {is:List Bool} {i:Int} (h0:0≤i):is.getD i.toNat false=atB is i:=by unfold atB;simp [h0]
theorem cutT_kind (is:List Bool) (i:Nat) (t:Th):(cutT is i t).k=t.k:=by unfold cutT;split <;> rfl
theorem cutT_live {is:List Bool} {i:Nat} {t:Th} (h:is.getD i false=true):(cutT is i t).dead=t.dead∧(cutT is i t).old=true:=by unfold cutT;rw [if_pos h];exact ⟨rfl,rfl⟩
theorem cutT_dead {is:List Bool} {i:Nat} {t:Th} (h:is.getD i false=false):(cutT is i t).dead=true:=by unfold cutT;rw [if_neg (by rw [h];decide)]
theorem cutT_len {is:List Bool} {i:Nat} {t:Th} (h:is.getD i false=true) (hf:fitsW t.k t.fs.length=true):(cutT is i t).fs.length=t.fs.length:=by
 unfold cutT
 rw [if_pos h]
 show List.length (if _ then _ else _)=_
 split
 ·rename_i hc
  rw [hc.1] at hf
  simp [fitsW] at hf
  simp;omega
 ·split
  ·rename_i hc
   rw [hc.1] at hf
   simp [fitsW] at hf
   simp;omega
  ·rfl
theorem cutTs_th {W:Wd} {is:List Bool} {i:Int} (h0:0≤i) (h1:i<W.T.length):(cutTs is W.T).getD i.toNat Th.none=cutT is i.toNat (W.th i):=by
 unfold cutTs Wd.th
 simp only [List.getD_eq_getElem?_getD,List.getElem?_mapIdx]
 rw [List.getElem?_eq_getElem (by omega)]
 rfl
theorem Wd.th_after {W:Wd} {major:Bool} {i:Int} (h0:0≤i) (h1:i<W.T.length):(W.after major).th i=cutT (W.pass major).1 i.toNat (W.th i):=cutTs_th h0 h1
theorem Wd.after_len {W:Wd} {major:Bool}:(W.after major).T.length=W.T.length:=by simp [Wd.after,cutTs]
theorem Wd.after_live {W:Wd} (h:W.ok) {major:Bool} {i:Int}:(W.after major).live i↔atB (W.pass major).1 i=true:=by
 obtain ⟨m,_⟩:=Wd.pass_mid h major
 constructor
 ·rintro ⟨h0,h1,h2⟩
  rw [Wd.after_len] at h1
  rw [Wd.th_after h0 h1] at h2
  cases hb:atB (W.pass major).1 i
  ·rw [cutT_dead (by rw [atB_toNat h0,hb])] at h2;cases h2
  ·rfl
 ·intro hb
  have hl:=m.live i hb
  refine ⟨hl.1,by rw [Wd.after_len];exact hl.2.1,?_⟩
  rw [Wd.th_after hl.1 hl.2.1,(cutT_live (by rw [atB_toNat hl.1];exact hb)).1]
  exact hl.2.2
theorem cutT_fields {W:Wd} (h:W.ok) {q:List (Int × Int)} {is:List Bool} (hs:Closed W.nd q fun k=>atB is k=true) {i:Int} (hi:W.live i) (hb:atB is i=true) :
  ∀ v ∈ (cutT is i.toNat (W.th i)).fs,(v=(2,0))∨(v ∈ (W.th i).fs∧inS is v=true):=by
 intro v hv
 have hf:=h.tk i hi
 unfold cutT at hv
 rw [if_pos (by rw [atB_toNat hi.1];exact hb)] at hv
 have shut:∀ j,Leads W.nd q (fun k=>atB is k=true) i j→atB is j=true:=fun j hj=>hs i j hb hj
 have inS_of:∀ v:Vl,(v.1=3→atB is v.2=true)→inS is v=true:=fun v hv=>by
  unfold inS
  by_cases e:v.1=3
  ·simp [e,hv e]
  ·simp [e]
 have two:(W.th i).fs.length=2→∃ a b,(W.th i).fs=[a,b]:=fun hl=>by
  match hx:(W.th i).fs,hl with
  | [a,b],_=>exact ⟨a,b,rfl⟩
 change v ∈ (if _ then _ else _) at hv
 split at hv
 ·left;simp at hv;exact hv
 ·rename_i hc4
  split at hv
  ·rename_i hc3
   rw [hc3.1] at hf
   simp [fitsW] at hf
   obtain ⟨a,b,e⟩:=two (by omega)
   rw [e] at hv
   simp at hv
   rcases hv with rfl | rfl
   ·exact .inl rfl
   ·refine .inr ⟨by rw [e];simp,inS_of _ fun e3=>shut _ (.inr (.inl ⟨hc3.1,?_⟩))⟩
    show (W.th i).fs[1]? = _
    rw [e];cases v;simp_all
  ·rename_i hc3
   right
   refine ⟨hv,inS_of v fun e3=>?_⟩
   have e4:v=(3,v.2):=by cases v;simp_all
   have hk:=fitsW_spec hf
   by_cases k12:(W.th i).k=1∨(W.th i).k=2
   ·exact shut _ (.inl ⟨k12,by rw [←e4];exact hv⟩)
   by_cases k3:(W.th i).k=3
   ·have h0:inS is ((W.th i).fs.getD 0 (0,0))=true:=by
     cases hx:inS is ((W.th i).fs.getD 0 (0,0))
     ·exact absurd ⟨k3,hx⟩ hc3
     ·rfl
    rw [k3] at hf
    simp [fitsW] at hf
    obtain ⟨a,b,e⟩:=two (by omega)
    rw [e] at hv h0
    simp at hv h0
    rcases hv with rfl | rfl
    ·simp [inS,e3] at h0;exact h0
    ·exact shut _ (.inr (.inl ⟨k3,by show (W.th i).fs[1]? = _;rw [e,←e4];rfl⟩))
   by_cases k4:(W.th i).k=4
   ·have h0:inS is ((W.th i).fs.getD 0 (0,0))=true:=by
     cases hx:inS is ((W.th i).fs.getD 0 (0,0))
     ·exact absurd ⟨k4,hx⟩ hc4
     ·rfl
    rw [k4] at hf
    simp [fitsW] at hf
    obtain ⟨a,b,e⟩:=two (by omega)
    rw [e] at hv h0
    simp at hv h0
    rcases hv with rfl | rfl
    ·simp [inS,e3] at h0;exact h0
    ·refine shut _ (.inr (.inr (.inl ⟨k4,by show (W.th i).fs[1]? = _;rw [e,←e4];rfl,fun u hu hu3=>?_⟩)))
     have hu':(W.th i).fs[0]? = some u:=hu
     rw [e] at hu'
     simp at hu'
     subst hu'
     simp [inS,hu3] at h0;exact h0
   ·have k5:(W.th i).k=5:=by
     have h1:(W.th i).k≠1:=fun e=>k12 (.inl e)
     have h2:(W.th i).k≠2:=fun e=>k12 (.inr e)
     omega
    rw [k5] at hf
    simp [fitsW] at hf
    have:(W.th i).fs=[]:=by
     cases hx:(W.th i).fs with
     | nil=>rfl
     | cons a l=>rw [hx] at hf;simp at hf
    rw [this] at hv;cases hv
theorem sum_after (is:List Bool):∀ (l:List Th) (n:Nat) (hl:∀ j (h:j<l.length),is.getD (n+j) false=true→l[j].dead=false∧fitsW l[j].k l[j].fs.length=true),
  sumW (l.mapIdx fun i t=>cutT is (n+i) t) (fun t=>!t.dead && !t.old)=0 ∧
  sumW (l.mapIdx fun i t=>cutT is (n+i) t) (fun t=>!t.dead && t.old)=(l.mapIdx fun i t=>if is.getD (n+i) false then t.words else 0).sum
 | [],_,_=>⟨rfl,rfl⟩
 | t :: l,n,hl=>by
  have ih:=sum_after is l (n+1) (fun j h=>by
   have:=hl (j+1) (by simp;omega)
   simp only [List.getElem_cons_succ] at this
   rw [show n+1+j=n+(j+1) by omega];exact this)
  have e:∀ (f:Nat→Th→Th),(fun i t=>f (n+1+i) t)=fun i t=>f (n+(i+1)) t:=fun f=>by funext i t;rw [show n+1+i=n+(i+1) by omega]
  have e2:∀ (f:Nat→Th→Int),(fun i t=>f (n+1+i) t)=fun i t=>f (n+(i+1)) t:=fun f=>by funext i t;rw [show n+1+i=n+(i+1) by omega]
  rw [e (cutT is),e2 (fun i t=>if is.getD i false then t.words else 0)] at ih
  have h0:=hl 0 (by simp)
  simp only [List.getElem_cons_zero,Nat.add_zero] at h0
  simp only [sumW] at ih ⊢
  simp only [List.mapIdx_cons,List.map_cons,List.sum_cons,Nat.add_zero]
  rw [ih.1,ih.2]
  cases hb:is.getD n false
  ·have hd:=cutT_dead (t:=t) hb
   simp [hd]
  ·obtain ⟨h1,h2⟩:=h0 hb
   have hl2:=cutT_live (t:=t) hb
   have hl3:=cutT_len hb h2
   simp only [hl2.1,hl2.2,h1,Th.words,hl3]
   simp
theorem Wd.after_sums {W:Wd} (h:W.ok) (major:Bool):(W.after major).young=0∧(W.after major).olds=sumL (W.pass major).1 W.T:=by
 obtain ⟨m,_⟩:=Wd.pass_mid h major
 have:=sum_after (W.pass major).1 W.T 0 (fun j hj hb=>by
  rw [Nat.zero_add,←atB_nat] at hb
  have hl:=m.live _ hb
  obtain ⟨h',e⟩:=Wd.live_th hl
  simp only [Int.toNat_natCast] at e
  rw [←e]
  exact ⟨hl.2.2,h.tk _ hl⟩)
 simp only [Nat.zero_add] at this
 exact this
theorem Wd.after_th_alive {W:Wd} (h:W.ok) {major:Bool} {i:Int} (hb:atB (W.pass major).1 i=true):((W.after major).th i).k=(W.th i).k:=by
 obtain ⟨m,_⟩:=Wd.pass_mid h major
 have hl:=m.live i hb
 rw [Wd.th_after hl.1 hl.2.1,cutT_kind]
theorem newRegs_mem {is:List Bool} {l:List It} {e:Int × Int} (h:e ∈ newRegs atB nowW is l):∃ i ∈ l,i.1=e∧i.2.1=false∧atB is e.1=true:=by
 unfold newRegs at h
 simp only [List.mem_map,List.mem_filter,Bool.and_eq_true,Bool.not_eq_true'] at h
 obtain ⟨i,⟨hi,h1,h2⟩,rfl⟩:=h
 exact ⟨i,hi,rfl,h1,h2⟩
theorem newWait_mem {is:List Bool} {l:List (Int × Int)} {e:Int × Int} (h:e ∈ newWait atB nowW is l):e ∈ l∧atB is e.1=true:=by
 unfold newWait at h
 simp only [List.mem_map,List.mem_filter] at h
 obtain ⟨i,⟨hi,h1⟩,rfl⟩:=h
 exact ⟨hi,h1⟩
theorem Wd.ok.after {W:Wd} (h:W.ok) {major:Bool} (hroom:sumL (W.pass major).1 W.T≤W.grow):(W.after major).ok:=by
 obtain ⟨m,hfst,hcnt,hits⟩:=Wd.pass_mid h major
 have hs:=Wd.after_sums h major
 have lv:∀ i,atB (W.pass major).1 i=true→(W.after major).live i:=fun i hi=>(Wd.after_live h).2 hi
 have clo1:∀ i,atB (W.first major) i=true→atB (W.pass major).1 i=true:=m.first
 have root:∀ v ∈ W.roots,v.1=3→atB (W.pass major).1 v.2=true:=fun v hv e=>by
  have hl:=Wd.okV_ref (h.rv v hv) e
  have e2:v=(3,v.2):=by cases v;simp_all
  exact m.first _ (Wd.first_at.2 ⟨hl.1,hl.2.1, .inr (by rw [←e2];exact hv)⟩)
 refine ⟨h.hr,fun v hv=>?_,fun i hi=>?_,fun i hi v hv=>?_,fun e he=>?_,fun e he=>?_,?_,h.m1,h.m2,h.g1,h.g2,?_,?_⟩
 ·rcases h.rv v hv with h1 | h1 | h1 | h1
  ·exact .inl h1
  ·exact .inr (.inl h1)
  ·exact .inr (.inr (.inl h1))
  ·exact .inr (.inr (.inr ⟨h1.1,lv _ (root v hv h1.1)⟩))
 ·have hb:=(Wd.after_live h).1 hi
  have hl:=m.live i hb
  rw [Wd.th_after hl.1 hl.2.1,cutT_kind,cutT_len (by rw [atB_toNat hl.1];exact hb) (h.tk i hl)]
  exact h.tk i hl
 ·have hb:=(Wd.after_live h).1 hi
  have hl:=m.live i hb
  rw [Wd.th_after hl.1 hl.2.1] at hv
  rcases cutT_fields h m.shut hl hb v hv with rfl | ⟨hv1,hv2⟩
  ·exact .inr (.inr (.inl ⟨rfl,rfl⟩))
  ·rcases h.tv i hl v hv1 with h1 | h1 | h1 | h1
   ·exact .inl h1
   ·exact .inr (.inl h1)
   ·exact .inr (.inr (.inl h1))
   ·refine .inr (.inr (.inr ⟨h1.1,lv _ ?_⟩))
    simp [inS,h1.1] at hv2
    exact hv2
 ·obtain ⟨i,hi,rfl,hd,hg⟩:=newRegs_mem he
  have h1:(i.1,i.2.1) ∈ (W.pass major).2.2.map (fun i=>(i.1,i.2.1)):=List.mem_map.2 ⟨i,hi,rfl⟩
  rw [hits] at h1
  obtain ⟨e,he',e2⟩:=List.mem_map.1 h1
  have e3:e=i.1:=congrArg (fun p:(Int × Int) × Bool=>p.1) e2
  have e4:(!atB (W.clo W.wait (W.first major)) e.2)=i.2.1:=congrArg (fun p:(Int × Int) × Bool=>p.2) e2
  have hgv:=h.gv e he'
  rw [e3] at hgv e4
  rw [hd] at e4
  refine ⟨lv _ hg,?_,lv _ (hfst _ (by simpa using e4))⟩
  rw [Wd.after_th_alive h hg];exact hgv.2.1
 ·obtain ⟨h1,h2⟩:=newWait_mem he
  have hwv:=m.wv e h1
  refine ⟨lv _ h2,by rw [Wd.after_th_alive h h2];exact hwv.2.1,lv _ (m.shut _ _ h2 (.inr (.inr (.inr ⟨hwv.2.1,h1⟩))))⟩
 ·have hq:=h.hq
  have h1:(W.after major).wait.length≤(W.pass major).2.1.length:=by
   simp only [Wd.after,newWait,List.length_map];exact List.length_filter_le _ _
  have h2:(W.after major).regs.length≤unN (W.pass major).2.2:=by
   simp only [Wd.after,newRegs,List.length_map]
   have hmv:∀ i ∈ (W.pass major).2.2,i.2.1=false→i.2.2=false:=by
    have key:∀ (l:List It) (is:List Bool) (q:List (Int × Int)),(∀ i ∈ l,i.2.1=false→i.2.2=false)→∀ i ∈ (scanM atB W.keepW is q l).2.2.1,i.2.1=false→i.2.2=false:=by
     intro l
     induction l with
     | nil=>intro is q _ i hi;simp [scanM] at hi
     | cons a l ih=>
      intro is q hl i hi
      simp only [scanM] at hi
      split at hi
      ·rename_i hc
       simp only [Bool.and_eq_true] at hc
       rcases List.mem_cons.1 hi with rfl | hi
       ·intro e;rw [hc.1.1] at e;cases e
       ·exact ih _ _ (fun j hj=>hl j (by simp [hj])) i hi
      ·rcases List.mem_cons.1 hi with rfl | hi
       ·exact hl _ (by simp)
       ·exact ih _ _ (fun j hj=>hl j (by simp [hj])) i hi
    have key2:∀ (n:Nat) (l:List It) (is:List Bool) (q:List (Int × Int)),(∀ i ∈ l,i.2.1=false→i.2.2=false)→∀ i ∈ (roundsM atB W.keepW n is q l).2.2,i.2.1=false→i.2.2=false:=by
     intro n
     induction n with
     | zero=>intro l is q hl;exact hl
     | succ n ih=>
      intro l is q hl
      simp only [roundsM]
      split
      ·exact ih _ _ _ (key l is q hl)
      ·exact key l is q hl
    exact key2 _ _ _ _ (fun i hi=>by simp only [itemsM,List.mem_map] at hi;obtain ⟨e,_,rfl⟩:=hi;intro _;rfl)
   unfold unN
   rw [←List.countP_eq_length_filter,←List.countP_eq_length_filter]
   exact List.countP_mono_left fun i hi h=>by
    simp only [Bool.and_eq_true,Bool.not_eq_true'] at h
    simp [hmv i hi h.1]
  show (W.after major).regs.length+(W.after major).wait.length≤24
  omega
 ·show (W.after major).young≤W.most;rw [hs.1];have:=h.m1;omega
 ·show (W.after major).olds≤W.grow;rw [hs.2];exact hroom
theorem Wd.ok.cut {W:Wd} (h:W.ok) (major:Bool):(W.cut major).2.ok:=by
 unfold Wd.cut
 split
 ·exact h
 ·split
  ·exact h
  ·exact h.after (by omega)
theorem Wd.ok.room {W:Wd} (h:W.ok) (n:Int) (hn:n≤13):(W.room n).2.ok∧((W.room n).1=0→n≤(W.room n).2.most-(W.room n).2.young):=by
 unfold Wd.room
 split
 ·refine ⟨h.cut _,fun h0=>?_⟩
  unfold Wd.cut at h0 ⊢
  split
  ·rename_i hc;rw [if_pos hc] at h0;simp at h0
  ·rename_i hc
   rw [if_neg hc] at h0
   split
   ·rename_i hd;rw [if_pos hd] at h0;simp at h0
   ·show n≤W.most-(W.after _).young
    rw [(Wd.after_sums h _).1]
    have:=h.m1;omega
 ·exact ⟨h,fun _=>by show n≤W.most-W.young;omega⟩
theorem Wd.ok.newT {W:Wd} (h:W.ok) {r k:Int} {l:List Int} (hf:fitsW k l.length=true):(W.newT r k l).2.ok:=by
 unfold Wd.newT
 have hl:=(fitsW_spec hf).2.2.2
 have hr:=h.room (1+l.length) (by omega)
 split
 ·rename_i h0
  refine hr.1.put (by simpa using hf) (fun v hv=>?_) (by simpa using hr.2 h0)
  obtain ⟨a,_,rfl⟩:=List.mem_map.1 hv
  exact Wd.rt_ok hr.1 a
 ·exact h
theorem Wd.thing_live {W:Wd} (h:W.ok) {k:Int} (hk:¬ W.thing k<0):W.live (W.thing k):=by
 unfold Wd.thing at hk ⊢
 split
 ·rename_i h3;exact Wd.okV_ref (Wd.rt_ok h k) h3
 ·rename_i h3;rw [if_neg h3] at hk;simp at hk
theorem Wd.guard_live {W:Wd} (h:W.ok) {k:Int} (hk:¬ W.guard k<0):W.live (W.guard k)∧(W.th (W.guard k)).k=5∧W.guard k=W.thing k:=by
 unfold Wd.guard at hk ⊢
 split
 ·rename_i h3;rw [if_pos h3] at hk;simp at hk
 ·rename_i h3
  have h5:(W.th (W.thing k)).k=5:=by
   by_cases e:(W.th (W.thing k)).k=5
   ·exact e
   ·exact absurd (Or.inr e) h3
  exact ⟨Wd.thing_live h (fun e=>h3 (.inl e)),h5,rfl⟩
theorem popW_mem:∀ {l:List (Int × Int)} {g:Int} {r:Int × List (Int × Int)},popW l g=some r→(g,r.1) ∈ l∧(∀ e ∈ r.2,e ∈ l)∧r.2.length+1=l.length
 | [],g,r,h=>by simp [popW] at h
 | e :: l,g,r,h=>by
  unfold popW at h
  split at h
  ·rename_i hg
   simp at h;subst h
   refine ⟨?_,fun e he=>by simp [he],rfl⟩
   rw [←hg];simp
  ·simp only [Option.map_eq_some_iff] at h
   obtain ⟨r',h1,rfl⟩:=h
   have ih:=popW_mem h1
   refine ⟨by simp [ih.1],fun x hx=>?_,by simp;omega⟩
   rcases List.mem_cons.1 hx with rfl | hx
   ·simp
   ·simp [ih.2.1 x hx]
theorem Wd.field_at {W:Wd} {x:St} (h:W.fieldC x=0):¬ W.thing x.a<0∧(W.th (W.thing x.a)).k≠5∧0≤x.i∧x.i<(W.th (W.thing x.a)).fs.length:=by
 unfold Wd.fieldC at h
 split at h
 ·simp at h
 ·rename_i hc
  split at h
  ·simp at h
  ·rename_i hd
   exact ⟨fun e=>hc (.inl e),fun e=>hc (.inr e),by omega,by omega⟩
theorem Wd.okV_num {W:Wd} {n:Int} (h1:-big≤n) (h2:n<big):W.okV (1,n):=.inr (.inl ⟨rfl,h1,h2⟩)
theorem checkM_use {x:St} (h:checkM x=0):¬ usesM x.k=-1∧(usesM x.k%2=1→rootOk x.r=true)∧(usesM x.k/2%2=1→rootOk x.a=true)∧(usesM x.k/4%2=1→rootOk x.b=true) ∧
  (x.k=1→-big≤x.n∧x.n<big)∧(x.k=5→0≤x.n∧x.n≤12):=by
 unfold checkM at h
 split at h
 ·simp at h
 ·rename_i h1
  split at h
  ·simp at h
  ·rename_i h2
   split at h
   ·simp at h
   ·rename_i h3
    split at h
    ·simp at h
    ·rename_i h4
     have nb:∀ b:Bool,¬ b=false→b=true:=fun b=>by cases b <;> simp
     exact ⟨h1,fun h=>nb _ fun e=>h2 (.inl ⟨h,e⟩),fun h=>nb _ fun e=>h2 (.inr (.inl ⟨h,e⟩)),fun h=>nb _ fun e=>h2 (.inr (.inr ⟨h,e⟩)),
      fun h=>Classical.not_not.1 fun e=>h3 ⟨h,e⟩,fun h=>Classical.not_not.1 fun e=>h4 ⟨h,e⟩⟩
theorem Wd.ok.do {W:Wd} (h:W.ok) (x:St):(W.do x).2.ok:=by
 unfold Wd.do
 split
 ·rename_i hc
  have hu:=checkM_use hc
  unfold Wd.step
  by_cases k1:x.k=1
  ·rw [if_pos k1]
   exact h.setR (Wd.okV_num (hu.2.2.2.2.1 k1).1 (hu.2.2.2.2.1 k1).2) _
  rw [if_neg k1]
  by_cases k2:x.k=2
  ·rw [if_pos k2]
   exact h.setR (.inl ⟨rfl,rfl⟩) _
  rw [if_neg k2]
  by_cases k3:x.k=3
  ·rw [if_pos k3]
   exact h.setR (Wd.rt_ok h _) _
  rw [if_neg k3]
  by_cases k4:x.k=4
  ·rw [if_pos k4]
   exact h.newT rfl
  rw [if_neg k4]
  by_cases k5:x.k=5
  ·rw [if_pos k5]
   refine h.newT ?_
   have:=hu.2.2.2.2.2 k5
   simp [fitsW];omega
  rw [if_neg k5]
  by_cases k6:x.k=6
  ·rw [if_pos k6]
   exact h.newT rfl
  rw [if_neg k6]
  by_cases k7:x.k=7
  ·rw [if_pos k7]
   exact h.newT rfl
  rw [if_neg k7]
  by_cases k8:x.k=8
  ·rw [if_pos k8]
   exact h.newT rfl
  rw [if_neg k8]
  by_cases k9:x.k=9
  ·rw [if_pos k9]
   unfold Wd.reg
   split
   ·exact h
   ·rename_i h1
    split
    ·exact h
    ·rename_i h2
     have ha:=Wd.thing_live h (fun e=>h1 (.inl e))
     have hb:=Wd.guard_live h (fun e=>h1 (.inr e))
     refine ⟨h.hr,h.rv,h.tk,h.tv,fun e he=>?_,h.wv,?_,h.m1,h.m2,h.g1,h.g2,h.uy,h.uo⟩
     ·rcases List.mem_append.1 he with he | he
      ·exact h.gv e he
      ·rw [List.mem_singleton.1 he];exact ⟨hb.1,hb.2.1,ha⟩
     ·show (W.regs ++ _).length+W.wait.length≤24
      simp;omega
  rw [if_neg k9]
  by_cases k10:x.k=10
  ·rw [if_pos k10]
   unfold Wd.pop
   split
   ·exact h
   ·rename_i h1
    split
    ·exact h
    ·rename_i r hr
     have hp:=popW_mem hr
     have hw:=h.wv _ hp.1
     refine ⟨by simpa using h.hr,fun v hv=>?_,h.tk,h.tv,h.gv,fun e he=>h.wv e (hp.2.1 e he),?_,h.m1,h.m2,h.g1,h.g2,h.uy,h.uo⟩
     ·rcases List.mem_or_eq_of_mem_set hv with h2 | rfl
      ·exact h.rv v h2
      ·exact .inr (.inr (.inr ⟨rfl,hw.2.2⟩))
     ·have:=h.hq
      show W.regs.length+r.2.length≤24
      omega
  rw [if_neg k10]
  by_cases k11:x.k=11
  ·rw [if_pos k11]
   unfold Wd.get
   split
   ·rename_i h0
    have hf:=Wd.field_at h0
    refine h.setR ?_ _
    rw [List.getD_eq_getElem?_getD,List.getElem?_eq_getElem (by omega)]
    exact h.tv _ (Wd.thing_live h hf.1) _ (List.getElem_mem _)
   ·exact h
  rw [if_neg k11]
  by_cases k12:x.k=12
  ·rw [if_pos k12]
   unfold Wd.set
   split
   ·rename_i h0
    have hf:=Wd.field_at h0
    have hl:=Wd.thing_live h hf.1
    refine h.setF hl (by simp) fun v hv=>?_
    rcases List.mem_or_eq_of_mem_set hv with h2 | rfl
    ·exact h.tv _ hl v h2
    ·exact Wd.rt_ok h _
   ·exact h
  rw [if_neg k12]
  by_cases k13:x.k=13
  ·rw [if_pos k13]
   unfold Wd.len
   split
   ·exact h
   ·rename_i h1
    have hl:=Wd.thing_live h (fun e=>h1 (.inl e))
    have:=fitsW_spec (h.tk _ hl)
    exact h.setR (Wd.okV_num (by unfold big;omega) (by unfold big;omega)) _
  rw [if_neg k13]
  by_cases k14:x.k=14
  ·rw [if_pos k14]
   unfold Wd.same
   exact h.setR (Wd.okV_num (by unfold big;split <;> omega) (by unfold big;split <;> omega)) _
  rw [if_neg k14]
  by_cases k15:x.k=15
  ·rw [if_pos k15]
   exact h.cut _
  rw [if_neg k15]
  exact h.cut _
 ·exact h
theorem Wd.new_ok {n o:Int} (h1:16≤n) (h2:n≤256) (h3:0≤o) (h4:o≤1024):(Wd.new n o).ok:=by
 have nl:∀ i,¬ (Wd.new n o).live i:=fun i h=>by have h1:=h.1;have h2:=h.2.1;simp [Wd.new] at h2;omega
 refine ⟨by simp [Wd.new],fun v hv=>?_,fun i hi=>(nl i hi).elim,fun i hi=>(nl i hi).elim,fun e he=>by simp [Wd.new] at he,fun e he=>by simp [Wd.new] at he,by simp [Wd.new],h1,h2,h3,h4,?_,?_⟩
 ·simp [Wd.new] at hv;subst hv;exact .inl ⟨rfl,rfl⟩
 ·show sumW [] _≤n;simp [sumW];omega
 ·show sumW [] _≤o;simp [sumW];omega
end
section
def encV (φ:Int→Int) (v:Vl):Int:=if v.1=3 then 4*φ v.2+1 else if v.1=1 then 4*v.2 else if v.1=2 then 3 else 2
def encE (φ:Int→Int) (e:Int × Int):Int × Int:=(4*φ e.1+1,4*φ e.2+1)
theorem encV_ref (φ:Int→Int) {v:Vl} (h:v.1=3):encV φ v=4*φ v.2+1:=if_pos h
theorem encV_mod {W:Wd} {φ:Int→Int} {v:Vl} (h:W.okV v):encV φ v%4=1↔v.1=3:=by
 rcases h with h | h | h | h
 ·simp [encV,h.1]
 ·simp [encV,h.1]
 ·simp [encV,h.1]
 ·simp only [encV,h.1,if_true,iff_true];omega
theorem encV_plain {φ ψ:Int→Int} {v:Vl} (h:v.1≠3):encV φ v=encV ψ v:=by simp [encV,h]
theorem valO_encV {W:Wd} {φ:Int→Int} {v:Vl} (h:W.okV v):valO (encV φ v)=reV φ v:=by
 rcases h with h | h | h | h
 ·have:v=(0,0):=by cases v;simp_all
  subst this;rfl
 ·have e:encV φ v=4*v.2:=by simp [encV,h.1]
  rw [e]
  have h1:(4*v.2)%4=0:=by omega
  have h2:(4*v.2)/4=v.2:=by omega
  have:=decW_int (x:=4*v.2) h1 (by rw [h2];exact h.2)
  unfold valO reV
  rw [if_neg (by omega),this,if_neg (by rw [h.1];decide),h2]
  cases v;simp_all
 ·have:v=(2,0):=by cases v;simp_all
  subst this;rfl
 ·have e:encV φ v=4*φ v.2+1:=encV_ref φ h.1
  rw [e]
  unfold valO reV
  rw [if_pos (by omega),if_pos h.1]
  congr 1;omega
def Tile (A:Ar):List Int→Int→Int→Prop
 | [],a,b=>a=b
 | p :: l,a,b=>p=a∧(A.thing p).2.2=0∧Tile A l (p+1+(A.thing p).2.1) b
theorem Tile.le {A:Ar}:∀ {l:List Int} {a b:Int},Tile A l a b→a≤b
 | [],a,b,h=>by have:a=b:=h;omega
 | p :: l,a,b,h=>by
  have:=Tile.le h.2.2
  have:=A.thing_fields p
  have:=h.1
  omega
theorem Tile.mem {A:Ar}:∀ {l:List Int} {a b:Int},Tile A l a b→∀ p ∈ l,a≤p∧p+1+(A.thing p).2.1≤b∧(A.thing p).2.2=0
 | q :: l,a,b,h,p,hp=>by
  rcases List.mem_cons.1 hp with rfl | hp
  ·have:=Tile.le h.2.2
   have:=h.1
   exact ⟨by omega,by omega,h.2.1⟩
  ·have h1:=Tile.mem h.2.2 p hp
   have:=A.thing_fields q
   have:=h.1
   exact ⟨by omega,h1.2.1,h1.2.2⟩
theorem Tile.apart {A:Ar}:∀ {l:List Int} {a b:Int},Tile A l a b→l.Pairwise fun p q=>p+1+(A.thing p).2.1≤q
 | [],_,_,_=>List.Pairwise.nil
 | p :: l,a,b,h=>List.Pairwise.cons (fun q hq=>(Tile.mem h.2.2 q hq).1) (Tile.apart h.2.2)
theorem Tile.congr {A B:Ar}:∀ {l:List Int} {a b:Int},(∀ p ∈ l,B.thing p=A.thing p)→Tile A l a b→Tile B l a b
 | [],_,_,_,h=>h
 | p :: l,a,b,hs,h=>by
  refine ⟨h.1,?_,?_⟩
  ·rw [hs p (by simp)];exact h.2.1
  ·rw [hs p (by simp)];exact Tile.congr (fun q hq=>hs q (by simp [hq])) h.2.2
theorem Tile.app {A:Ar} {m:List Int} {c:Int}:∀ {l:List Int} {a b:Int},Tile A l a b→Tile A m b c→Tile A (l ++ m) a c
 | [],a,b,h,k=>by have:a=b:=h;subst this;exact k
 | p :: l,a,b,h,k=>⟨h.1,h.2.1,Tile.app h.2.2 k⟩
theorem Tile.list {A:Ar}:∀ {l:List Int} {a b:Int} {n:Nat},Tile A l a b→(b-a).toNat≤n→A.list n a b=l
 | [],a,b,n,h,hn=>by
  have:a=b:=h
  subst this
  exact Ar.list_end (fun h=>by omega)
 | p :: l,a,b,n,h,hn=>by
  have hle:=Tile.le h.2.2
  have hf:=A.thing_fields p
  have he:=h.1
  subst he
  obtain ⟨n,rfl⟩:∃ m,n=m+1:=⟨n-1,by omega⟩
  rw [Ar.list_step (by omega) h.2.1,Tile.list h.2.2 (by omega)]
theorem Tile.sum {A:Ar}:∀ {l:List Int} {a b:Int},Tile A l a b→b=a+(l.map fun p=>1+(A.thing p).2.1).sum
 | [],a,b,h=>by have:a=b:=h;subst this;simp
 | p :: l,a,b,h=>by
  have:=Tile.sum h.2.2
  have:=h.1
  simp only [List.map_cons,List.sum_cons]
  omega
theorem Ar.load_store {A:Ar} (h:A.ok) (p q x:Int):(A.store p x).load q=if q=p∧A.inUse p=true then x else A.load q:=by
 have hu:∀ r,(A.store p x).inUse r=A.inUse r:=fun r=>by
  unfold Ar.inUse Ar.young Ar.old
  rw [A.store_yng,A.store_nur,A.store_grn]
 unfold Ar.load
 rw [hu]
 by_cases hp:A.inUse p=true
 ·have hl:=h.use_lt hp
  have e:A.store p x={ A with ws:=A.ws.set p.toNat x }:=by unfold Ar.store;rw [if_pos hp]
  by_cases hq:A.inUse q=true
  ·have hlq:=h.use_lt hq
   rw [if_pos hq,if_pos hq,e]
   show (A.ws.set p.toNat x).getD q.toNat 0=_
   simp only [List.getD_eq_getElem?_getD,List.getElem?_set]
   by_cases e2:q=p
   ·subst e2;rw [if_pos rfl,if_pos (by omega),if_pos ⟨rfl,hp⟩];rfl
   ·rw [if_neg (by omega),if_neg (fun h=>e2 h.1)]
  ·rw [if_neg hq,if_neg hq,if_neg (fun hh=>by rw [hh.1] at hq;exact hq hh.2)]
 ·have e:A.store p x=A:=by unfold Ar.store;rw [if_neg hp]
  rw [e,if_neg (fun hh:q=p∧A.inUse p=true=>hp hh.2)]
end
section
def numV (M:List Int) (v:Vl):Vl:=reV (fun x=>((M.idxOf x:Nat):Int)) v
def numN (M:List Int) (n:Nd):Nd:=(n.1,n.2.map (numV M))
theorem numV_app {M m:List Int} {v:Vl} (h:v.1=3→v.2 ∈ M):numV (M ++ m) v=numV M v:=by
 unfold numV reV
 by_cases h3:v.1=3
 ·rw [if_pos h3,if_pos h3]
  dsimp only
  rw [List.idxOf_append,if_pos (h h3)]
 ·rw [if_neg h3,if_neg h3]
theorem numV_map_app {M m:List Int} {l:List Vl} (h:∀ v ∈ l,v.1=3→v.2 ∈ M):l.map (numV (M ++ m))=l.map (numV M):=
 List.map_congr_left fun v hv=>numV_app (h v hv)
structure Told (G:Gr) (L:List Vl) (s s':VS):Prop where
 pre:∃ m,s'.1=s.1 ++ m
 len:s'.2.length=s'.1.length
 nodup:s.1.Nodup→s'.1.Nodup
 met:∀ v ∈ L,v.1=3→v.2 ∈ s'.1
 shut:∀ (k:Nat) (x:Int),s.1.length≤k→s'.1[k]? = some x→∀ v ∈ (G x).2,v.1=3→v.2 ∈ s'.1
 node:∀ (k:Nat) (x:Int),s.1.length≤k→s'.1[k]? = some x→s'.2[k]? = some (numN s'.1 (G x))
 keep:∀ k,k<s.1.length→s'.2[k]? = s.2[k]?
 led:∀ (k:Nat) (x:Int),s.1.length≤k→s'.1[k]? = some x→((3,x):Vl) ∈ L∨∃ (j:Nat) (y:Int),s.1.length≤j∧j<k∧s'.1[j]? = some y∧((3,x):Vl) ∈ (G y).2
theorem Told.refl (G:Gr) {L:List Vl} {s:VS} (hl:s.2.length=s.1.length) (hm:∀ v ∈ L,v.1=3→v.2 ∈ s.1):Told G L s s:=
 have no:∀ (k:Nat) (x:Int),s.1.length≤k→s.1[k]? = some x→False:=fun k x h1 h2=>by
  rw [List.getElem?_eq_none h1] at h2;cases h2
 ⟨⟨[],by simp⟩,hl,fun h=>h,hm,fun k x h1 h2=>(no k x h1 h2).elim,fun k x h1 h2=>(no k x h1 h2).elim,fun _ _=>rfl,fun k x h1 h2=>(no k x h1 h2).elim⟩
theorem getElem?_pre {α:Type} {a m:List α} {k:Nat} (h:k<a.length):(a ++ m)[k]? = a[k]? := List.getElem?_append_left h
theorem Told.then {G:Gr} {L L':List Vl} {s t u:VS} (A:Told G L s t) (B:Told G L' t u):Told G (L ++ L') s u:=by
 obtain ⟨m,hm⟩:=A.pre
 obtain ⟨m',hm'⟩:=B.pre
 have hsub:∀ x ∈ t.1,x ∈ u.1:=fun x hx=>by rw [hm'];simp [hx]
 have ht:s.1.length≤t.1.length:=by rw [hm];simp
 refine ⟨⟨m ++ m',by rw [hm',hm];simp⟩,B.len,fun h=>B.nodup (A.nodup h),fun v hv h3=>?_,fun k x hk hx v hv h3=>?_,fun k x hk hx=>?_,fun k hk=>?_,fun k x hk hx=>?_⟩
 ·rcases List.mem_append.1 hv with h | h
  ·exact hsub _ (A.met v h h3)
  ·exact B.met v h h3
 ·by_cases hlt:k<t.1.length
  ·rw [hm',getElem?_pre hlt] at hx
   exact hsub _ (A.shut k x hk hx v hv h3)
  ·exact B.shut k x (by omega) hx v hv h3
 ·by_cases hlt:k<t.1.length
  ·have hx':t.1[k]? = some x:=by rw [hm',getElem?_pre hlt] at hx;exact hx
   rw [B.keep k hlt,A.node k x hk hx']
   unfold numN
   rw [hm',numV_map_app (A.shut k x hk hx')]
  ·exact B.node k x (by omega) hx
 ·rw [B.keep k (by omega),A.keep k hk]
 ·by_cases hlt:k<t.1.length
  ·have hx':t.1[k]? = some x:=by rw [hm',getElem?_pre hlt] at hx;exact hx
   rcases A.led k x hk hx' with h | ⟨j,y,h1,h0,h2,h3⟩
   ·exact .inl (by simp [h])
   ·exact .inr ⟨j,y,h1,h0,by rw [hm',getElem?_pre (by omega)];exact h2,h3⟩
  ·rcases B.led k x (by omega) hx with h | ⟨j,y,h1,h0,h2,h3⟩
   ·exact .inl (by simp [h])
   ·exact .inr ⟨j,y,by omega,h0,h2,h3⟩
theorem fldM_told {G:Gr} {U:List Int} {n:Nat} {f:Vl→VS→Vl × VS}
  (h:∀ v s,(v.1=3→v.2 ∈ U)→unM U s.1≤n→s.2.length=s.1.length→Told G [v] s (f v s).2∧(f v s).1=numV (f v s).2.1 v) :
  ∀ (l:List Vl) (s:VS),(∀ v ∈ l,v.1=3→v.2 ∈ U)→unM U s.1≤n→s.2.length=s.1.length→Told G l s (fldM f l s).2∧(fldM f l s).1=l.map (numV (fldM f l s).2.1)
 | [],s,_,_,hl=>⟨Told.refl G hl (fun v hv=>by cases hv),rfl⟩
 | v :: l,s,hL,hn,hl=>by
  obtain ⟨A,e⟩:=h v s (hL v (by simp)) hn hl
  obtain ⟨m,hm⟩:=A.pre
  have:=unM_app U s.1 m
  obtain ⟨B,e2⟩:=fldM_told h l (f v s).2 (fun u hu=>hL u (by simp [hu])) (by rw [hm];omega) A.len
  refine ⟨A.then B,?_⟩
  simp only [fldM,List.map_cons]
  obtain ⟨m',hm'⟩:=B.pre
  have h1:numV (fldM f l (f v s).2).2.1 v=numV (f v s).2.1 v:=by rw [hm'];exact numV_app (A.met v (by simp))
  rw [h1,←e,←e2]
theorem valM_told {G:Gr} {U:List Int} (I:InU G U):∀ (n:Nat) (v:Vl) (s:VS),(v.1=3→v.2 ∈ U)→unM U s.1≤n→s.2.length=s.1.length →
  Told G [v] s (valM G n v s).2∧(valM G n v s).1=numV (valM G n v s).2.1 v:=by
 intro n
 induction n with
 | zero=>
  intro v s hv hn hl
  by_cases h3:v.1=3
  ·have hm:=unM_zero (Nat.le_zero.1 hn) (hv h3)
   rw [valM_met G _ h3 hm]
   refine ⟨Told.refl G hl (fun u hu h=>by rw [List.mem_singleton.1 hu];exact hm),?_⟩
   simp [numV,reV,h3,refV]
  ·rw [valM_plain G _ _ h3]
   exact ⟨Told.refl G hl (fun u hu h=>absurd (by rw [←List.mem_singleton.1 hu];exact h) h3),by simp [numV,reV,h3]⟩
 | succ n ih=>
  intro v s hv hn hl
  by_cases h3:v.1=3
  ·by_cases hm:v.2 ∈ s.1
   ·rw [valM_met G _ h3 hm]
    refine ⟨Told.refl G hl (fun u hu h=>by rw [List.mem_singleton.1 hu];exact hm),?_⟩
    simp [numV,reV,h3,refV]
   ·have hu:=unM_push (hv h3) hm
    obtain ⟨A,e⟩:=fldM_told ih (G v.2).2 (s.1 ++ [v.2],s.2 ++ [((G v.2).1,[])]) (I.shut _ (hv h3)) (Nat.le_of_lt_succ (Nat.lt_of_lt_of_le hu hn)) (by simp [hl])
    obtain ⟨m,hmm⟩:=A.pre
    dsimp only at hmm
    rw [valM_new G n h3 hm]
    have hat:(fldM (valM G n) (G v.2).2 (s.1 ++ [v.2],s.2 ++ [((G v.2).1,[])])).2.1[s.1.length]? = some v.2:=by rw [hmm];simp
    have hlt:s.1.length<(fldM (valM G n) (G v.2).2 (s.1 ++ [v.2],s.2 ++ [((G v.2).1,[])])).2.1.length:=by rw [hmm];simp
    refine ⟨⟨⟨v.2 :: m,by dsimp only;rw [hmm];simp⟩,by dsimp only;rw [List.length_set];exact A.len,fun h=>A.nodup (by
      rw [List.nodup_append]
      exact ⟨h,by simp,fun a ha b hb e=>hm (by rw [←List.mem_singleton.1 hb,←e];exact ha)⟩),fun u hu h=>?_,fun k x hk hx u hu h=>?_,fun k x hk hx=>?_,fun k hk=>?_,fun k x hk hx=>?_⟩,?_⟩
    ·rw [List.mem_singleton.1 hu];dsimp only;rw [hmm];simp
    ·by_cases he:k=s.1.length
     ·subst he
      dsimp only at hx ⊢
      rw [hat] at hx;cases hx
      exact A.met u hu h
     ·exact A.shut k x (by simp;omega) hx u hu h
    ·dsimp only at hx ⊢
     by_cases he:k=s.1.length
     ·subst he
      rw [hat] at hx;cases hx
      rw [List.getElem?_set_self (by rw [A.len];exact hlt)]
      unfold numN
      rw [←e]
     ·rw [List.getElem?_set_ne (by omega)]
      exact A.node k x (by simp;omega) hx
    ·dsimp only
     rw [List.getElem?_set_ne (by omega),A.keep k (by simp;omega)]
     dsimp only
     rw [List.getElem?_append_left (by omega)]
    ·dsimp only at hx ⊢
     by_cases he:k=s.1.length
     ·subst he
      rw [hat] at hx;cases hx
      left
      rw [List.mem_singleton,←h3]
     ·right
      rcases A.led k x (by simp;omega) hx with h | ⟨j,y,h1,h0,h2,h4⟩
      ·exact ⟨s.1.length,v.2,Nat.le_refl _,by omega,hat,h⟩
      ·exact ⟨j,y,by simp at h1;omega,h0,h2,h4⟩
    ·dsimp only
     unfold numV reV
     rw [if_pos h3,hmm]
     dsimp only
     rw [List.idxOf_append,if_pos (by simp),List.idxOf_append,if_neg hm]
     simp [refV]
  ·rw [valM_plain G _ _ h3]
   exact ⟨Told.refl G hl (fun u hu h=>absurd (by rw [←List.mem_singleton.1 hu];exact h) h3),by simp [numV,reV,h3]⟩
def metM (G:Gr) (roots:List Vl):List Int:=(fldM (valM G deep) roots ([],[])).2.1
theorem viewM_told {G:Gr} {U:List Int} (I:InU G U) (hU:U.length≤deep) {roots:List Vl} (hr:∀ v ∈ roots,v.1=3→v.2 ∈ U) :
  viewM G roots=(roots.map (numV (metM G roots)),(metM G roots).map fun x=>numN (metM G roots) (G x))∧(metM G roots).Nodup∧(∀ v ∈ roots,v.1=3→v.2 ∈ metM G roots) ∧
  (∀ x ∈ metM G roots, ∀ v ∈ (G x).2,v.1=3→v.2 ∈ metM G roots)∧∀ (k:Nat) (x:Int),(metM G roots)[k]? = some x→((3,x):Vl) ∈ roots∨∃ (j:Nat) (y:Int),j<k∧(metM G roots)[j]? = some y∧((3,x):Vl) ∈ (G y).2:=by
 obtain ⟨A,e⟩:=fldM_told (valM_told I deep) roots ([],[]) hr (Nat.le_trans (unM_nil U) hU) rfl
 unfold viewM
 have hM:metM G roots=(fldM (valM G deep) roots ([],[])).2.1:=rfl
 rw [←hM] at e
 refine ⟨Prod.ext e ?_,A.nodup (by simp),A.met,fun x hx v hv h3=>?_,fun k x hx=>?_⟩
 ·refine List.ext_getElem? fun k=>?_
  dsimp only
  rw [List.getElem?_map,hM]
  cases hk:(fldM (valM G deep) roots ([],[])).2.1[k]? with
  | none=>
   rw [List.getElem?_eq_none_iff] at hk
   rw [List.getElem?_eq_none (by rw [A.len];exact hk)];rfl
  | some x=>rw [A.node k x (by simp) hk];rfl
 ·obtain ⟨k,hk,rfl⟩:=List.mem_iff_getElem.1 hx
  exact A.shut k _ (by simp) (List.getElem?_eq_getElem hk) v hv h3
 ·rcases A.led k x (by simp) hx with h | ⟨j,y,h1,h0,h2,h3⟩
  ·exact .inl h
  ·exact .inr ⟨j,y,h0,h2,h3⟩
end
section
structure Rep (O:Wo) (W:Wd) (φ:Int→Int):Prop where
 ho:O.ok
 hw:W.ok
 ty:Tile O.ar O.ar.things.1 0 O.ar.yng
 tz:Tile O.ar O.ar.things.2 O.ar.nur O.ar.grn
 inj:∀ i j,W.live i→W.live j→φ i=φ j→i=j
 onto:∀ p,p ∈ O.ar.things.1∨p ∈ O.ar.things.2→∃ i,W.live i∧φ i=p
 iny:∀ i,W.live i→(W.th i).old=false→φ i ∈ O.ar.things.1
 ino:∀ i,W.live i→(W.th i).old=true→φ i ∈ O.ar.things.2
 th:∀ i,W.live i→O.ar.thing (φ i)=((W.th i).k,((W.th i).fs.length:Int),0)
 fl:∀ i,W.live i→∀ (j:Nat) (v:Vl),(W.th i).fs[j]? = some v→O.ar.load (φ i+1+j)=encV φ v
 rt:O.rt=W.roots.map (encV φ)
 rg:O.rg=W.regs.map (encE φ)
 wt:O.wt=W.wait.map (encE φ)
 nur:(O.ar.nur:Int)=W.most
 len:(O.ar.ws.length:Int)=W.most+W.grow
 cl:O.cd.length=cardsN W.grow
 card:∀ i,W.live i→(W.th i).old=true→∀ v ∈ (W.th i).fs,v.1=3→(W.th v.2).old=false→dirtyL O.ar.nur O.cd (φ i)=true
section
variable {O:Wo} {W:Wd} {φ:Int→Int}
theorem young_iff {A:Ar} {i:Int}:A.young i=true↔0≤i∧i<A.yng:=by simp [Ar.young]
theorem old_iff {A:Ar} {i:Int}:A.old i=true↔(A.nur:Int)≤i∧i<A.grn:=by simp [Ar.old]
theorem Tile.in_young {A:Ar} {l:List Int} (h:Tile A l 0 A.yng) {p:Int} (hp:p ∈ l) {j:Int} (h0:0≤j) (h1:j≤(A.thing p).2.1):A.young (p+j)=true:=by
 have:=Tile.mem h p hp
 rw [young_iff];omega
theorem Tile.in_old {A:Ar} {l:List Int} (h:Tile A l A.nur A.grn) {p:Int} (hp:p ∈ l) {j:Int} (h0:0≤j) (h1:j≤(A.thing p).2.1):A.old (p+j)=true:=by
 have:=Tile.mem h p hp
 rw [old_iff];omega
theorem Rep.young (R:Rep O W φ) {i:Int} (hi:W.live i) (ho:(W.th i).old=false) {j:Int} (h0:0≤j) (h1:j≤(W.th i).fs.length):O.ar.young (φ i+j)=true:=
 R.ty.in_young (R.iny i hi ho) h0 (by rw [R.th i hi];exact h1)
theorem Rep.old (R:Rep O W φ) {i:Int} (hi:W.live i) (ho:(W.th i).old=true) {j:Int} (h0:0≤j) (h1:j≤(W.th i).fs.length):O.ar.old (φ i+j)=true:=
 R.tz.in_old (R.ino i hi ho) h0 (by rw [R.th i hi];exact h1)
theorem not_both {A:Ar} (h:A.ok) {i:Int} (hy:A.young i=true):A.old i=false:=by
 have:=h.h1
 rw [young_iff] at hy
 cases ho:A.old i
 ·rfl
 ·rw [old_iff] at ho;omega
theorem Rep.young_iff (R:Rep O W φ) {i:Int} (hi:W.live i):O.ar.young (φ i)=true↔(W.th i).old=false:=by
 constructor
 ·intro h
  cases ho:(W.th i).old
  ·rfl
  ·have:=R.old hi ho (j:=0) (by omega) (by omega)
   rw [Int.add_zero,not_both R.ho.ha h] at this;cases this
 ·intro h
  have:=R.young hi h (j:=0) (by omega) (by omega)
  rwa [Int.add_zero] at this
theorem Rep.old_iff (R:Rep O W φ) {i:Int} (hi:W.live i):O.ar.old (φ i)=true↔(W.th i).old=true:=by
 constructor
 ·intro h
  cases ho:(W.th i).old
  ·have:=(R.young_iff hi).2 ho
   rw [not_both R.ho.ha this] at h;cases h
  ·rfl
 ·intro h
  have:=R.old hi h (j:=0) (by omega) (by omega)
  rwa [Int.add_zero] at this
theorem Rep.use (R:Rep O W φ) {i:Int} (hi:W.live i) {j:Int} (h0:0≤j) (h1:j≤(W.th i).fs.length):O.ar.inUse (φ i+j)=true:=by
 unfold Ar.inUse
 rw [Bool.or_eq_true]
 cases ho:(W.th i).old
 ·exact .inl (R.young hi ho h0 h1)
 ·exact .inr (R.old hi ho h0 h1)
theorem Rep.place (R:Rep O W φ) {i:Int} (hi:W.live i):0≤φ i∧φ i<1280∧φ i<O.ar.ws.length:=by
 have:=R.use hi (j:=0) (by omega) (by omega)
 rw [Int.add_zero] at this
 have:=R.ho.ha.use_lt this
 have:=R.ho.ha.h4
 omega
theorem pairwise_two {l:List Int} {f:Int→Int} (h:l.Pairwise fun p q=>p+1+f p≤q) {p q:Int} (hp:p ∈ l) (hq:q ∈ l):p=q∨p+1+f p≤q∨q+1+f q≤p:=by
 induction h with
 | nil=>cases hp
 | cons h1 _ ih=>
  rcases List.mem_cons.1 hp with rfl | hp'
  ·rcases List.mem_cons.1 hq with rfl | hq'
   ·exact .inl rfl
   ·exact .inr (.inl (h1 q hq'))
  ·rcases List.mem_cons.1 hq with rfl | hq'
   ·exact .inr (.inr (h1 p hp'))
   ·exact ih hp' hq'
theorem Rep.apart (R:Rep O W φ) {i j:Int} (hi:W.live i) (hj:W.live j) (h:i≠j):φ i+1+(W.th i).fs.length≤φ j∨φ j+1+(W.th j).fs.length≤φ i:=by
 have hne:φ i≠φ j:=fun e=>h (R.inj i j hi hj e)
 have h1:=R.ho.ha.h1
 have ti:=R.th i hi;have tj:=R.th j hj
 cases oi:(W.th i).old <;> cases oj:(W.th j).old
 ·have:=pairwise_two (f:=fun p=>(O.ar.thing p).2.1) R.ty.apart (R.iny i hi oi) (R.iny j hj oj)
  rw [ti,tj] at this
  dsimp only at this
  omega
 ·have a:=R.ty.mem _ (R.iny i hi oi);have b:=R.tz.mem _ (R.ino j hj oj)
  rw [ti] at a
  dsimp only at a
  omega
 ·have a:=R.tz.mem _ (R.ino i hi oi);have b:=R.ty.mem _ (R.iny j hj oj)
  rw [tj] at b
  dsimp only at b
  omega
 ·have:=pairwise_two (f:=fun p=>(O.ar.thing p).2.1) R.tz.apart (R.ino i hi oi) (R.ino j hj oj)
  rw [ti,tj] at this
  dsimp only at this
  omega
theorem Tile.nodup {A:Ar} {l:List Int} {a b:Int} (h:Tile A l a b):l.Nodup:=by
 refine List.Pairwise.imp ?_ h.apart
 intro p q hpq e
 have:=A.thing_fields p
 omega
theorem map_waits (h:∀ i j,W.live i→W.live j→φ i=φ j→i=j):∀ (l:List (Int × Int)),(∀ e ∈ l,W.okE e)→∀ i,W.live i→waitO (l.map (encE φ)) (4*φ i+1)=(waitAt l i).map fun x=>4*φ x+1
 | [],_,_,_=>rfl
 | e :: l,hl,i,hi=>by
  have ih:=map_waits h l (fun e he=>hl e (by simp [he])) i hi
  have he:=hl e (by simp)
  unfold waitO waitAt at *
  simp only [List.map_cons,List.filter_cons]
  by_cases c:e.1=i
  ·have c':(encE φ e).1=4*φ i+1:=by simp [encE,c]
   rw [if_pos (by simpa using c'),if_pos (by simpa using c)]
   simp only [List.map_cons,ih]
   simp [encE]
  ·have c':¬ (encE φ e).1=4*φ i+1:=by
    intro h'
    simp only [encE] at h'
    exact c (h _ _ he.1 hi (by omega))
   rw [if_neg (by simpa using c'),if_neg (by simpa using c)]
   exact ih
theorem Rep.fields (R:Rep O W φ) {i:Int} (hi:W.live i):O.ar.fields (φ i)=(W.th i).fs.map (encV φ):=by
 unfold Ar.fields
 rw [R.th i hi]
 apply List.ext_getElem
 ·simp
 ·intro k h1 h2
  simp only [List.length_map,List.length_range] at h1 h2
  simp only [List.getElem_map,List.getElem_range]
  exact R.fl i hi k _ (List.getElem?_eq_getElem (by simpa using h2))
theorem Rep.iso (R:Rep O W φ):Iso W.gr O.gr W.live φ:=by
 refine ⟨R.inj,fun i hi=>?_,fun i hi v hv h3=>?_⟩
 ·unfold Wo.gr Wd.gr
  dsimp only
  rw [R.th i hi,R.fields hi]
  dsimp only
  refine Prod.ext rfl ?_
  dsimp only
  rw [List.map_append,List.map_map]
  congr 1
  ·refine List.map_congr_left fun v hv=>?_
   exact valO_encV (R.hw.tv i hi v hv)
  ·by_cases hk:(W.th i).k=5
   ·rw [if_pos hk,if_pos hk,R.wt,map_waits R.inj W.wait R.hw.wv i hi,List.map_map,List.map_map]
    refine List.map_congr_left fun x hx=>?_
    simp only [Function.comp]
    unfold valO reV
    rw [if_pos (by omega),if_pos rfl]
    show ((3:Int),(4*φ x+1)/4)=(3,φ x)
    rw [show (4*φ x+1)/4=φ x by omega]
   ·rw [if_neg hk,if_neg hk];rfl
 ·unfold Wd.gr at hv
  dsimp only at hv
  rcases List.mem_append.1 hv with h1 | h1
  ·exact Wd.okV_ref (R.hw.tv i hi v h1) h3
  ·split at h1
   ·obtain ⟨x,hx,rfl⟩:=List.mem_map.1 h1
    unfold waitAt at hx
    obtain ⟨e,he,rfl⟩:=List.mem_map.1 hx
    exact (R.hw.wv e (List.mem_filter.1 he).1).2.2
   ·cases h1
theorem Rep.view (R:Rep O W φ):O.view=W.view:=by
 unfold Wo.view Wd.view
 rw [R.rt,List.map_map]
 have:W.roots.map (valO ∘ encV φ)=W.roots.map (reV φ):=List.map_congr_left fun v hv=>valO_encV (R.hw.rv v hv)
 rw [this]
 exact viewM_iso R.iso (fun u hu h3=>Wd.okV_ref (R.hw.rv u hu) h3)
def Wd.idx (W:Wd) (old:Bool):List Int:=((List.range W.T.length).map (Int.ofNat ·)).filter fun i=>!(W.th i).dead && ((W.th i).old == old)
theorem Wd.mem_idx {W:Wd} {b:Bool} {i:Int}:i ∈ W.idx b↔W.live i∧(W.th i).old=b:=by
 unfold Wd.idx Wd.live
 simp only [List.mem_filter,List.mem_map,List.mem_range,Bool.and_eq_true,Bool.not_eq_true',beq_iff_eq]
 constructor
 ·rintro ⟨⟨n,hn,rfl⟩,h1,h2⟩
  exact ⟨⟨Int.natCast_nonneg n,Int.ofNat_lt.2 hn,h1⟩,h2⟩
 ·rintro ⟨⟨h0,h1,h2⟩,h3⟩
  have h4:i.toNat<W.T.length:=by omega
  have h5:((i.toNat:Nat):Int)=i:=by omega
  exact ⟨⟨i.toNat,h4,h5⟩,h2,h3⟩
theorem nodup_range_int (n:Nat):((List.range n).map (Int.ofNat ·)).Nodup:=by
 rw [List.Nodup,List.pairwise_map]
 refine List.Pairwise.imp ?_ (List.nodup_range (n:=n))
 intro a b h e
 exact h (Int.ofNat.inj e)
theorem Wd.idx_nodup (W:Wd) (b:Bool):(W.idx b).Nodup:=(nodup_range_int _).filter _
theorem sum_perm {l m:List Int} (h:l.Perm m):l.sum=m.sum:=by
 induction h with
 | nil=>rfl
 | cons x _ ih=>simp [ih]
 | swap x y l=>simp;omega
 | trans _ _ ih1 ih2=>exact ih1.trans ih2
theorem sum_nonneg {l:List Int} (h:∀ x ∈ l,0≤x):0≤l.sum:=by
 induction l with
 | nil=>simp
 | cons a l ih=>simp only [List.sum_cons];have:=h a (by simp);have:=ih (fun x hx=>h x (by simp [hx]));omega
theorem sum_sub {f:Int→Int} (h0:∀ i,0≤f i):∀ {l m:List Int},l.Nodup→(∀ i ∈ l,i ∈ m)→(l.map f).sum≤(m.map f).sum
 | [],m,_,_=>by simpa using sum_nonneg (l:=m.map f) (fun x hx=>by obtain ⟨i,_,rfl⟩:=List.mem_map.1 hx;exact h0 i)
 | a :: l,m,hn,hs=>by
  have ha:=hs a (by simp)
  have hp:m.Perm (a :: m.erase a):=List.perm_cons_erase ha
  rw [sum_perm (hp.map f)]
  simp only [List.map_cons,List.sum_cons]
  rw [List.nodup_cons] at hn
  have:=sum_sub h0 (l:=l) (m:=m.erase a) hn.2 (fun i hi=>(List.mem_erase_of_ne (fun e=>hn.1 (by rw [←e];exact hi))).2 (hs i (by simp [hi])))
  omega
theorem sum_filter {p:Int→Bool} {f:Int→Int}:∀ (l:List Int),((l.filter p).map f).sum=(l.map fun i=>if p i then f i else 0).sum
 | []=>rfl
 | a :: l=>by
  simp only [List.filter_cons,List.map_cons,List.sum_cons]
  cases h:p a
  ·simp [sum_filter l]
  ·simp [sum_filter l]
theorem sumW_range (W:Wd) (p:Th→Bool):sumW W.T p=(((List.range W.T.length).map (Int.ofNat ·)).map fun i=>if p (W.th i) then (W.th i).words else 0).sum:=by
 unfold sumW
 congr 1
 apply List.ext_getElem
 ·simp
 ·intro k h1 h2
  simp only [List.length_map] at h1
  simp only [List.getElem_map,List.getElem_range]
  have e:W.th (Int.ofNat k)=W.T[k]:=by
   unfold Wd.th
   rw [List.getD_eq_getElem?_getD,show (Int.ofNat k).toNat=k from rfl,List.getElem?_eq_getElem h1];rfl
  rw [e]
theorem Wd.sum_idx (W:Wd) (b:Bool):((W.idx b).map fun i=>(W.th i).words).sum=sumW W.T fun t=>!t.dead && (t.old == b):=by
 rw [sumW_range]
 unfold Wd.idx
 rw [sum_filter]
theorem map_nodup {φ:Int→Int} {l:List Int} (h:l.Nodup) (inj:∀ i ∈ l, ∀ j ∈ l,φ i=φ j→i=j):(l.map φ).Nodup:=by
 rw [List.Nodup,List.pairwise_map]
 refine List.Pairwise.imp_of_mem ?_ h
 intro a b ha hb hne e
 exact hne (inj a ha b hb e)
theorem Rep.perm_y (R:Rep O W φ):O.ar.things.1.Perm ((W.idx false).map φ):=by
 rw [List.perm_ext_iff_of_nodup R.ty.nodup (map_nodup (W.idx_nodup _) (fun i hi j hj e=>R.inj i j (Wd.mem_idx.1 hi).1 (Wd.mem_idx.1 hj).1 e))]
 intro p
 constructor
 ·intro hp
  obtain ⟨i,hi,rfl⟩:=R.onto p (.inl hp)
  have:=R.ty.in_young hp (j:=0) (by omega) (R.ho.ha |> fun _=>(O.ar.thing_fields (φ i)).1)
  rw [Int.add_zero] at this
  exact List.mem_map.2 ⟨i,Wd.mem_idx.2 ⟨hi,(R.young_iff hi).1 this⟩,rfl⟩
 ·intro hp
  obtain ⟨i,hi,rfl⟩:=List.mem_map.1 hp
  exact R.iny i (Wd.mem_idx.1 hi).1 (Wd.mem_idx.1 hi).2
theorem Rep.perm_o (R:Rep O W φ):O.ar.things.2.Perm ((W.idx true).map φ):=by
 rw [List.perm_ext_iff_of_nodup R.tz.nodup (map_nodup (W.idx_nodup _) (fun i hi j hj e=>R.inj i j (Wd.mem_idx.1 hi).1 (Wd.mem_idx.1 hj).1 e))]
 intro p
 constructor
 ·intro hp
  obtain ⟨i,hi,rfl⟩:=R.onto p (.inr hp)
  have:=R.tz.in_old hp (j:=0) (by omega) (O.ar.thing_fields (φ i)).1
  rw [Int.add_zero] at this
  exact List.mem_map.2 ⟨i,Wd.mem_idx.2 ⟨hi,(R.old_iff hi).1 this⟩,rfl⟩
 ·intro hp
  obtain ⟨i,hi,rfl⟩:=List.mem_map.1 hp
  exact R.ino i (Wd.mem_idx.1 hi).1 (Wd.mem_idx.1 hi).2
theorem Rep.sy (R:Rep O W φ):(O.ar.yng:Int)=W.young:=by
 have h1:=R.ty.sum
 rw [sum_perm (R.perm_y.map _),List.map_map] at h1
 have e:(W.idx false).map ((fun p=>1+(O.ar.thing p).2.1) ∘ φ)=(W.idx false).map fun i=>(W.th i).words:=
  List.map_congr_left fun i hi=>by simp only [Function.comp];rw [R.th i (Wd.mem_idx.1 hi).1];rfl
 rw [e,Wd.sum_idx] at h1
 unfold Wd.young
 rw [h1]
 have:(fun t:Th=>!t.dead && (t.old == false))=fun t:Th=>!t.dead && !t.old:=by funext t;cases t.old <;> rfl
 rw [this];omega
theorem Rep.so (R:Rep O W φ):(O.ar.grn:Int)-O.ar.nur=W.olds:=by
 have h1:=R.tz.sum
 rw [sum_perm (R.perm_o.map _),List.map_map] at h1
 have e:(W.idx true).map ((fun p=>1+(O.ar.thing p).2.1) ∘ φ)=(W.idx true).map fun i=>(W.th i).words:=
  List.map_congr_left fun i hi=>by simp only [Function.comp];rw [R.th i (Wd.mem_idx.1 hi).1];rfl
 rw [e,Wd.sum_idx] at h1
 unfold Wd.olds
 rw [h1]
 have:(fun t:Th=>!t.dead && (t.old == true))=fun t:Th=>!t.dead && t.old:=by funext t;cases t.old <;> rfl
 rw [this];omega
end
end
section
section
variable {O:Wo} {W:Wd} {φ ψ:Int→Int}
theorem Tile.things {A:Ar} (h:A.ok) {Y Z:List Int} (hy:Tile A Y 0 A.yng) (hz:Tile A Z A.nur A.grn):A.things=(Y,Z):=by
 have:=h.h1;have:=h.h2;have:=h.h3;have:=h.h4
 unfold Ar.things
 rw [hy.list (by omega),hz.list (by omega)]
theorem encV_congr {v:Vl} (h:v.1=3→ψ v.2=φ v.2):encV ψ v=encV φ v:=by
 unfold encV
 by_cases h3:v.1=3
 ·rw [if_pos h3,if_pos h3,h h3]
 ·rw [if_neg h3,if_neg h3]
theorem encV_R64 (R:Rep O W φ) {v:Vl} (hv:W.okV v):R64 (encV φ v):=by
 unfold R64
 rcases hv with h | h | h | h
 ·have e:encV φ v=2:=by simp [encV,h.1]
  rw [e];decide
 ·have e:encV φ v=4*v.2:=by simp [encV,h.1]
  have:=h.2
  unfold big at this
  rw [e];omega
 ·have e:encV φ v=3:=by simp [encV,h.1]
  rw [e];decide
 ·rw [encV_ref φ h.1]
  have:=R.place h.2
  omega
theorem Rep.new {n o:Int} (h:Ar.fits n o=true):Rep (Wo.new n o) (Wd.new n o) id:=by
 have h':=h
 simp [Ar.fits] at h'
 have no:∀ i,¬ (Wd.new n o).live i:=fun i hi=>by have:=hi.2.1;have:=hi.1;simp [Wd.new] at *;omega
 have hok:(Wo.new n o).ok:=by
  refine ⟨Ar.new_ok h,by simp [Wo.new],fun x hx=>?_,fun e he=>by simp [Wo.new] at he,fun e he=>by simp [Wo.new] at he,by simp [Wo.new],?_⟩
  ·simp [Wo.new] at hx;subst hx;unfold R64;omega
  ·simp [Wo.new,cardsN];omega
 have t1:Tile (Wo.new n o).ar [] 0 (Wo.new n o).ar.yng:=by simp [Wo.new,Ar.new,Tile]
 have t2:Tile (Wo.new n o).ar [] (Wo.new n o).ar.nur (Wo.new n o).ar.grn:=by simp [Wo.new,Ar.new,Tile]
 have ht:=Tile.things hok.ha t1 t2
 refine ⟨hok,Wd.new_ok (by omega) (by omega) (by omega) (by omega),by rw [ht];exact t1,by rw [ht];exact t2,fun i j hi=>(no i hi).elim,fun p hp=>?_,fun i hi=>(no i hi).elim,fun i hi=>(no i hi).elim,fun i hi=>(no i hi).elim,fun i hi=>(no i hi).elim,?_,rfl,rfl,?_,?_,?_,fun i hi=>(no i hi).elim⟩
 ·rw [ht] at hp;simp at hp
 ·simp [Wo.new,Wd.new,encV]
 ·simp [Wo.new,Ar.new,Wd.new];omega
 ·simp [Wo.new,Ar.new,Wd.new];omega
 ·simp [Wo.new,Wd.new]
theorem Rep.setR (R:Rep O W φ) {v:Vl} (hv:W.okV v) (r:Int):Rep { O with rt:=O.rt.set r.toNat (encV φ v) } (W.setR r v) φ:=by
 refine ⟨⟨R.ho.ha,by simpa using R.ho.h12,fun x hx=>?_,R.ho.hg,R.ho.hw,R.ho.hq,R.ho.hc⟩,R.hw.setR hv r,R.ty,R.tz,R.inj,R.onto,R.iny,R.ino,R.th,R.fl,?_,R.rg,R.wt,R.nur,R.len,R.cl,R.card⟩
 ·rcases List.mem_or_eq_of_mem_set hx with h1 | rfl
  ·exact R.ho.hR x h1
  ·exact encV_R64 R hv
 ·show O.rt.set r.toNat (encV φ v)=(W.roots.set r.toNat v).map (encV φ)
  rw [R.rt,List.map_set]
def extF (n y:Int) (φ:Int→Int) (i:Int):Int:=if i=n then y else φ i
theorem thing_of_load {A B:Ar} {p:Int} (h:B.load p=A.load p):B.thing p=A.thing p:=by unfold Ar.thing;rw [h]
theorem Rep.put (R:Rep O W φ) {A':Ar} {k r:Int} {l:List Vl} (hA:A'.ok) (h1:A'.nur=O.ar.nur) (h2:A'.grn=O.ar.grn) (h3:A'.ws.length=O.ar.ws.length) (h4:(A'.yng:Int)=O.ar.yng+(1+l.length))
  (hq:∀ q,O.ar.inUse q=true→A'.load q=O.ar.load q) (ht:A'.thing O.ar.yng=(k,(l.length:Int),0)) (hl:∀ (j:Nat) (v:Vl),l[j]? = some v→A'.load (O.ar.yng+1+j)=encV φ v)
  (hok:∀ v ∈ l,W.okV v) (hf:fitsW k l.length=true) :
  Rep { O with ar:=A',rt:=O.rt.set r.toNat (4*O.ar.yng+1) } (W.put r k l) (extF W.T.length O.ar.yng φ):=by
 have hroom:1+(l.length:Int)≤W.most-W.young:=by
  have:=hA.h1;have:=R.sy;have:=R.nur;omega
 have old:∀ {i},W.live i→¬ i=(W.T.length:Int):=fun hi e=>by have:=hi.2.1;omega
 have fe:∀ {i},W.live i→(extF W.T.length O.ar.yng φ) i=φ i:=fun hi=>if_neg (old hi)
 have fn:(extF W.T.length O.ar.yng φ) (W.T.length:Int)=O.ar.yng:=if_pos rfl
 have ee:∀ {v},W.okV v→encV (extF W.T.length O.ar.yng φ) v=encV φ v:=fun hv=>encV_congr (fun h3=>fe (Wd.okV_ref hv h3))
 have thp:∀ p,O.ar.inUse p=true→A'.thing p=O.ar.thing p:=fun p hp=>thing_of_load (hq p hp)
 have tho:∀ {i},W.live i→(W.put r k l).th i=W.th i:=fun hi=>Wd.th_put hi.1 hi.2.1
 have useY:∀ p ∈ O.ar.things.1,O.ar.inUse p=true:=fun p hp=>by
  have:=R.ty.in_young hp (j:=0) (by omega) (O.ar.thing_fields p).1
  rw [Int.add_zero] at this;unfold Ar.inUse;rw [this];rfl
 have useO:∀ p ∈ O.ar.things.2,O.ar.inUse p=true:=fun p hp=>by
  have:=R.tz.in_old hp (j:=0) (by omega) (O.ar.thing_fields p).1
  rw [Int.add_zero] at this;unfold Ar.inUse;rw [this];simp
 have t1:Tile A' (O.ar.things.1 ++ [(O.ar.yng:Int)]) 0 A'.yng:=by
  refine Tile.app (Tile.congr (fun p hp=>thp p (useY p hp)) R.ty) ⟨rfl,by rw [ht],?_⟩
  rw [ht]
  show (O.ar.yng:Int)+1+l.length=A'.yng
  omega
 have t2:Tile A' O.ar.things.2 A'.nur A'.grn:=by rw [h1,h2];exact Tile.congr (fun p hp=>thp p (useO p hp)) R.tz
 have hth:=Tile.things hA t1 t2
 have nl:(W.put r k l).live W.T.length:=by
  refine ⟨by omega,by simp [Wd.put];omega,?_⟩
  rw [Wd.th_put_new]
 have lt:∀ {i},W.live i→φ i≠O.ar.yng:=fun {i} hi e=>by
  have:=R.use hi (j:=0) (by omega) (by omega)
  rw [Int.add_zero] at this
  unfold Ar.inUse at this
  have h1':=R.ho.ha.h1;have h5:=hA.h1;rw [h1] at h5
  rw [Bool.or_eq_true,Go.Proofs.YtjifdalflepcoacGreat.young_iff,Go.Proofs.YtjifdalflepcoacGreat.old_iff] at this
  omega
 refine ⟨⟨hA,by simpa using R.ho.h12,fun x hx=>?_,R.ho.hg,R.ho.hw,R.ho.hq,R.ho.hc⟩,R.hw.put hf hok hroom,by rw [hth];exact t1,by rw [hth];exact t2,fun i j hi hj e=>?_,fun p hp=>?_,fun i hi ho=>?_,fun i hi ho=>?_,fun i hi=>?_,fun i hi j v hv=>?_,?_,?_,?_,?_,?_,R.cl,fun i hi ho v hv h3' hy=>?_⟩
 ·rcases List.mem_or_eq_of_mem_set hx with h5 | rfl
  ·exact R.ho.hR x h5
  ·have:=R.ho.ha.h1;have:=R.ho.ha.h2;have:=R.ho.ha.h3;have:=R.ho.ha.h4
   unfold R64;omega
 ·rcases Wd.put_live hi with hi | rfl <;> rcases Wd.put_live hj with hj | rfl
  ·rw [fe hi,fe hj] at e;exact R.inj i j hi hj e
  ·rw [fe hi,fn] at e;exact (lt hi e).elim
  ·rw [fe hj,fn] at e;exact (lt hj e.symm).elim
  ·rfl
 ·rw [hth] at hp
  dsimp only at hp
  rw [List.mem_append,List.mem_singleton] at hp
  rcases hp with (h5 | rfl) | h5
  ·obtain ⟨i,hi,rfl⟩:=R.onto p (.inl h5);exact ⟨i,Wd.live_put hi,fe hi⟩
  ·exact ⟨_,nl,fn⟩
  ·obtain ⟨i,hi,rfl⟩:=R.onto p (.inr h5);exact ⟨i,Wd.live_put hi,fe hi⟩
 ·rw [hth]
  rcases Wd.put_live hi with hi | rfl
  ·rw [tho hi] at ho;rw [fe hi];exact List.mem_append_left _ (R.iny i hi ho)
  ·rw [fn];simp
 ·rw [hth]
  rcases Wd.put_live hi with hi | rfl
  ·rw [tho hi] at ho;rw [fe hi];exact R.ino i hi ho
  ·rw [Wd.th_put_new] at ho;cases ho
 ·rcases Wd.put_live hi with hi | rfl
  ·have:=R.use hi (j:=0) (by omega) (by omega)
   rw [Int.add_zero] at this
   rw [fe hi,tho hi];exact (thp _ this).trans (R.th i hi)
  ·rw [fn,Wd.th_put_new];exact ht
 ·rcases Wd.put_live hi with hi | rfl
  ·rw [tho hi] at hv
   have hj:j<(W.th i).fs.length:=(List.getElem?_eq_some_iff.1 hv).1
   have:=R.use hi (j:=1+j) (by omega) (by omega)
   rw [←Int.add_assoc] at this
   rw [fe hi,ee (R.hw.tv i hi v (List.mem_of_getElem? hv))]
   exact (hq _ this).trans (R.fl i hi j v hv)
  ·rw [Wd.th_put_new] at hv
   rw [fn,ee (hok v (List.mem_of_getElem? hv))]
   exact hl j v hv
 ·show O.rt.set r.toNat (4*O.ar.yng+1)=(W.roots.set r.toNat (refV W.T.length)).map _
  rw [List.map_set,R.rt]
  congr 1
  ·exact List.map_congr_left fun v hv=>(ee (R.hw.rv v hv)).symm
  ·show _=encV _ (3,(W.T.length:Int))
   rw [encV_ref _ rfl];dsimp only;rw [fn]
 ·show O.rg=W.regs.map _
  rw [R.rg]
  exact List.map_congr_left fun e he=>by have:=R.hw.gv e he;unfold encE;rw [fe this.1,fe this.2.2]
 ·show O.wt=W.wait.map _
  rw [R.wt]
  exact List.map_congr_left fun e he=>by have:=R.hw.wv e he;unfold encE;rw [fe this.1,fe this.2.2]
 ·show (A'.nur:Int)=W.most;rw [h1];exact R.nur
 ·show (A'.ws.length:Int)=W.most+W.grow;rw [h3];exact R.len
 ·show dirtyL A'.nur O.cd _=true
  rcases Wd.put_live hi with hi | rfl
  ·rw [tho hi] at ho hv
   have hl3:=Wd.okV_ref (R.hw.tv i hi v hv) h3'
   rw [tho hl3] at hy
   rw [fe hi,h1]
   exact R.card i hi ho v hv h3' hy
  ·rw [Wd.th_put_new] at ho;cases ho
theorem lay_head {l m:List Int} {i:Nat} {x:Int} (h:i+(x :: m).length≤l.length):(lay l i (x :: m)).getD i 0=x:=by
 rw [lay_getD h,if_pos ⟨Nat.le_refl _,by simp⟩];simp
theorem Ar.make_loads {A:Ar} (hA:A.ok) {k f:Int} (h:fitsW k f=true∧1+f≤(A.nur:Int)-A.yng) :
  (∀ q,A.inUse q=true→(A.make k f).2.load q=A.load q)∧(A.make k f).2.load A.yng=16*f+k∧(∀ j:Int,0≤j→j<f→(A.make k f).2.load (A.yng+1+j)=2)∧((A.make k f).2.yng:Int)=A.yng+(1+f) ∧
  (A.make k f).2.nur=A.nur∧(A.make k f).2.grn=A.grn∧(A.make k f).2.ws.length=A.ws.length:=by
 have hf:=fitsW_spec h.1
 have hl:=thingW_length (k:=k) hf.2.2.1
 have a1:=hA.h1;have a2:=hA.h2;have a3:=hA.h3
 have hle:A.yng+(thingW k f).length≤A.ws.length:=by rw [hl];omega
 rw [Ar.make_yes h]
 have hload:∀ q:Int,0≤q→q<A.yng+(1+f)→Ar.load { A with yng:=A.yng+(1+f).toNat,ws:=lay A.ws A.yng (thingW k f) } q=(lay A.ws A.yng (thingW k f)).getD q.toNat 0:=by
  intro q h0 h1
  unfold Ar.load
  rw [if_pos]
  unfold Ar.inUse
  rw [Bool.or_eq_true]
  left
  rw [young_iff]
  refine ⟨h0,?_⟩
  show q<((A.yng+(1+f).toNat:Nat):Int)
  omega
 refine ⟨fun q hq=>?_,?_,fun j h0 h1=>?_,?_,rfl,rfl,?_⟩
 ·have hu:Ar.inUse { A with yng:=A.yng+(1+f).toNat,ws:=lay A.ws A.yng (thingW k f) } q=true:=by
   unfold Ar.inUse at *
   rw [Bool.or_eq_true] at *
   rw [young_iff,old_iff] at *
   dsimp only
   omega
  unfold Ar.load
  rw [hu,hq]
  simp only [if_true]
  rw [lay_getD hle,if_neg]
  rw [hl]
  unfold Ar.inUse at hq
  rw [Bool.or_eq_true,young_iff,old_iff] at hq
  omega
 ·rw [hload _ (by omega) (by omega)]
  unfold thingW at *
  rw [Int.toNat_natCast]
  exact lay_head hle
 ·rw [hload _ (by omega) (by omega),lay_getD hle,if_pos (by rw [hl];omega)]
  unfold thingW
  rw [show ((A.yng:Int)+1+j).toNat-A.yng=j.toNat+1 by omega,List.getD_cons_succ]
  simp only [List.getD_eq_getElem?_getD]
  rw [List.getElem?_replicate,if_pos (by omega)];rfl
 ·dsimp only;omega
 ·dsimp only;exact lay_length hle
theorem partsW_of {k f:Int} (h:fitsW k f=true):partsW (16*f+k)=(k,f,0):=by
 have hf:=fitsW_spec h
 unfold partsW
 rw [show (16*f+k)%16=k by omega,show (16*f+k)/16=f by omega,if_pos h]
theorem Rep.fresh (R:Rep O W φ) {k f r:Int} (h:fitsW k f=true∧1+f≤(O.ar.nur:Int)-O.ar.yng) :
  Rep { O with ar:=(O.ar.make k f).2,rt:=O.rt.set r.toNat (4*O.ar.yng+1) } (W.put r k (List.replicate f.toNat (0,0))) (extF W.T.length O.ar.yng φ):=by
 have hf:=fitsW_spec h.1
 have hl:(((List.replicate f.toNat ((0,0):Vl)).length:Nat):Int)=f:=by simp;omega
 obtain ⟨m1,m2,m3,m4,m5,m6,m7⟩:=Ar.make_loads R.ho.ha h
 refine R.put (R.ho.ha.make k f) m5 m6 m7 (by rw [hl];exact m4) m1 ?_ (fun j v hv=>?_) (fun v hv=>?_) (by rw [hl];exact h.1)
 ·unfold Ar.thing
  rw [m2,partsW_of h.1,hl]
 ·rw [List.getElem?_replicate] at hv
  split at hv
  ·rename_i hj;cases hv
   rw [m3 j (by omega) (by omega)];rfl
  ·cases hv
 ·rw [(List.mem_replicate.1 hv).2];exact .inl ⟨rfl,rfl⟩
theorem dirtyL_iff {base:Int} {l:List Bool} {p:Int}:dirtyL base l p=true↔base≤p∧(p-base)/8<l.length∧l.getD ((p-base)/8).toNat false=true:=by
 unfold dirtyL
 rw [Bool.and_eq_true,decide_eq_true_eq]
 unfold cardOf
 by_cases c:base≤p∧(p-base)/8<l.length
 ·rw [if_pos c]
  constructor
  ·rintro ⟨_,h⟩;exact ⟨c.1,c.2,h⟩
  ·rintro ⟨_,_,h⟩;exact ⟨by omega,h⟩
 ·rw [if_neg c]
  constructor
  ·rintro ⟨h,_⟩;omega
  ·rintro ⟨h1,h2,_⟩;exact absurd ⟨h1,h2⟩ c
theorem dirtyL_mark {base:Int} {l:List Bool} {p:Int} (q:Int) (h:dirtyL base l p=true):dirtyL base (markL base l q) p=true:=by
 rw [dirtyL_iff] at *
 rw [markL_length]
 refine ⟨h.1,h.2.1,?_⟩
 unfold markL
 split
 ·rw [List.getD_eq_getElem?_getD,List.getElem?_set]
  split
  ·split
   ·rfl
   ·rename_i h1 h2;omega
  ·rw [←List.getD_eq_getElem?_getD];exact h.2.2
 ·exact h.2.2
theorem dirtyL_self {base:Int} {l:List Bool} {p:Int} (h1:base≤p) (h2:(p-base)/8<l.length):dirtyL base (markL base l p) p=true:=by
 have hc:cardOf base l.length p=(p-base)/8:=by unfold cardOf;rw [if_pos ⟨h1,h2⟩]
 rw [dirtyL_iff,markL_length]
 refine ⟨h1,h2,?_⟩
 unfold markL
 rw [hc,if_pos (by omega),List.getD_eq_getElem?_getD,List.getElem?_set,if_pos rfl,if_pos (by omega)];rfl
theorem Rep.thingAt (R:Rep O W φ) {v:Vl} (hv:W.okV v):O.ar.thingAt (encV φ v)=if v.1=3 then (φ v.2,(W.th v.2).k,((W.th v.2).fs.length:Int),0) else (0,0,0,2):=by
 unfold Ar.thingAt
 by_cases h3:v.1=3
 ·rw [if_pos h3]
  have e:=encV_ref φ h3
  have e4:encV φ v/4=φ v.2:=by rw [e];omega
  rw [e4,R.th _ (Wd.okV_ref hv h3),if_pos ⟨(encV_mod hv).2 h3,rfl⟩]
 ·rw [if_neg h3,if_neg (fun h=>h3 ((encV_mod hv).1 h.1))]
theorem Rep.get (R:Rep O W φ) {v:Vl} (hv:W.okV v) (i:Int):O.ar.get (encV φ v) i =
  if v.1≠3∨(W.th v.2).k=5 then (0,2) else if i<0∨((W.th v.2).fs.length:Int)≤i then (0,1) else (encV φ ((W.th v.2).fs.getD i.toNat (0,0)),0):=by
 unfold Ar.get
 rw [R.thingAt hv]
 by_cases h3:v.1=3
 ·rw [if_pos h3]
  dsimp only
  by_cases hk:(W.th v.2).k=5
  ·rw [if_pos (.inr hk),if_pos (.inr hk)]
  ·have c0:¬ ((0:Int)≠0∨(W.th v.2).k=5):=fun h=>by rcases h with h | h;exact h rfl;exact hk h
   have c1:¬ (v.1≠3∨(W.th v.2).k=5):=fun h=>by rcases h with h | h;exact h h3;exact hk h
   rw [if_neg c0,if_neg c1]
   by_cases hi:i<0∨((W.th v.2).fs.length:Int)≤i
   ·rw [if_pos hi,if_pos hi]
   ·rw [if_neg hi,if_neg hi]
    have hlt:i.toNat<(W.th v.2).fs.length:=by omega
    have:=R.fl v.2 (Wd.okV_ref hv h3) i.toNat _ (List.getElem?_eq_getElem hlt)
    rw [show ((i.toNat:Nat):Int)=i by omega] at this
    have e4:encV φ v/4=φ v.2:=by rw [encV_ref φ h3];omega
    rw [e4,this,List.getD_eq_getElem?_getD,List.getElem?_eq_getElem hlt];rfl
 ·rw [if_neg h3,if_pos (.inl (by decide)),if_pos (.inl h3)]
theorem Rep.setF (R:Rep O W φ) {a i:Int} {u:Vl} (ha:W.live a) (h0:0≤i) (h1:i<(W.th a).fs.length) (hu:W.okV u) {cd:List Bool}
  (hc1:cd.length=O.cd.length) (hc2:∀ p,dirtyL O.ar.nur O.cd p=true→dirtyL O.ar.nur cd p=true) (hc3:u.1=3→(W.th u.2).old=false→(W.th a).old=true→dirtyL O.ar.nur cd (φ a)=true) :
  Rep { O with ar:=O.ar.store (φ a+1+i) (encV φ u),cd:=cd } (W.setF a ((W.th a).fs.set i.toNat u)) φ:=by
 have hlv:=fun j=>Wd.setF_live (fs:=(W.th a).fs.set i.toNat u) ha j
 have hth:∀ {j},W.live j→(W.setF a ((W.th a).fs.set i.toNat u)).th j=if j=a then { W.th a with fs:=(W.th a).fs.set i.toNat u } else W.th j:=fun hj=>Wd.th_setF hj.1 ha
 have hold:∀ {j},W.live j→((W.setF a ((W.th a).fs.set i.toNat u)).th j).old=(W.th j).old:=fun hj=>by
  rw [hth hj];split
  ·rename_i e;subst e;rfl
  ·rfl
 have huse:O.ar.inUse (φ a+1+i)=true:=by rw [Int.add_assoc];exact R.use ha (by omega) (by omega)
 have hload:=fun q=>Ar.load_store R.ho.ha (φ a+1+i) q (encV φ u)
 have hst:∀ j,W.live j→(O.ar.store (φ a+1+i) (encV φ u)).thing (φ j)=O.ar.thing (φ j):=fun j hj=>by
  refine thing_of_load ?_
  rw [hload,if_neg]
  rintro ⟨e,_⟩
  by_cases ej:j=a
  ·subst ej;omega
  ·have:=R.apart hj ha ej
   omega
 have hok:(O.ar.store (φ a+1+i) (encV φ u)).ok:=R.ho.ha.store _ _ (encV_R64 R hu)
 have tp:∀ p,p ∈ O.ar.things.1∨p ∈ O.ar.things.2→(O.ar.store (φ a+1+i) (encV φ u)).thing p=O.ar.thing p:=fun p hp=>by
  obtain ⟨j,hj,rfl⟩:=R.onto p hp
  exact hst j hj
 have t1:Tile (O.ar.store (φ a+1+i) (encV φ u)) O.ar.things.1 0 (O.ar.store (φ a+1+i) (encV φ u)).yng:=by
  rw [Ar.store_yng];exact Tile.congr (fun p hp=>tp p (.inl hp)) R.ty
 have t2:Tile (O.ar.store (φ a+1+i) (encV φ u)) O.ar.things.2 (O.ar.store (φ a+1+i) (encV φ u)).nur (O.ar.store (φ a+1+i) (encV φ u)).grn:=by
  rw [Ar.store_nur,Ar.store_grn];exact Tile.congr (fun p hp=>tp p (.inr hp)) R.tz
 have hthi:=Tile.things hok t1 t2
 refine ⟨⟨hok,R.ho.h12,R.ho.hR,R.ho.hg,R.ho.hw,R.ho.hq,by show cd.length≤1000;rw [hc1];exact R.ho.hc⟩,R.hw.setF ha (by simp) (fun v hv=>?_),by rw [hthi];exact t1,by rw [hthi];exact t2,
  fun j k hj hk e=>R.inj j k ((hlv j).1 hj) ((hlv k).1 hk) e,fun p hp=>?_,fun j hj ho=>?_,fun j hj ho=>?_,fun j hj=>?_,fun j hj n v hv=>?_,R.rt,R.rg,R.wt,?_,?_,by show cd.length=_;rw [hc1];exact R.cl,fun j hj ho v hv h3 hy=>?_⟩
 ·rcases List.mem_or_eq_of_mem_set hv with h5 | rfl
  ·exact R.hw.tv a ha v h5
  ·exact hu
 ·rw [hthi] at hp
  obtain ⟨j,hj,e⟩:=R.onto p hp
  exact ⟨j,(hlv j).2 hj,e⟩
 ·rw [hthi]
  have hj':=(hlv j).1 hj
  rw [hold hj'] at ho
  exact R.iny j hj' ho
 ·rw [hthi]
  have hj':=(hlv j).1 hj
  rw [hold hj'] at ho
  exact R.ino j hj' ho
 ·have hj':=(hlv j).1 hj
  show (O.ar.store _ _).thing (φ j)=_
  rw [hst j hj',R.th j hj',hth hj']
  split
  ·rename_i e;subst e;simp
  ·rfl
 ·have hj':=(hlv j).1 hj
  rw [hth hj'] at hv
  show (O.ar.store _ _).load _=_
  rw [hload]
  by_cases e:j=a
  ·subst e
   rw [if_pos rfl] at hv
   dsimp only at hv
   rw [List.getElem?_set] at hv
   by_cases en:i.toNat=n
   ·rw [if_pos en] at hv
    subst en
    rw [if_pos (by omega)] at hv
    cases hv
    rw [if_pos ⟨by omega,huse⟩]
   ·rw [if_neg en] at hv
    rw [if_neg (fun h=>by omega)]
    exact R.fl j hj' n v hv
  ·rw [if_neg e] at hv
   have hn:n<(W.th j).fs.length:=(List.getElem?_eq_some_iff.1 hv).1
   have:=R.apart hj' ha e
   rw [if_neg (fun h=>by omega)]
   exact R.fl j hj' n v hv
 ·show ((O.ar.store _ _).nur:Int)=W.most;rw [Ar.store_nur];exact R.nur
 ·show ((O.ar.store _ _).ws.length:Int)=W.most+W.grow;rw [Ar.store_len];exact R.len
 ·show dirtyL (O.ar.store _ _).nur cd (φ j)=true
  rw [Ar.store_nur]
  have hj':=(hlv j).1 hj
  rw [hold hj'] at ho
  have inF:∀ w ∈ (W.th j).fs,w=v→dirtyL O.ar.nur cd (φ j)=true:=fun w hw e=>by
   subst e
   have hl3:=Wd.okV_ref (R.hw.tv j hj' w hw) h3
   rw [hold hl3] at hy
   exact hc2 _ (R.card j hj' ho w hw h3 hy)
  rw [hth hj'] at hv
  by_cases e:j=a
  ·subst e
   rw [if_pos rfl] at hv
   rcases List.mem_or_eq_of_mem_set hv with h5 | rfl
   ·exact inF v h5 rfl
   ·rw [hold (Wd.okV_ref hu h3)] at hy
    exact hc3 h3 hy ho
  ·rw [if_neg e] at hv
   exact inF v hv rfl
theorem Rep.set (R:Rep O W φ) {v u:Vl} (hv:W.okV v) (hu:W.okV u) (i:Int) :
  (O.set (encV φ v) i (encV φ u)).1=(if v.1≠3∨(W.th v.2).k=5 then 2 else if i<0∨((W.th v.2).fs.length:Int)≤i then 1 else 0) ∧
  ((O.set (encV φ v) i (encV φ u)).1≠0→(O.set (encV φ v) i (encV φ u)).2=O) ∧
  ((O.set (encV φ v) i (encV φ u)).1=0→Rep (O.set (encV φ v) i (encV φ u)).2 (W.setF v.2 ((W.th v.2).fs.set i.toNat u)) φ):=by
 have hg:=R.get hv i
 by_cases hc:(O.ar.get (encV φ v) i).2=0
 ·rw [Wo.set_yes' hc]
  rw [hg] at hc
  by_cases c1:v.1≠3∨(W.th v.2).k=5
  ·rw [if_pos c1] at hc;cases hc
  ·rw [if_neg c1] at hc ⊢
   by_cases c2:i<0∨((W.th v.2).fs.length:Int)≤i
   ·rw [if_pos c2] at hc;cases hc
   ·rw [if_neg c2]
    refine ⟨rfl,fun h=>(h rfl).elim,fun _=>?_⟩
    have h3:v.1=3:=Decidable.byContradiction fun h=>c1 (.inl h)
    have ha:=Wd.okV_ref hv h3
    have e4:encV φ v/4=φ v.2:=by rw [encV_ref φ h3];omega
    dsimp only
    rw [e4]
    have hst:∀ p q x,(O.ar.store q x).young p=O.ar.young p∧(O.ar.store q x).old p=O.ar.old p:=fun p q x=>by
     unfold Ar.young Ar.old;rw [Ar.store_yng,Ar.store_nur,Ar.store_grn];exact ⟨rfl,rfl⟩
    refine R.setF ha (by omega) (by omega) hu ?_ (fun p hp=>?_) (fun hu3 huo hao=>?_)
    ·split
     ·exact markL_length _ _ _
     ·rfl
    ·split
     ·exact dirtyL_mark _ hp
     ·exact hp
    ·have hul:=Wd.okV_ref hu hu3
     have e5:encV φ u/4=φ u.2:=by rw [encV_ref φ hu3];omega
     rw [if_pos ⟨(encV_mod hu).2 hu3,by rw [(hst _ _ _).1,e5];exact (R.young_iff hul).2 huo,by rw [(hst _ _ _).2];exact (R.old_iff ha).2 hao⟩]
     have hp:=(R.old_iff ha).2 hao
     rw [Go.Proofs.YtjifdalflepcoacGreat.old_iff] at hp
     have hl:=R.len;have hn:=R.nur;have hcl:=R.cl;have h3':=R.ho.ha.h3;have hg1:=R.hw.g1
     refine dirtyL_self hp.1 ?_
     rw [hcl]
     unfold cardsN
     omega
 ·rw [Wo.set_no' hc]
  rw [hg] at hc ⊢
  by_cases c1:v.1≠3∨(W.th v.2).k=5
  ·rw [if_pos c1,if_pos c1];exact ⟨rfl,fun _=>rfl,fun h=>by cases h⟩
  ·rw [if_neg c1] at hc ⊢
   rw [if_neg c1]
   by_cases c2:i<0∨((W.th v.2).fs.length:Int)≤i
   ·rw [if_pos c2,if_pos c2];exact ⟨rfl,fun _=>rfl,fun h=>by cases h⟩
   ·rw [if_neg c2] at hc;exact (hc rfl).elim
theorem Rep.reg (R:Rep O W φ) {e:Int × Int} (he:W.okE e) (hr:W.regs.length+W.wait.length<24):Rep { O with rg:=O.rg ++ [encE φ e] } { W with regs:=W.regs ++ [e] } φ:=by
 have hle:=R.place he.1;have hle2:=R.place he.2.2
 refine ⟨⟨R.ho.ha,R.ho.h12,R.ho.hR,fun x hx=>?_,R.ho.hw,?_,R.ho.hc⟩,?_,R.ty,R.tz,R.inj,R.onto,R.iny,R.ino,R.th,R.fl,R.rt,?_,R.wt,R.nur,R.len,R.cl,R.card⟩
 ·rcases List.mem_append.1 hx with h1 | h1
  ·exact R.ho.hg x h1
  ·rw [List.mem_singleton.1 h1]
   unfold encE R64e R64
   dsimp only
   omega
 ·have h1:O.rg.length=W.regs.length:=by rw [R.rg];simp
  have h2:O.wt.length=W.wait.length:=by rw [R.wt];simp
  simp;omega
 ·have h:=R.hw
  refine ⟨h.hr,h.rv,h.tk,h.tv,fun x hx=>?_,h.wv,by simp;omega,h.m1,h.m2,h.g1,h.g2,h.uy,h.uo⟩
  rcases List.mem_append.1 hx with h1 | h1
  ·exact h.gv x h1
  ·rw [List.mem_singleton.1 h1];exact he
 ·show O.rg ++ [encE φ e]=(W.regs ++ [e]).map (encE φ)
  rw [R.rg];simp
end
end
section
open Go.RowKit
section
variable {w w':World} {h:WH} {O:Wo}
theorem WoodAt.roots (H:WoodAt w h O):∃ g o cap,h.ro=.slice (some ⟨g,o,none⟩) O.rt.length cap∧ownB h.ro g∧g<w.heap.size∧w.cell? ⟨h.p,3,none⟩=some (.slice (some ⟨g,o,none⟩) O.rt.length cap)∧(∀ k,w.frozen? ⟨g,k,none⟩=false) ∧
  ∀ k,k<O.rt.length→w.cell? ⟨g,o+k,none⟩=some (.int .i64 (O.rt.getD k 0)):=by
 obtain ⟨ao,cap,e,hrd,-,-⟩:=H.hr.rd
 have h12:=H.ok.h12
 obtain ⟨g,o,rfl,hg,hc⟩:=hrd (by intro e;have:=congrArg List.length e;rw [List.length_map,h12] at this;cases this)
 have hown:ownB h.ro g:=by rw [e];rfl
 obtain ⟨-,cur,hb⟩:=H.hr.own hown
 refine ⟨g,o,cap,e,hown,hg,by have:=H.ptrs.2.2.2;rw [e] at this;exact this,fun k=>hb.free k,fun k hk=>?_⟩
 rw [hc k (by simpa using hk)]
 simp [List.getD,hk]
theorem WoodAt.setRoot (H:WoodAt w h O) {g o cap k:Nat} {x:Int} (e:h.ro=.slice (some ⟨g,o,none⟩) O.rt.length cap) (hk:k<O.rt.length) (hx:R64 x) :
  WoodAt (w.setCell ⟨g,o+k,none⟩ (.int .i64 x)) h { O with rt:=O.rt.set k x }∧Keeps (ownB h.ro) w (w.setCell ⟨g,o+k,none⟩ (.int .i64 x)):=by
 have hown:ownB h.ro g:=by rw [e];rfl
 have kk:Keeps (ownB h.ro) w (w.setCell ⟨g,o+k,none⟩ (.int .i64 x)):=(Keeps.refl _ _).setCell (p:=⟨g,o+k,none⟩) (.inl hown) _
 refine ⟨⟨kk.blk H.hp (H.ro_ne H.hp (by decide)),H.ha.keep kk (H.ro_ne H.ha.hp (by decide)) H.ap,H.hc.keep kk (H.ro_ne H.hc.hp (by decide)) (H.ro_ne H.hc.hq (by decide)),H.hs.keep kk (fun b hb=>?_),?_,H.ap, { H.ok with h12:=by simpa using H.ok.h12,hR:=fun y hy=>?_ }⟩,kk⟩
 ·obtain ⟨c,T,hc,hT⟩:=H.hs.fp_type hb
  rcases hT with rfl | rfl
  ·exact H.ro_ne hc (by decide)
  ·exact H.ro_ne hc (by decide)
 ·have hs:=H.hr
  rw [e] at hs ⊢
  have:=hs.set (j:=k) (u:=.int .i64 x) (by omega)
  show Sl _ _ _ _ (O.rt.set k x).length ((O.rt.set k x).map _)
  rw [List.length_set,List.map_set]
  exact this
 ·rcases List.mem_or_eq_of_mem_set hy with h1 | rfl
  ·exact H.ok.hR y h1
  ·exact hx
end
end
section
open Go.RowKit
def overL (p:Nat→Bool) (u:Nat→Value):Nat→List Value→List Value
 | _,[]=>[]
 | i,v :: l=>(bif p i then u i else v) :: overL p u (i+1) l
def overA (a:Act) (p:Nat→Bool) (u:Nat→Value):Act:={ a with tmps:=(overL p u 0 a.tmps.toList).toArray }
def slotsOf (a:Act) (i:Nat):Value:=a.tmps.toList.getD i undef
def Meets (a:Act) (p:Nat→Bool) (R:(Nat→Value)→World→Prop) (a':Act) (w':World):Prop:=a'=overA a p (slotsOf a')∧R (slotsOf a') w'
def Again (a:Act) (p:Nat→Bool) (R:(Nat→Value)→World→Prop) (mu:(Nat→Value)→World→Nat) (n:Nat) (a':Act) (w':World):Prop:=Meets a p R a' w'∧mu (slotsOf a') w' < n
variable {P:Program} {a:Act} {w:World} {c:Code} {Q:Exit→Act→World→Prop}
theorem overL_self (p:Nat→Bool) (u:Nat→Value):∀ (l:List Value) (i:Nat),(∀ j,j<l.length→u (i+j)=l.getD j undef)→overL p u i l=l
 | [],i,_=>rfl
 | v :: l,i,h=>by
  have h0:=h 0 (by simp)
  simp only [Nat.add_zero,List.getD_cons_zero] at h0
  have ih:=overL_self p u l (i+1) (fun j hj=>by
   have:=h (j+1) (by simp;omega)
   rw [show i+(j+1)=i+1+j by omega,List.getD_cons_succ] at this
   exact this)
  simp only [overL,ih,h0]
  cases p i <;> rfl
theorem overA_self (a:Act) (p:Nat→Bool):a=overA a p (slotsOf a):=by
 cases a with
 | mk t d=>
  unfold overA slotsOf
  dsimp only
  rw [overL_self p _ t.toList 0 (fun j hj=>by rw [Nat.zero_add])]
theorem wp_loop_over (p:Nat→Bool) (R:(Nat→Value)→World→Prop) (mu:(Nat→Value)→World→Nat) (h0:R (slotsOf a) w)
  (round:∀ (u:Nat→Value) (w':World),R (slotsOf (overA a p u)) w'→∀ K:Act→World→Prop,(∀ a'' w'',Again a p R mu (mu (slotsOf (overA a p u)) w') a'' w''→K a'' w'')→c.wp P (Exit.then K Q) (overA a p u) w') :
  (Code.loop c).wp P Q a w:=by
 refine wp_loop (Meets a p R) (fun a' w'=>mu (slotsOf a') w') ⟨overA_self a p,h0⟩ ?_
 rintro a' w' ⟨e,hR⟩
 obtain ⟨u,hu⟩:∃ u,u=slotsOf a':=⟨_,rfl⟩
 rw [←hu] at e
 subst e
 exact round u w' hR _ (fun a'' w'' h=>h)
theorem wp_cut_over {K:Act→World→Prop} (p:Nat→Bool) (R:(Nat→Value)→World→Prop)
  (first:∀ K':Act→World→Prop,(∀ a'' w'',Meets a p R a'' w''→K' a'' w'')→c.wp P (Exit.then K' Q) a w)
  (rest:∀ (u:Nat→Value) (w':World),R (slotsOf (overA a p u)) w'→K (overA a p u) w'):c.wp P (Exit.then K Q) a w:=by
 refine wp_mono (first (Meets a p R) (fun _ _ h=>h)) ?_
 intro e a' w' hq
 cases e with
 | normal=>
  obtain ⟨e,hR⟩:=hq
  obtain ⟨u,hu⟩:∃ u,u=slotsOf a':=⟨_,rfl⟩
  rw [←hu] at e
  subst e
  exact rest u w' hR
 | exit id=>exact hq
 | goto l=>exact hq
 | ret=>exact hq
 | panic ch=>exact hq
 | outgrown=>exact hq
end
section
section
variable {W:Wd}
def Wd.all (W:Wd):List Int:=W.idx false ++ W.idx true
theorem Wd.mem_all {i:Int}:i ∈ W.all↔W.live i:=by
 unfold Wd.all
 rw [List.mem_append,Wd.mem_idx,Wd.mem_idx]
 constructor
 ·rintro (h | h) <;> exact h.1
 ·intro h;cases ho:(W.th i).old
  ·exact .inl ⟨h,rfl⟩
  ·exact .inr ⟨h,rfl⟩
theorem Wd.gr_refs (h:W.ok) {i:Int} (hi:W.live i) {v:Vl} (hv:v ∈ (W.gr i).2) (h3:v.1=3):W.live v.2:=by
 unfold Wd.gr at hv
 dsimp only at hv
 rcases List.mem_append.1 hv with h1 | h1
 ·exact Wd.okV_ref (h.tv i hi v h1) h3
 ·split at h1
  ·obtain ⟨x,hx,rfl⟩:=List.mem_map.1 h1
   unfold waitAt at hx
   obtain ⟨e,he,rfl⟩:=List.mem_map.1 hx
   exact (h.wv e (List.mem_filter.1 he).1).2.2
  ·cases h1
theorem Wd.inU (h:W.ok):InU W.gr W.all:=⟨fun i hi v hv h3=>Wd.mem_all.2 (Wd.gr_refs h (Wd.mem_all.1 hi) hv h3)⟩
theorem Wd.all_len (h:W.ok):W.all.length≤1300:=by
 have key:∀ b,((W.idx b).length:Int)≤((W.idx b).map fun i=>(W.th i).words).sum:=fun b=>by
  generalize W.idx b=l
  induction l with
  | nil=>simp
  | cons a l ih=>
   have hw:(W.th a).words=1+((W.th a).fs.length:Int):=rfl
   simp only [List.length_cons,List.map_cons,List.sum_cons];omega
 have h1:=key false;have h2:=key true
 rw [Wd.sum_idx] at h1 h2
 have e1:(sumW W.T fun t=>!t.dead && (t.old == false))=W.young:=by unfold Wd.young;congr 1;funext t;cases t.old <;> rfl
 have e2:(sumW W.T fun t=>!t.dead && (t.old == true))=W.olds:=by unfold Wd.olds;congr 1;funext t;cases t.old <;> rfl
 rw [e1] at h1;rw [e2] at h2
 have:=h.uy;have:=h.uo;have:=h.m2;have:=h.g2
 unfold Wd.all
 rw [List.length_append]
 omega
def Wd.met (W:Wd):List Int:=metM W.gr W.roots
structure Seen (W:Wd):Prop where
 eq:W.view=(W.roots.map (numV W.met),W.met.map fun x=>numN W.met (W.gr x))
 nd:W.met.Nodup
 rt:∀ v ∈ W.roots,v.1=3→v.2 ∈ W.met
 fd:∀ x ∈ W.met, ∀ v ∈ (W.gr x).2,v.1=3→v.2 ∈ W.met
 led:∀ (k:Nat) (x:Int),W.met[k]? = some x→((3,x):Vl) ∈ W.roots∨∃ (j:Nat) (y:Int),j<k∧W.met[j]? = some y∧((3,x):Vl) ∈ (W.gr y).2
 lv:∀ x ∈ W.met,W.live x
theorem Wd.seen (h0:W.ok):Seen W:=by
 have h:=h0
 have hr:∀ v ∈ W.roots,v.1=3→v.2 ∈ W.all:=fun v hv h3=>Wd.mem_all.2 (Wd.okV_ref (h.rv v hv) h3)
 obtain ⟨h1,h2,h3,h4,h5⟩:=viewM_told (Wd.inU h) (by have:=Wd.all_len h;unfold deep;omega) hr
 refine ⟨h1,h2,h3,h4,h5,?_⟩
 have key:∀ (k:Nat) (x:Int),W.met[k]? = some x→W.live x:=by
  intro k
  induction k using Nat.strongRecOn with
  | _ k ih=>
   intro x hx
   rcases h5 k x hx with h | ⟨j,y,hj,hy,hm⟩
   ·exact Wd.okV_ref (h0.rv _ h) rfl
   ·exact Wd.gr_refs h0 (ih j hj y hy) hm rfl
 intro x hx
 obtain ⟨k,hk,rfl⟩:=List.mem_iff_getElem.1 hx
 exact key k _ (List.getElem?_eq_getElem hk)
theorem Seen.lens (S:Seen W) (h:W.ok):W.view.1.length=12∧W.view.2.length≤1300∧∀ n ∈ W.view.2,n.2.length≤100:=by
 rw [S.eq]
 refine ⟨by simpa using h.hr,?_,fun n hn=>?_⟩
 ·dsimp only
  rw [List.length_map]
  have hsub:∀ x ∈ W.met,x ∈ W.all:=fun x hx=>Wd.mem_all.2 (S.lv x hx)
  have h1:=sum_sub (f:=fun _=>1) (fun _=>by decide) S.nd hsub
  have e:∀ l:List Int,(l.map fun _=>(1:Int)).sum=l.length:=fun l=>by
   induction l with
   | nil=>rfl
   | cons a l ih=>simp only [List.map_cons,List.sum_cons,ih,List.length_cons];omega
  rw [e,e] at h1
  have:=Wd.all_len h
  omega
 ·obtain ⟨x,hx,rfl⟩:=List.mem_map.1 hn
  have hl:=S.lv x hx
  have h1:=(fitsW_spec (h.tk x hl)).2.2.2
  have h2:=h.hq
  have h3:(waitAt W.wait x).length≤W.wait.length:=by unfold waitAt;rw [List.length_map];exact List.length_filter_le _ _
  unfold numN Wd.gr
  simp only [List.length_map,List.length_append]
  split
  ·rw [List.length_map];omega
  ·simp;omega
end
end
section
open Go.RowKit
def unS (x:Int):Nat:=(x%18446744073709551616).toNat
theorem unS_wrap (x:Int):IntKind.u64.wrap x=(unS x:Int):=by
 unfold unS
 rw [Int.toNat_of_nonneg (Int.emod_nonneg _ (by decide))]
 rfl
def rootN (x:Int):Nat:=unS x%12
theorem rootN_lt (x:Int):rootN x<12:=Nat.mod_lt _ (by decide)
theorem rootN_tmod (x:Int):((unS x:Int)).tmod 12=(rootN x:Int):=by
 rw [Int.tmod_eq_emod_of_nonneg (by omega)];rfl
theorem rootN_mod (x:Int):((unS x:Int))%12=(rootN x:Int):=rfl
theorem rootN_wrap (x:Int):IntKind.i64.wrap (rootN x:Int)=(rootN x:Int):=IntWalk.i64_in _ (by have:=rootN_lt x;omega)
theorem meas_lt {m k:Nat} {x y:Value} (hx:x=.int .i64 ((k+1:Nat):Int)) (hy:y=.int .i64 (k:Int)) (h:k<m):m-(intOf x).toNat<m-(intOf y).toNat:=by
 subst hx;subst hy;simp [intOf];omega
section
variable {w0 w w':World} {p:Nat} {h:WH} {O O':Wo}
end
end
section
open Go.RowKit
structure RW where
 p:Nat
 tv:Value
 rv:Value
 gv:Value
 wv:Value
 F:Nat→Prop
def ThRow (w:World) (F:Nat→Prop) (t:Th) (r:List Value):Prop:=
 ∃ ao cap,r=[.int .i64 t.k, .slice ao t.fs.length cap, .bool t.old, .bool t.dead]∧Rd w ao (entV t.fs)∧(∀ a,ao=some a→F a.block)∧t.fs.length≤maxLen
theorem ThRow.keep {w w':World} {F S:Nat→Prop} {t:Th} {r:List Value} (h:ThRow w F t r) (k:Keeps S w w') (hn:∀ b,F b→b<w.heap.size→¬ S b):ThRow w' F t r:=by
 obtain ⟨ao,cap,e,hr,hf,hc⟩:=h
 exact ⟨ao,cap,e,hr.keep k (fun a ha hb=>hn _ (hf a ha) hb),hf,hc⟩
theorem ThRow.more {w:World} {F F':Nat→Prop} {t:Th} {r:List Value} (h:ThRow w F t r) (hF:∀ b,F b→F' b):ThRow w F' t r:=by
 obtain ⟨ao,cap,e,hr,hf,hc⟩:=h
 exact ⟨ao,cap,e,hr,fun a ha=>hF _ (hf a ha),hc⟩
def ThsAt (w:World) (v:Value) (F:Nat→Prop) (l:List Th):Prop:=∃ cs,Sl w 154 4 v l.length cs∧RowsC 4 (ThRow w F) l cs
theorem ThsAt.keep {w w':World} {v:Value} {F S:Nat→Prop} {l:List Th} (h:ThsAt w v F l) (k:Keeps S w w') (hn:∀ b,F b→b<w.heap.size→¬ S b) (hv:∀ b,ownB v b→¬ S b):ThsAt w' v F l:=by
 obtain ⟨cs,h1,h2⟩:=h
 exact ⟨cs,h1.keep k hv,h2.mono (fun a _ r hr=>hr.keep k hn)⟩
theorem ThsAt.nth {w:World} {v:Value} {F:Nat→Prop} {l:List Th} (h:ThsAt w v F l):∃ no nc,v=.slice no l.length nc∧∀ i,i<l.length→∃ g o ao cap,no=some ⟨g,o,none⟩∧ownB v g∧g<w.heap.size∧w.cell? ⟨g,o+i*4,none⟩=some (.int .i64 (l.getD i Th.none).k) ∧
  w.cell? ⟨g,o+i*4+1,none⟩=some (.slice ao (l.getD i Th.none).fs.length cap)∧w.cell? ⟨g,o+i*4+2,none⟩=some (.bool (l.getD i Th.none).old)∧w.cell? ⟨g,o+i*4+3,none⟩=some (.bool (l.getD i Th.none).dead) ∧
  Rd w ao (entV (l.getD i Th.none).fs)∧(∀ a,ao=some a→F a.block)∧(l.getD i Th.none).fs.length≤maxLen:=by
 obtain ⟨cs,hs,hr⟩:=h
 obtain ⟨no,nc,rfl,hrd,-,-⟩:=hs.rd
 refine ⟨no,nc,rfl,fun i hi=>?_⟩
 obtain ⟨r,h1,⟨ao,cap,rfl,h2,h5,h3⟩,h4⟩:=hr.cell hi
 have hlen:=hr.length
 have hne:cs≠[]:=by intro e;subst e;simp at hlen;omega
 obtain ⟨g,o,rfl,hg,hc⟩:=hrd hne
 have e:l.getD i Th.none=l[i]:=by rw [List.getD_eq_getElem?_getD,List.getElem?_eq_getElem hi];rfl
 rw [e]
 refine ⟨g,o,ao,cap,rfl,rfl,hg,?_,?_,?_,?_,h2,h5,h3⟩
 ·have:=h4 0 (by decide)
  rw [hc (i*4) (by rw [hlen];omega)]
  exact this
 ·have:=h4 1 (by decide)
  rw [Nat.add_assoc,hc (i*4+1) (by rw [hlen];omega)]
  exact this
 ·have:=h4 2 (by decide)
  rw [Nat.add_assoc,hc (i*4+2) (by rw [hlen];omega)]
  exact this
 ·have:=h4 3 (by decide)
  rw [Nat.add_assoc,hc (i*4+3) (by rw [hlen];omega)]
  exact this
def RW.Own (h:RW) (k:Nat):Prop:=k=h.p∨ownB h.tv k∨ownB h.rv k∨ownB h.gv k∨ownB h.wv k∨h.F k
structure WorldAt (w:World) (h:RW) (W:Wd):Prop where
 hp:Blk w h.p [h.tv,h.rv,h.gv,h.wv, .int .i64 W.most, .int .i64 W.grow] 147
 ht:ThsAt w h.tv h.F W.T
 hr:Sl w 96 2 h.rv W.roots.length (entV W.roots)
 hg:Sl w 152 2 h.gv W.regs.length (entV W.regs)
 hw:Sl w 152 2 h.wv W.wait.length (entV W.wait)
 ap:∀ k,¬ (ownB h.gv k∧ownB h.wv k)
 af:∀ k,h.F k→k<w.heap.size∧(∃ c,Blk w k c 96)∧¬ ownB h.rv k
 ok:W.ok
def WorldTo (w:World) (h:RW) (w':World) (W':Wd):Prop:=
 ∃ h',WorldAt w' h' W'∧h'.p=h.p∧Keeps h.Own w w'∧∀ k,h'.Own k→h.Own k∨w.heap.size≤k
section
variable {w w':World} {h:RW} {W:Wd}
theorem WorldAt.keep {S:Nat→Prop} (H:WorldAt w h W) (k:Keeps S w w') (hn:∀ b,h.Own b→¬ S b):WorldAt w' h W:=
 ⟨k.blk H.hp (hn _ (.inl rfl)),H.ht.keep k (fun b hb _=>hn b (.inr (.inr (.inr (.inr (.inr hb)))))) (fun b hb=>hn b (.inr (.inl hb))),H.hr.keep k (fun b hb=>hn b (.inr (.inr (.inl hb)))),H.hg.keep k (fun b hb=>hn b (.inr (.inr (.inr (.inl hb))))),
  H.hw.keep k (fun b hb=>hn b (.inr (.inr (.inr (.inr (.inl hb)))))),H.ap,fun b hb=>by
   obtain ⟨h1,⟨c,h2⟩,h3⟩:=H.af b hb
   exact ⟨Nat.lt_of_lt_of_le h1 k.size,⟨c,k.blk h2 (hn b (.inr (.inr (.inr (.inr (.inr hb))))))⟩,h3⟩,H.ok⟩
theorem WorldAt.same (H:WorldAt w h W) (k:Keeps (fun _=>False) w w'):WorldAt w' h W:=H.keep k (fun _ _ h=>h)
theorem WorldTo.same (H:WorldAt w h W) (k:Keeps (fun _=>False) w w'):WorldTo w h w' W:=⟨h,H.same k,rfl,k.mono (fun _ _ h=>h.elim),fun k hk=>.inl hk⟩
theorem WorldTo.from_same {w1:World} {W1:Wd} (k:Keeps (fun _=>False) w w1) (t:WorldTo w1 h w' W1):WorldTo w h w' W1:=by
 obtain ⟨h1,H1,e1,k1,o1⟩:=t
 exact ⟨h1,H1,e1,(k.mono (fun _ _ h=>h.elim)).trans k1,fun b hb=>(o1 b hb).imp id (fun h=>Nat.le_trans k.size h)⟩
theorem WorldAt.own_type (H:WorldAt w h W) {k:Nat} (hk:h.Own k):k<w.heap.size∧∃ c T,Blk w k c T∧(T=147∨T=154∨T=96∨T=152):=by
 rcases hk with rfl | hk | hk | hk | hk | hk
 ·exact ⟨H.hp.lt,_,_,H.hp, .inl rfl⟩
 ·obtain ⟨cs,hs,_⟩:=H.ht
  obtain ⟨h1,c,hc⟩:=hs.own hk
  exact ⟨h1,c,_,hc, .inr (.inl rfl)⟩
 ·obtain ⟨h1,c,hc⟩:=H.hr.own hk
  exact ⟨h1,c,_,hc, .inr (.inr (.inl rfl))⟩
 ·obtain ⟨h1,c,hc⟩:=H.hg.own hk
  exact ⟨h1,c,_,hc, .inr (.inr (.inr rfl))⟩
 ·obtain ⟨h1,c,hc⟩:=H.hw.own hk
  exact ⟨h1,c,_,hc, .inr (.inr (.inr rfl))⟩
 ·obtain ⟨h1,⟨c,hc⟩,_⟩:=H.af k hk
  exact ⟨h1,c,_,hc, .inr (.inr (.inl rfl))⟩
theorem WorldAt.cells (H:WorldAt w h W):w.cell? ⟨h.p,0,none⟩=some h.tv∧w.cell? ⟨h.p,1,none⟩=some h.rv∧w.cell? ⟨h.p,2,none⟩=some h.gv∧w.cell? ⟨h.p,3,none⟩=some h.wv∧w.cell? ⟨h.p,4,none⟩=some (.int .i64 W.most)∧w.cell? ⟨h.p,5,none⟩=some (.int .i64 W.grow):=
 ⟨H.hp.cell 0,H.hp.cell 1,H.hp.cell 2,H.hp.cell 3,H.hp.cell 4,H.hp.cell 5⟩
theorem Wd.th_bound (hk:W.ok) {i:Int} (hi:W.live i):(W.th i).fs.length≤12:=by
 have:=(fitsW_spec (hk.tk i hi)).2.2.2;omega
def usedN (l:List Th) (n:Nat):Int × Int:=(sumW (l.take n) fun t=>!t.dead && !t.old,sumW (l.take n) fun t=>!t.dead && t.old)
theorem usedN_step {l:List Th} {n:Nat} (h:n<l.length):usedN l (n+1)=((usedN l n).1+(if (!l[n].dead && !l[n].old)=true then l[n].words else 0),(usedN l n).2+(if (!l[n].dead && l[n].old)=true then l[n].words else 0)):=by
 unfold usedN
 rw [←List.take_append_getElem h,sumW_app,sumW_app]
 simp [sumW]
theorem usedN_le (hk:W.ok) (n:Nat):0≤(usedN W.T n).1∧(usedN W.T n).1≤1024∧0≤(usedN W.T n).2∧(usedN W.T n).2≤1024:=by
 have h1:=hk.uy;have h2:=hk.uo;have h3:=hk.m2;have h4:=hk.g2
 have key:∀ p:Th→Bool,sumW (W.T.take n) p≤sumW W.T p:=fun p=>by
  have:=sumW_app (W.T.take n) (W.T.drop n) p
  rw [List.take_append_drop] at this
  have:=sumW_nonneg (W.T.drop n) p
  omega
 have k1:=key fun t=>!t.dead && !t.old;have k2:=key fun t=>!t.dead && t.old
 unfold usedN
 refine ⟨sumW_nonneg _ _,?_,sumW_nonneg _ _,?_⟩
 ·have:sumW W.T (fun t=>!t.dead && !t.old)=W.young:=rfl
  dsimp only;omega
 ·have:sumW W.T (fun t=>!t.dead && t.old)=W.olds:=rfl
  dsimp only;omega
theorem WUsed_c (H:WorldAt w h W) (hT:W.T.length≤1000000) :
  Calls Tryz.prog 34 #[.pointer (some ⟨h.p,0,none⟩)] w fun e w'=>e=.returned (.tuple #[.int .i64 W.young, .int .i64 W.olds])∧Keeps (fun _=>False) w w':=by
 have HH:=Hz H
 obtain ⟨no,nc,hno,-⟩:=H.ht.nth
 clear H
 go_enter Tryz.func34,Tryz.ntmps34
 go_wp2_with fail
 go_loopw [4,5,6] (fun a b i wr=>∃ k:Nat,k≤W.T.length∧i=.int .i64 k∧a=.int .i64 (usedN W.T k).1∧b=.int .i64 (usedN W.T k).2∧Keeps (fun _=>False) w wr) (fun _ _ i _=>W.T.length-(intOf i).toNat)
 case atStart=>exact ⟨0,Nat.zero_le _,rfl,rfl,rfl,Keeps.refl _ _⟩
 case round=>
  obtain ⟨k,hk,rfl,rfl,rfl,hkk⟩:=hrel
  have HK:=Hz hkk;clear hkk
  have HW:=Hz (HH.out.same HK.out)
  obtain ⟨c0,-,-,-,-,-⟩:=HW.out.cells
  have pl:=HW.out.hp.lt
  rw [hno] at c0
  by_cases hlt:k<W.T.length
  ·obtain ⟨_,_,e',N⟩:=HW.out.ht.nth
   rw [hno] at e';cases e'
   obtain ⟨g,o,ao,cap,rfl,-,hgl,t0,t1,t2,t3,-,-,hml⟩:=N k hlt
   have hst:=usedN_step hlt
   have hb:=usedN_le HH.out.ok k;have hb1:=usedN_le HH.out.ok (k+1)
   have he:W.T.getD k Th.none=W.T[k]:=by rw [List.getD_eq_getElem?_getD,List.getElem?_eq_getElem hlt];rfl
   rw [he] at t0 t1 t2 t3 hml
   have hwd:(W.T[k]).words=1+((W.T[k]).fs.length:Int):=rfl
   generalize W.T[k]=t at *
   clear N he
   obtain ⟨a,ha⟩:∃ a,(usedN W.T k).1=a:=⟨_,rfl⟩
   obtain ⟨b,hbq⟩:∃ b,(usedN W.T k).2=b:=⟨_,rfl⟩
   rw [ha,hbq] at hb hst ⊢
   go_upto_region 6 with (refine wpList_agg rfl 154 (.tmp 22) rfl [.int .i64 t.k, .slice ao t.fs.length cap, .bool t.old, .bool t.dead] (by kernel_rfl) g (o+k*4) rfl (rangeAt_cons t0 (rangeAt_cons t1 (rangeAt_cons t2 (rangeAt_cons t3 rangeAt_nil)))) ?_)
   cases hd:t.dead
   ·rw [hd] at hst t3
    cases ho:t.old
    ·rw [ho] at hst t2
     simp only [Bool.not_false,Bool.and_self,if_true,Bool.and_false,Bool.false_eq_true,if_false] at hst
     rw [hst] at hb1
     dsimp only at hb1
     rw [hwd] at hst hb1
     go_wp2_with fail
     go_roundw
     case rel=>exact ⟨k+1,hlt,by go_num,by first | (rw [hst];done) | (rw [hst];exact int_eq (by dsimp only;rw [IntWalk.i64_in _ (by omega),IntWalk.i64_in _ (by omega)])) | (rw [hst];exact int_eq (by dsimp only;rw [IntWalk.i64_in _ (by omega)])),by first | (rw [hst];done) | (rw [hst];exact int_eq (by dsimp only;omega)),HK.out.alloc _⟩
     case measure=>simp [intOf];omega
    ·rw [ho] at hst t2
     simp only [Bool.not_false,Bool.and_self,if_true,Bool.and_false,Bool.false_eq_true,if_false,Bool.not_true,Bool.true_and] at hst
     rw [hst] at hb1
     dsimp only at hb1
     rw [hwd] at hst hb1
     go_wp2_with fail
     go_roundw
     case rel=>exact ⟨k+1,hlt,by go_num,by first | (rw [hst];done) | (rw [hst];exact int_eq (by dsimp only;omega)),by first | (rw [hst];done) | (rw [hst];exact int_eq (by dsimp only;rw [IntWalk.i64_in _ (by omega),IntWalk.i64_in _ (by omega)])) | (rw [hst];exact int_eq (by dsimp only;rw [IntWalk.i64_in _ (by omega)])),HK.out.alloc _⟩
     case measure=>simp [intOf];omega
   ·rw [hd] at hst t3
    simp only [Bool.not_true,Bool.false_and,Bool.false_eq_true,if_false,Int.add_zero] at hst
    go_wp2_with fail
    go_roundw
    case rel=>exact ⟨k+1,hlt,by go_num,by rw [hst],by rw [hst],HK.out.alloc _⟩
    case measure=>simp [intOf];omega
  ·obtain rfl:k=W.T.length:=by omega
   have hall:usedN W.T W.T.length=(W.young,W.olds):=by unfold usedN Wd.young Wd.olds;rw [List.take_length]
   rw [hall]
   go_wp2_with fail
   go_ret2
   exact ⟨rfl,HK.out⟩
end
end
end Go.Proofs.YtjifdalflepcoacGreat
