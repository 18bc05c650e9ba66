/-
  Parts of the proof, merged: what the functions do, and plain laws.
-/
import Derived.Test.YtjifdalflepcoacGreatMLAP5
import Derived.Test.YtjifdalflepcoacGreatMLAP0
import Derived.Test.YtjifdalflepcoacGreatMLAP4
import Derived.Test.YtjifdalflepcoacGreatMLAP2
set_option maxHeartbeats 16000000
set_option maxRecDepth 100000
set_option linter.unusedVariables false
set_option linter.unusedSimpArgs false
namespace Go.Proofs.YtjifdalflepcoacGreat
section
open Go.RowKit
section
variable {w0 w w':World} {p:Nat} {h:BH} {O:Wo} {W G:Wd} {φ:Int→Int}
theorem BM.woodK {O':Wo} (M:BM w0 w p h O W) (t:WoodTo w h.a w' O'):∃ h',BM w0 w' p h' O' W∧Keeps h.a.Own w w':=by
 obtain ⟨h',M'⟩:=M.to (BothTo.wood M.B t)
 obtain ⟨a',H',e',k',o'⟩:=t
 exact ⟨h',M',k'⟩
def numV' (A:Ar) (l:List Int):List Value:=l.map fun q=>.int .i64 (A.load (q+1))
theorem numV'_snoc {A:Ar} {l:List Int} {k:Nat} (h:k<l.length):numV' A (l.take (k+1))=numV' A (l.take k) ++ [.int .i64 (A.load (l.getD k 0+1))]:=by
 unfold numV'
 rw [List.take_add_one,List.getElem?_eq_getElem h,List.getD_eq_getElem?_getD,List.getElem?_eq_getElem h,List.map_append];rfl
def NumbersRet (w:World) (A:Ar) (e:Ending) (w':World):Prop:=
 ∃ ao cap,e=.returned (.slice ao (numsA A).length cap)∧Sl w' 2 1 (.slice ao (numsA A).length cap) (numsA A).length ((numsA A).map (Value.int .i64))∧Keeps (fun _=>False) w w'∧∀ b,ownB (.slice ao (numsA A).length cap) b→w.heap.size≤b
theorem numbers_c (R:Rep O G φ) (M:BM w0 w p h O W):Calls Tryz.prog 27 #[.pointer (some ⟨p,0,none⟩)] w (NumbersRet w O.ar):=by
 obtain ⟨i0,hi,hz0,hz1,hz2⟩:=info_parts info_i64
 have Hi:=Hz hi;have Hz0:=Hz hz0;have Hz1:=Hz hz1;have Hz2:=Hz hz2;clear hi hz0 hz1 hz2
 have HM:=Hz M
 obtain ⟨c0,c1,pl⟩:=M.pc
 have q0:=M.B.H.ptrs.1;have ql:=M.B.H.hp.lt
 have ly:O.ar.things.1.length≤1300:=Ar.list_len O.ar 1300 _ _
 have lo:O.ar.things.2.length≤1300:=Ar.list_len O.ar 1300 _ _
 have HPL:=Hz (show ∀ q,q ∈ O.ar.things.1∨q ∈ O.ar.things.2→0≤q∧q<100000 from fun q hq=>by
  have a1:=M.B.H.ok.ha.h1;have a2:=M.B.H.ok.ha.h2;have a3:=M.B.H.ok.ha.h3;have a4:=M.B.H.ok.ha.h4
  have hf:=O.ar.thing_fields q
  rcases hq with hq | hq
  ·have:=R.ty.mem q hq;omega
  ·have:=R.tz.mem q hq;omega)
 have HNA:=Hz (show (numsA O.ar).map (Value.int .i64)=numV' O.ar (O.ar.things.2 ++ O.ar.things.1) by unfold numsA numV';rw [List.map_map];rfl)
 have HNL:=Hz (show (numsA O.ar).length=O.ar.things.2.length+O.ar.things.1.length by unfold numsA;rw [List.length_map,List.length_append])
 unfold NumbersRet
 rw [HNA.out,HNL.out]
 clear M
 go_enter Tryz.func27,Tryz.ntmps27
 go_wp2_with fail
 refine (Things_c w HM.out.B.H.ha).mono ?_
 rintro e w1 ⟨ao,ac,bo,bc,rfl,hs1,hs2,hk,-,-⟩
 have M1:=Hz (HM.out.same hk);have K1:=Hz hk;have SY:=Hz hs1;have SO:=Hz hs2
 clear hs1 hs2 hk c0 c1 pl q0 ql HM
 generalize hY:O.ar.things.1=Y at *
 generalize hZ:O.ar.things.2=Z at *
 have HY:=Hz hY;have HZ:=Hz hZ
 clear hY hZ
 go_wp2_with fail
 go_loopw [5,6] (fun v i wr=>∃ (ao:Option Addr) (cap k:Nat),v=.slice ao k cap∧k≤Z.length∧i=.int .i64 k∧Sl wr 2 1 (.slice ao k cap) k (numV' O.ar (Z.take k))∧Keeps (fun _=>False) w1 wr∧∀ b,ownB (.slice ao k cap) b→w1.heap.size≤b) (fun _ i _=>Z.length-(intOf i).toNat)
 case atStart=>exact ⟨none,0,0,rfl,Nat.zero_le _,rfl,Sl.nil _ _ _,Keeps.refl _ _,fun k hk=>(nil_own hk).elim⟩
 case round=>
  obtain ⟨ao,cap,k,rfl,hk,rfl,hs,hK,ho⟩:=hrel
  have SR:=Hz hs;have KR:=Hz hK;have HO:=Hz ho
  clear hs hK ho
  by_cases hlt:k<Z.length
  ·
   have SL:=Hz (SO.out.keep KR.out (fun _ _ h=>h))
   have MR:=Hz (M1.out.same KR.out)
   obtain ⟨_,_,e',rd,-,-⟩:=SL.out.rd
   cases e'
   obtain ⟨gc,oc,rfl,d0⟩:=rd.int k hlt
   have hgl:=(SL.out.own (k:=gc) rfl).1
   have HSN:=Hz (numV'_snoc (A:=O.ar) hlt)
   have hq:=HPL.out (Z.getD k 0) (by rw [List.getD_eq_getElem?_getD,List.getElem?_eq_getElem hlt];simp [List.getElem_mem])
   generalize Z.getD k 0=q at *
   obtain ⟨c0,c1,pl⟩:=MR.out.pc
   have q0:=MR.out.B.H.ptrs.1;have ql:=MR.out.B.H.hp.lt
   have hw1:IntKind.i64.wrap (q+1)=q+1:=IntWalk.i64_in _ (by omega)
   obtain ⟨x,hx⟩:∃ x,O.ar.load (q+1)=x:=⟨_,rfl⟩
   have HX:=Hz hx
   clear rd hx
   go_wp2_with fail
   refine wp_region_ro (.free 0 (.free 1 (.free 2 (.free 3 (.free 8 (.free 9 (.free 10 (.pure 4 (.free 5 (.free 6 (.pure 7 (.pure 11 (.free 12 (.run 13 (.swi [14,15,16] (.run 14 (.swi [15,16] (.run 15 (.swi [] (.free 16 (.fin))))))))))))))))))))) [13,14,15,16] (fun w'=>w'.cell? ⟨p,0,none⟩=some (.pointer (some ⟨h.a.p,0,none⟩))∧w'.cell? ⟨h.a.p,0,none⟩=some (.pointer (some ⟨h.a.pa,0,none⟩))∧w'.cell? ⟨gc,oc+k,none⟩=some (.int .i64 q)) (by kernel_rfl) (by kernel_rfl) ⟨c0,q0,d0⟩ ?_
   iterate 13 first | (refine wpRO_free rfl rfl _ (fun w'=>by go_simp;exact Gives.mk _ _) (fun K hK=>?_);go_simp;refine hK _ ?_;clear hK K) | (refine wpRO_skipF rfl rfl (fun K hK=>?_);go_simp;refine hK _ ?_;clear hK K) | (refine wpRO_pure rfl rfl _ (fun w' hG=>by obtain ⟨c0,q0,d0⟩:=hG;exact gives_agg2 rfl (by decide +kernel) rfl (by assumption) (by assumption)) (fun K hK=>?_);go_simp;refine hK _ ?_;clear hK K) | (refine wpRO_pure rfl rfl _ (fun w' hG=>by obtain ⟨c0,q0,d0⟩:=hG;go_simp;exact Gives.mk _ _) (fun K hK=>?_);go_simp;refine hK _ ?_;clear hK K) | (refine wpRO_skip rfl rfl (fun K hK=>?_);go_simp;refine hK _ ?_;clear hK K)
   refine wpRO_chg rfl rfl rfl (fun K hK=>?_);unfold gRun;go_simp
   refine (Load_c (q+1) _ (MR.out.same ((Kz wr).drew)).B.H.ha).mono ?_
   rintro e w3 ⟨rfl,rfl⟩
   rw [HX.out]
   refine hK _ _ ?_
   clear hK K
   refine wpRO_swi (fun _=>True) trivial ?_
   skip
   refine wpRO_chg rfl rfl rfl (fun K hK=>?_);unfold gRun;go_simp
   refine hK _ _ ?_
   clear hK K
   refine wpRO_swi (fun _=>True) trivial ?_
   skip
   have hkb:Keeps (fun _=>False) wr ((wr.alloc (.cells #[.int .i64 x] 2)).drew):=((Kz wr).alloc (.cells #[.int .i64 x] 2)).drew
   refine wpRO_chg rfl rfl rfl (fun K hK=>?_)
   refine gRun_app (.tmp 25) (.tmp 39) 50 rfl 2 i0 (.int .i64 0) 1 8 Tryz.underlying50 Hi.out Hz0.out Hz1.out Hz2.out rfl (by decide) _ (k) _ rfl (SR.out.keep hkb (fun _ _ h=>h)) ⟨wr.heap.size,0,none⟩ 1 1 [.int .i64 x] rfl rfl (news_at wr 2 #[.int .i64 x]) (by intro u hu;simp at hu;subst hu;rfl) (by unfold maxLen;omega) (by omega) ?_
   intro v5 w5 hs5 hk5 ho5
   have K5:=Hz ((KR.out.trans hkb).then hk5 (fun b hb=>.inr (HO.out b hb)))
   have O5:=Hz (show ∀ b,ownB v5 b→w1.heap.size≤b from fun b hb=>by
    rcases ho5 b hb with h1 | h1
    ·exact HO.out b h1
    ·exact Nat.le_trans (KR.out.trans hkb).size h1)
   have S5:=Hz hs5
   refine hK _ _ ?_
   clear hK K hkb hs5 hk5 ho5 c0 c1 pl q0 ql d0 hgl hw1
   refine wpRO_swi (fun _=>True) trivial ?_
   iterate 1 first | (refine wpRO_free rfl rfl _ (fun w'=>by go_simp;exact Gives.mk _ _) (fun K hK=>?_);go_simp;refine hK _ ?_;clear hK K) | (refine wpRO_skipF rfl rfl (fun K hK=>?_);go_simp;refine hK _ ?_;clear hK K)
   refine wpRO_fin ?_
   obtain ⟨ao5,cap5,e5,-,-,-⟩:=S5.out.rd
   subst e5
   go_wp2_with fail
   go_roundw
   case rel=>exact ⟨ao5,cap5,k+1,rfl,hlt,by go_num,by rw [HSN.out,HX.out];exact S5.out,K5.out,O5.out⟩
   case measure=>simp [intOf];omega
  ·obtain rfl:k=Z.length:=by omega
   rw [List.take_length] at SR
   have I0:=Hz (And.intro SR.out (And.intro KR.out HO.out))
   clear SR KR HO
   go_wp2_with fail
   go_loopw [5,7] (fun v i wr=>∃ (ao:Option Addr) (cap k:Nat),v=.slice ao (Z.length+k) cap∧k≤Y.length∧i=.int .i64 k∧Sl wr 2 1 (.slice ao (Z.length+k) cap) (Z.length+k) (numV' O.ar Z ++ numV' O.ar (Y.take k))∧Keeps (fun _=>False) w1 wr∧∀ b,ownB (.slice ao (Z.length+k) cap) b→w1.heap.size≤b) (fun _ i _=>Y.length-(intOf i).toNat)
   case atStart=>exact ⟨ao,cap,0,rfl,Nat.zero_le _,rfl,by simpa [numV'] using I0.out.1,I0.out.2.1,I0.out.2.2⟩
   case round=>
    clear I0
    obtain ⟨ao,cap,k,rfl,hk,rfl,hs,hK,ho⟩:=hrel
    have SR:=Hz hs;have KR:=Hz hK;have HO:=Hz ho
    clear hs hK ho
    by_cases hlt:k<Y.length
    ·
     have SL:=Hz (SY.out.keep KR.out (fun _ _ h=>h))
     have MR:=Hz (M1.out.same KR.out)
     obtain ⟨_,_,e',rd,-,-⟩:=SL.out.rd
     cases e'
     obtain ⟨gc,oc,rfl,d0⟩:=rd.int k hlt
     have hgl:=(SL.out.own (k:=gc) rfl).1
     have HSN:=Hz (numV'_snoc (A:=O.ar) hlt)
     have hq:=HPL.out (Y.getD k 0) (by rw [List.getD_eq_getElem?_getD,List.getElem?_eq_getElem hlt];simp [List.getElem_mem])
     generalize Y.getD k 0=q at *
     obtain ⟨c0,c1,pl⟩:=MR.out.pc
     have q0:=MR.out.B.H.ptrs.1;have ql:=MR.out.B.H.hp.lt
     have hw1:IntKind.i64.wrap (q+1)=q+1:=IntWalk.i64_in _ (by omega)
     obtain ⟨x,hx⟩:∃ x,O.ar.load (q+1)=x:=⟨_,rfl⟩
     have HX:=Hz hx
     clear rd hx
     go_wp2_with fail
     refine wp_region_ro (.free 0 (.free 1 (.free 2 (.free 3 (.free 8 (.free 9 (.free 10 (.pure 4 (.free 5 (.free 6 (.pure 7 (.pure 11 (.free 12 (.run 13 (.swi [14,15,16] (.run 14 (.swi [15,16] (.run 15 (.swi [] (.free 16 (.fin))))))))))))))))))))) [13,14,15,16] (fun w'=>w'.cell? ⟨p,0,none⟩=some (.pointer (some ⟨h.a.p,0,none⟩))∧w'.cell? ⟨h.a.p,0,none⟩=some (.pointer (some ⟨h.a.pa,0,none⟩))∧w'.cell? ⟨gc,oc+k,none⟩=some (.int .i64 q)) (by kernel_rfl) (by kernel_rfl) ⟨c0,q0,d0⟩ ?_
     iterate 13 first | (refine wpRO_free rfl rfl _ (fun w'=>by go_simp;exact Gives.mk _ _) (fun K hK=>?_);go_simp;refine hK _ ?_;clear hK K) | (refine wpRO_skipF rfl rfl (fun K hK=>?_);go_simp;refine hK _ ?_;clear hK K) | (refine wpRO_pure rfl rfl _ (fun w' hG=>by obtain ⟨c0,q0,d0⟩:=hG;exact gives_agg2 rfl (by decide +kernel) rfl (by assumption) (by assumption)) (fun K hK=>?_);go_simp;refine hK _ ?_;clear hK K) | (refine wpRO_pure rfl rfl _ (fun w' hG=>by obtain ⟨c0,q0,d0⟩:=hG;go_simp;exact Gives.mk _ _) (fun K hK=>?_);go_simp;refine hK _ ?_;clear hK K) | (refine wpRO_skip rfl rfl (fun K hK=>?_);go_simp;refine hK _ ?_;clear hK K)
     refine wpRO_chg rfl rfl rfl (fun K hK=>?_);unfold gRun;go_simp
     refine (Load_c (q+1) _ (MR.out.same ((Kz wr).drew)).B.H.ha).mono ?_
     rintro e w3 ⟨rfl,rfl⟩
     rw [HX.out]
     refine hK _ _ ?_
     clear hK K
     refine wpRO_swi (fun _=>True) trivial ?_
     skip
     refine wpRO_chg rfl rfl rfl (fun K hK=>?_);unfold gRun;go_simp
     refine hK _ _ ?_
     clear hK K
     refine wpRO_swi (fun _=>True) trivial ?_
     skip
     have hkb:Keeps (fun _=>False) wr ((wr.alloc (.cells #[.int .i64 x] 2)).drew):=((Kz wr).alloc (.cells #[.int .i64 x] 2)).drew
     refine wpRO_chg rfl rfl rfl (fun K hK=>?_)
     refine gRun_app (.tmp 47) (.tmp 61) 50 rfl 2 i0 (.int .i64 0) 1 8 Tryz.underlying50 Hi.out Hz0.out Hz1.out Hz2.out rfl (by decide) _ (Z.length+k) _ rfl (SR.out.keep hkb (fun _ _ h=>h)) ⟨wr.heap.size,0,none⟩ 1 1 [.int .i64 x] rfl rfl (news_at wr 2 #[.int .i64 x]) (by intro u hu;simp at hu;subst hu;rfl) (by unfold maxLen;omega) (by omega) ?_
     intro v5 w5 hs5 hk5 ho5
     have K5:=Hz ((KR.out.trans hkb).then hk5 (fun b hb=>.inr (HO.out b hb)))
     have O5:=Hz (show ∀ b,ownB v5 b→w1.heap.size≤b from fun b hb=>by
      rcases ho5 b hb with h1 | h1
      ·exact HO.out b h1
      ·exact Nat.le_trans (KR.out.trans hkb).size h1)
     have S5:=Hz hs5
     refine hK _ _ ?_
     clear hK K hkb hs5 hk5 ho5 c0 c1 pl q0 ql d0 hgl hw1
     refine wpRO_swi (fun _=>True) trivial ?_
     iterate 1 first | (refine wpRO_free rfl rfl _ (fun w'=>by go_simp;exact Gives.mk _ _) (fun K hK=>?_);go_simp;refine hK _ ?_;clear hK K) | (refine wpRO_skipF rfl rfl (fun K hK=>?_);go_simp;refine hK _ ?_;clear hK K)
     refine wpRO_fin ?_
     obtain ⟨ao5,cap5,e5,-,-,-⟩:=S5.out.rd
     subst e5
     go_wp2_with fail
     go_roundw
     case rel=>exact ⟨ao5,cap5,k+1,by rw [Nat.add_assoc],hlt,by go_num,by have:=S5.out;rw [HSN.out,HX.out,←List.append_assoc,←Nat.add_assoc];exact this,K5.out,by rw [←Nat.add_assoc];exact O5.out⟩
     case measure=>simp [intOf];omega
    ·obtain rfl:k=Y.length:=by omega
     rw [List.take_length] at SR
     have hap:numV' O.ar Z ++ numV' O.ar Y=numV' O.ar (Z ++ Y):=by unfold numV';rw [List.map_append]
     rw [hap] at SR
     go_wp2_with fail
     go_ret
     rw [HZ.out,HY.out]
     exact ⟨ao,cap,rfl,SR.out,K1.out.trans KR.out,fun b hb=>Nat.le_trans K1.out.size (HO.out b hb)⟩
end
end
section
def leftG:List Int→List Int→List Int
 | [],a=>a
 | _ :: _,[]=>[]
 | x :: b,y :: a=>if x=y then leftG b a else leftG b (y :: a)
theorem leftG_sub:∀ {b a:List Int},a.Sublist b→leftG b a=[]
 | [],a,h=>by cases h;rfl
 | x :: b,[],h=>rfl
 | x :: b,y :: a,h=>by
  unfold leftG
  cases h with
  | cons _ h1=>
   split
   ·exact leftG_sub ((List.sublist_cons_self y a).trans h1)
   ·exact leftG_sub h1
  | cons_cons _ h1=>rw [if_pos rfl];exact leftG_sub h1
theorem leftG_drop {b a:List Int} {i k:Nat} (hi:i<b.length) (hk:k<a.length) :
  leftG (b.drop i) (a.drop k)=if b.getD i 0=a.getD k 0 then leftG (b.drop (i+1)) (a.drop (k+1)) else leftG (b.drop (i+1)) (a.drop k):=by
 rw [List.drop_eq_getElem_cons hi,List.drop_eq_getElem_cons hk]
 rw [List.getD_eq_getElem?_getD,List.getD_eq_getElem?_getD,List.getElem?_eq_getElem hi,List.getElem?_eq_getElem hk]
 simp only [leftG,Option.getD_some]
theorem leftG_end {b a:List Int} {k:Nat} (hk:k≤a.length) (h:leftG [] (a.drop k)=[]):k=a.length:=by
 unfold leftG at h
 have:=congrArg List.length h
 simp at this
 omega
end
section
section
variable {W:Wd}
def Wd.Least (W:Wd) (g:Bool) (is:List Bool) (q:List (Int × Int)):Prop:=∀ i,atB is i=true→Alive W.nd q (fun k=>atB (W.first g) k=true) i
theorem Wd.Least.start (g:Bool):W.Least g (W.clo W.wait (W.first g)) W.wait:=fun i hi=>(cloL_at.1 hi).2.2
theorem Wd.Least.keep {g:Bool} {is:List Bool} {q:List (Int × Int)} (h:W.Least g is q) (hlen:is.length=W.T.length) {a x:Int} (hx:W.live x) (ha:atB is a=true) (hk:(W.th a).k=5) :
  W.Least g (W.clo q (is.set x.toNat true)) (q ++ [(a,x)]):=by
 intro i hi
 have hup:∀ k,Alive W.nd q (fun k=>atB (W.first g) k=true) k→Alive W.nd (q ++ [(a,x)]) (fun k=>atB (W.first g) k=true) k:=fun k hk=>hk.mono (fun _ h=>Alive.base h) (fun e he=>by simp [he])
 refine (cloL_at.1 hi).2.2.mono (fun k hk'=>?_) (fun e he=>by simp [he])
 rcases (atB_set hx.1 (by rw [hlen];exact hx.2.1)).1 hk' with rfl | h1
 ·exact Alive.closed _ _ _ a k (hup a (h a ha)) (.inr (.inr (.inr ⟨hk,by simp⟩)))
 ·exact hup k (h k h1)
theorem Wd.Least.scan (hok:W.ok) {g:Bool}:∀ (l:List It) (is:List Bool) (q:List (Int × Int)),W.Mid g is q→W.Least g is q→(∀ i ∈ l,W.okE i.1) →
  W.Least g (scanM atB W.keepW is q l).1 (scanM atB W.keepW is q l).2.1
 | [],is,q,_,h,_=>h
 | i :: l,is,q,m,h,hl=>by
  have hi:=hl i (by simp)
  simp only [scanM]
  split
  ·rename_i hc
   simp only [Bool.and_eq_true,Bool.not_eq_true'] at hc
   obtain ⟨m',_,_⟩:=m.keep hok (g:=i.1.1) (x:=i.1.2) hi.2.2 hi.1 hi.2.1
   simp only [Wd.keepW]
   exact Wd.Least.scan hok l _ _ m' (h.keep m.len hi.2.2 hc.2 hi.2.1) (fun j hj=>hl j (by simp [hj]))
  ·exact Wd.Least.scan hok l is q m h (fun j hj=>hl j (by simp [hj]))
theorem Wd.Least.rounds (hok:W.ok) {g:Bool}:∀ (n:Nat) (l:List It) (is:List Bool) (q:List (Int × Int)),W.Mid g is q→W.Least g is q→(∀ i ∈ l,W.okE i.1) →
  W.Least g (roundsM atB W.keepW n is q l).1 (roundsM atB W.keepW n is q l).2.1
 | 0,l,is,q,_,h,_=>h
 | n+1,l,is,q,m,h,hl=>by
  have hs:=Wd.Mid.scan hok l is q m hl
  have hs2:=h.scan hok l is q m hl
  simp only [roundsM]
  split
  ·exact Wd.Least.rounds hok n _ _ _ hs.1 hs2 (scan_items is q hl)
  ·exact hs2
theorem Wd.pass_least (hok:W.ok) (g:Bool):W.Least g (W.pass g).1 (W.pass g).2.1:=
 Wd.Least.rounds hok (W.regs.length+1) (itemsM atB (W.clo W.wait (W.first g)) W.regs) _ _ (Wd.Mid.start hok g) (Wd.Least.start g) (by
  intro i hi
  simp only [itemsM,List.mem_map] at hi
  obtain ⟨e,he,rfl⟩:=hi
  exact hok.gv e he)
theorem Wd.after_nd {g:Bool} {i:Int} (h0:0≤i) (h1:i<W.T.length):(W.after g).nd i=((W.th i).k,(cutT (W.pass g).1 i.toNat (W.th i)).fs):=by
 show (((W.after g).th i).k,((W.after g).th i).fs)=_
 rw [Wd.th_after h0 h1,cutT_kind]
theorem Wd.after_wait {g:Bool} {e:Int × Int} (he:e ∈ (W.pass g).2.1) (ha:atB (W.pass g).1 e.1=true):e ∈ (W.after g).wait:=by
 show e ∈ newWait atB nowW _ _
 unfold newWait
 exact List.mem_map.2 ⟨e,List.mem_filter.2 ⟨he,ha⟩,rfl⟩
theorem Wd.after_roots {i:Int} (h0:0≤i) (h1:i<W.T.length):atB ((W.after true).first true) i=true↔atB (W.first true) i=true:=by
 rw [Wd.first_at,Wd.first_at,Wd.after_len]
 constructor
 ·rintro ⟨a,b,c | c⟩
  ·exact absurd c.2.2 (by decide)
  ·exact ⟨a,b, .inr c⟩
 ·rintro ⟨a,b,c | c⟩
  ·exact absurd c.2.2 (by decide)
  ·exact ⟨a,b, .inr c⟩
theorem Wd.after_alive (hok:W.ok) {i:Int} (hi:atB (W.pass true).1 i=true):Alive (W.after true).nd (W.after true).wait (fun k=>atB ((W.after true).first true) k=true) i:=by
 obtain ⟨m,_⟩:=Wd.pass_mid hok true
 refine ((Wd.pass_least hok true i hi).least (S:=fun k=>atB (W.pass true).1 k=true∧Alive (W.after true).nd (W.after true).wait (fun k=>atB ((W.after true).first true) k=true) k) (fun k hk=>?_) (fun a b ha hl=>?_)).2
 ·have hb:=atB_lt hk
  rw [Wd.first_length] at hb
  exact ⟨m.first k hk,Alive.base ((Wd.after_roots hb.1 hb.2).2 hk)⟩
 ·obtain ⟨ha1,ha2⟩:=ha
  have hb1:atB (W.pass true).1 b=true:=m.shut a b ha1 (hl.mono (fun k hk=>hk.1) (fun _ h=>h))
  refine ⟨hb1,Alive.closed _ _ _ a b ha2 ?_⟩
  have hlv:=m.live a ha1
  have hat:(W.pass true).1.getD a.toNat false=true:=by rw [atB_toNat hlv.1];exact ha1
  have hnd:=Wd.after_nd (W:=W) (g:=true) hlv.1 hlv.2.1
  have hf:=hok.tk a hlv
  rcases hl with ⟨h1,h2⟩ | ⟨h1,h2⟩ | ⟨h1,h2,h3⟩ | ⟨h1,h2⟩
  ·have h1':(W.th a).k=1∨(W.th a).k=2:=h1
   refine .inl ⟨by rw [hnd];exact h1,?_⟩
   rw [hnd,cutT_other hat (by omega) (by omega)]
   exact h2
  ·have h1':(W.th a).k=3:=h1
   have h2':(W.th a).fs[1]? = some (3,b):=h2
   obtain ⟨u,v,huv⟩:∃ u v,(W.th a).fs=[u,v]:=by
    rw [h1'] at hf
    simp [fitsW] at hf
    match hh:(W.th a).fs,hf with
    | [],hf=>simp at hf
    | [x],hf=>simp at hf
    | [x,y],_=>exact ⟨x,y,rfl⟩
    | x :: y :: z :: l,hf=>simp at hf;omega
   refine .inr (.inl ⟨by rw [hnd];exact h1,?_⟩)
   rw [hnd,cutT_weak hat h1' huv]
   dsimp only
   split
   ·rw [huv] at h2';exact h2'
   ·exact h2'
  ·have h1':(W.th a).k=4:=h1
   have h2':(W.th a).fs[1]? = some (3,b):=h2
   obtain ⟨u,v,huv⟩:∃ u v,(W.th a).fs=[u,v]:=by
    rw [h1'] at hf
    simp [fitsW] at hf
    match hh:(W.th a).fs,hf with
    | [],hf=>simp at hf
    | [x],hf=>simp at hf
    | [x,y],_=>exact ⟨x,y,rfl⟩
    | x :: y :: z :: l,hf=>simp at hf;omega
   have h3':=h3 u (show (W.th a).fs[0]? = some u by rw [huv];rfl)
   have hin:inS (W.pass true).1 u=true:=by
    unfold inS
    by_cases hu:u.1=3
    ·simp [hu,(h3' hu).1]
    ·simp [hu]
   refine .inr (.inr (.inl ⟨by rw [hnd];exact h1,?_,?_⟩))
   ·rw [hnd,cutT_eph hat h1' huv,if_neg (by rw [hin];decide)]
    exact h2'
   ·intro w hw h6
    rw [hnd,cutT_eph hat h1' huv,if_neg (by rw [hin];decide)] at hw
    exact (h3 w hw h6).2
  ·exact .inr (.inr (.inr ⟨by rw [hnd];exact h1,Wd.after_wait h2 ha1⟩))
theorem Wd.after_start (hok:W.ok) (hroom:sumL (W.pass true).1 W.T≤W.grow) (g:Bool) (i:Int):atB ((W.after true).clo (W.after true).wait ((W.after true).first g)) i=true↔(W.after true).live i:=by
 have hok':=hok.after hroom
 constructor
 ·exact fun h=>(Wd.Mid.start hok' g).live i h
 ·intro h
  refine cloL_at.2 ⟨h.1,by rw [Wd.first_length];exact h.2.1,?_⟩
  have hb:=(Wd.after_live hok).1 h
  cases g
  ·refine Alive.base (Wd.first_at.2 ⟨h.1,h.2.1, .inl ⟨?_,h.2.2,rfl⟩⟩)
   have hl:=(Wd.pass_mid hok true).1.live i hb
   rw [Wd.th_after hl.1 hl.2.1]
   exact (cutT_live (by rw [atB_toNat hl.1];exact hb)).2
  ·exact Wd.after_alive hok hb
theorem scanM_none {τ:Type} (alive:τ→Int→Bool) (keep):∀ (l:List It) (t:τ) (q:List (Int × Int)),(∀ i ∈ l,i.2.1=false)→scanM alive keep t q l=(t,q,l,false)
 | [],_,_,_=>rfl
 | i :: l,t,q,h=>by
  simp only [scanM]
  rw [if_neg (by rw [h i (by simp)];simp),scanM_none alive keep l t q (fun j hj=>h j (by simp [hj]))]
theorem passM_none {τ:Type} (alive:τ→Int→Bool) (keep) (t:τ) (regs wait:List (Int × Int)) (h:∀ e ∈ regs,alive t e.2=true):passM alive keep t regs wait=(t,wait,regs.map fun e=>(e,false,false)):=by
 have hit:itemsM alive t regs=regs.map fun e=>(e,false,false):=by
  unfold itemsM
  exact List.map_congr_left fun e he=>by rw [h e he];rfl
 unfold passM
 rw [hit]
 simp only [roundsM]
 rw [scanM_none alive keep _ t wait (fun i hi=>by obtain ⟨e,_,rfl⟩:=List.mem_map.1 hi;rfl)]
 rfl
theorem Wd.after_same {V:Wd} (hok:V.ok) (g:Bool) (hall:∀ i,atB (V.clo V.wait (V.first g)) i=true↔V.live i)
  (hT:∀ i:Int,0≤i→i<V.T.length→(V.live i→(V.th i).old=true)∧(¬ V.live i→(V.th i).fs=[])):V.after g=V:=by
 have hp:V.pass g=(V.clo V.wait (V.first g),V.wait,V.regs.map fun e=>(e,false,false)):=by
  unfold Wd.pass
  exact passM_none _ _ _ _ _ (fun e he=>(hall e.2).2 (hok.gv e he).2.2)
 have e1:cutTs (V.pass g).1 V.T=V.T:=by
  rw [hp]
  dsimp only
  refine List.ext_getElem (by simp [cutTs]) (fun k h1 h2=>?_)
  simp only [cutTs,List.getElem_mapIdx]
  have hth:V.th (k:Int)=V.T[k]:=by unfold Wd.th;rw [Int.toNat_natCast,List.getD_eq_getElem?_getD,List.getElem?_eq_getElem h2];rfl
  have hk:=hT k (by omega) (by omega)
  rw [hth] at hk
  generalize hC:V.clo V.wait (V.first g)=C at *
  have hat:C.getD k false=atB C (k:Int):=by
   have:=atB_toNat (is:=C) (i:=(k:Int)) (by omega)
   rwa [Int.toNat_natCast] at this
  by_cases hl:V.live k
  ·have hb:C.getD k false=true:=by rw [hat];exact (hall k).2 hl
   have ho:=hk.1 hl
   have hin:∀ v ∈ (V.th (k:Int)).fs,inS C v=true:=fun v hv=>by
    unfold inS
    by_cases h3:v.1=3
    ·simp [h3,(hall v.2).2 (Wd.okV_ref (hok.tv k hl v hv) h3)]
    ·simp [h3]
   have hf0:=hok.tk k hl
   rw [hth] at hin hf0
   have h0:(V.T[k].k=3∨V.T[k].k=4)→inS C (V.T[k].fs.getD 0 (0,0))=true:=fun h=>by
    refine hin _ ?_
    have hne:0<V.T[k].fs.length:=by
     rcases h with h | h <;> (rw [h] at hf0;simp [fitsW] at hf0;omega)
    rw [List.getD_eq_getElem?_getD,List.getElem?_eq_getElem hne]
    exact List.getElem_mem _
   unfold cutT
   rw [if_pos hb]
   rw [if_neg (fun h=>by rw [h0 (.inr h.1)] at h;exact absurd h.2 (by decide)),if_neg (fun h=>by rw [h0 (.inl h.1)] at h;exact absurd h.2 (by decide))]
   show (⟨V.T[k].k,V.T[k].fs,true,V.T[k].dead⟩:Th)=V.T[k]
   generalize V.T[k]=t at *
   cases t
   simp_all
  ·have hb:C.getD k false=false:=by
    rw [hat]
    cases hh:atB C (k:Int)
    ·rfl
    ·exact absurd ((hall k).1 hh) hl
   rw [cutT_no hb]
   have hd:V.T[k].dead=true:=by
    cases hh:V.T[k].dead
    ·exact absurd ⟨by omega,by omega,by rw [hth];exact hh⟩ hl
    ·rfl
   have hfs:=hk.2 hl
   show (⟨V.T[k].k,[],V.T[k].old,true⟩:Th)=V.T[k]
   generalize V.T[k]=t at *
   cases t
   simp_all
 have e2:newRegs atB nowW (V.pass g).1 (V.pass g).2.2=V.regs:=by
  rw [hp]
  unfold newRegs nowW
  dsimp only
  rw [List.filter_eq_self.2 (fun i hi=>by
   obtain ⟨e,he,rfl⟩:=List.mem_map.1 hi
   simp [(hall e.1).2 (hok.gv e he).1]),List.map_map]
  exact List.map_id'' (fun _=>rfl) _
 have e3:newWait atB nowW (V.pass g).1 (V.pass g).2.1=V.wait:=by
  rw [hp]
  unfold newWait nowW
  dsimp only
  rw [List.filter_eq_self.2 (fun e he=>(hall e.1).2 (hok.wv e he).1)]
  exact List.map_id'' (fun _=>rfl) _
 unfold Wd.after
 rw [e1,e2,e3]
theorem Wd.cut_again (hok:W.ok) (h0:(W.cut true).1=0) (g:Bool):(W.cut true).2.cut g=(0,(W.cut true).2)∧(W.cut true).2.young=0:=by
 have hroom:¬ sumL (W.pass true).1 W.T > W.grow:=fun h=>by rw [W.cut_great_no h] at h0;exact absurd (show (3:Int)=0 from h0) (by decide)
 have hr:sumL (W.pass true).1 W.T≤W.grow:=by omega
 rw [W.cut_great hroom]
 dsimp only
 have hok':=hok.after hr
 have hs:=Wd.after_sums hok true
 have hsame:(W.after true).after g=W.after true:=by
  refine Wd.after_same hok' g (Wd.after_start hok hr g) (fun i hi0 hi1=>⟨fun hl=>?_,fun hl=>?_⟩)
  ·have hb:=(Wd.after_live hok).1 hl
   rw [Wd.after_len] at hi1
   rw [Wd.th_after hi0 hi1]
   exact (cutT_live (by rw [atB_toNat hi0];exact hb)).2
  ·rw [Wd.after_len] at hi1
   rw [Wd.th_after hi0 hi1]
   have hb:(W.pass true).1.getD i.toNat false=false:=by
    rw [atB_toNat hi0]
    cases hh:atB (W.pass true).1 i
    ·rfl
    ·exact absurd ((Wd.after_live hok).2 hh) hl
   rw [cutT_no hb]
 have hs2:=Wd.after_sums hok' g
 rw [hsame] at hs2
 have huo:=hok'.uo
 have hgr:(W.after true).grow=W.grow:=rfl
 refine ⟨?_,hs.1⟩
 unfold Wd.cut
 rw [if_neg (by rintro ⟨-,h⟩;omega),if_neg (by omega),hsame]
theorem Wd.size_used (hok:W.ok):sizeN W.view.2≤W.young+W.olds:=by
 rw [Wd.size_met hok]
 have S:=Wd.seen hok
 have h3:=sum_sub (f:=fun i=>(W.th i).words) (fun i=>words_nonneg _) (l:=W.met) (m:=W.all) S.nd (fun i hi=>Wd.mem_all.2 (S.lv i hi))
 have h1:=Wd.sum_idx W false;have h2:=Wd.sum_idx W true
 have e1:(sumW W.T fun t=>!t.dead && (t.old == false))=W.young:=by unfold Wd.young;congr 1;funext t;cases t.old <;> rfl
 have e2:(sumW W.T fun t=>!t.dead && (t.old == true))=W.olds:=by unfold Wd.olds;congr 1;funext t;cases t.old <;> rfl
 rw [e1] at h1;rw [e2] at h2
 unfold Wd.all at h3
 rw [List.map_append,List.sum_append] at h3
 omega
end
structure AgainAt (O1 O2 O3:Wo) (c1 c2:Int):Prop where
 c1:c1=0
 c2:c2=0
 v2:O2.view=O1.view
 v3:O3.view=O1.view
 u2:O2.ar.grn-O2.ar.nur=O1.ar.grn-O1.ar.nur
 u3:O3.ar.grn-O3.ar.nur=O1.ar.grn-O1.ar.nur
 size:sizeN O1.view.2≤((O1.ar.grn-O1.ar.nur:Nat):Int)
theorem Rep.again {O:Wo} {W:Wd} {φ:Int→Int} (R:Rep O W φ) (h0:(jCut O).1=0) :
  AgainAt (jCut O).2 (mCut (jCut O).2).2 (jCut (mCut (jCut O).2).2).2 (mCut (jCut O).2).1 (jCut (mCut (jCut O).2).2).1∧(∃ ψ,Rep (jCut O).2 (W.cut true).2 ψ)∧(∃ ψ,Rep (mCut (jCut O).2).2 (W.cut true).2 ψ)∧∃ ψ,Rep (jCut (mCut (jCut O).2).2).2 (W.cut true).2 ψ:=by
 obtain ⟨e1,ψ1,R1⟩:=R.major
 rw [h0] at e1
 obtain ⟨a1,a2⟩:=Wd.cut_again R.hw e1.symm false
 obtain ⟨b1,-⟩:=Wd.cut_again R.hw e1.symm true
 obtain ⟨e2,ψ2,R2⟩:=R1.minor
 rw [a1] at e2 R2
 obtain ⟨e3,ψ3,R3⟩:=R2.major
 dsimp only at e3 R3 e2 R2
 rw [b1] at e3 R3
 dsimp only at e3 R3
 have s1:=R1.olds_eq;have s2:=R2.olds_eq;have s3:=R3.olds_eq
 have hz:=Wd.size_used R1.hw
 rw [a2] at hz
 refine ⟨⟨e2,e3,by rw [R2.view,R1.view],by rw [R3.view,R1.view],by omega,by omega,by rw [R1.view];omega⟩,⟨_,R1⟩,⟨_,R2⟩,⟨_,R3⟩⟩
end
section
open Go.RowKit
section
variable {w w':World}
theorem MajorLeast_raw (n o:Int) (lo:Option Addr) (lc m:Nat) (xs:List Int) (w:World) (h0:Rd w lo (xs.map (Value.int .i64))) (hx:xs.length=m*4) (hb:∀ x ∈ xs,R64 x) :
  Calls Tryz.prog 3 #[.int .i64 n, .int .i64 o, .slice lo m lc] w fun e w'=>e=.returned (.bool true)∧Keeps (fun _=>False) w w':=by
 have H0:=Hz h0;have HX:=Hz hx;have HBD:=Hz hb
 clear h0 hx hb
 go_enter Tryz.func3,Tryz.ntmps3
 go_wp2_with fail
 refine (majorBegun_c _).mono ?_
 rintro e w1 ⟨rfl,hk1⟩
 have HK1:=Hz hk1;clear hk1
 by_cases hm:250<m
 ·go_wp2_with fail
  go_ret
  exact ⟨rfl,HK1.out⟩
 cases hfit:Ar.fits n o
 ·have HFM:=Hz (show faultM n o=(1,-1) by unfold faultM;rw [hfit];rfl)
  go_wp2_with fail
  refine (start_no n o _ hfit).mono ?_
  rintro e w2 ⟨rfl,hk2⟩
  go_wp2_with fail
  refine (RoomFault_c n o _).mono ?_
  rintro e w3 ⟨rfl,hk3⟩
  rw [HFM.out]
  have hfd:∀ w:World,(Instr.field 28 (.agg #[.int .i64 1, .int .i64 (-1)]) 0).run Tryz.prog w=.ok (.int .i64 1) w:=fun _=>by kernel_rfl
  go_wp2_with fail
  go_ret
  exact ⟨rfl,(HK1.out.trans hk2).trans hk3⟩
 have HFIT:=Hz hfit
 go_wp2_with fail
 refine (start_yes n o _ hfit).mono ?_
 rintro e w2 ⟨h,rfl,B2,k2,o2⟩
 have HM:=Hz (show BM w w2 h.p h (Wo.new n o) (Wd.new n o) from ⟨B2,rfl,HK1.out.trans k2,fun b hb=>Nat.le_trans HK1.out.size (o2 b hb)⟩)
 clear hfit B2 k2 o2 HK1
 generalize h.p=p at *
 have HI:=Hz (show SInv w w2 p 0 n o from ⟨h,_,_,HM.out,by simp [Wd.new],_,_,Rep.new HFIT.out,Wd.new_strong n o,rfl,rfl⟩)
 have hof:0≤o∧o≤1024:=by have:=HFIT.out;simp [Ar.fits] at this;omega
 clear HM HFIT
 go_wp2_with fail
 refine wp_loop_over (fun i=>Nat.blt 32 i && Nat.blt i 124 || Nat.blt 8 i && Nat.blt i 15) (fun s wr=>∃ k:Nat,k≤m∧s 9=.int .i64 k∧SInv w wr p k n o) (fun s _=>m-(intOf (s 9)).toNat) ?_ ?_
 ·exact ⟨0,Nat.zero_le _,rfl,HI.out⟩
 ·intro u0 wr hrel K hK
  clear HI
  obtain ⟨k,hk,e9,hI⟩:=hrel
  have e9:u0 9=.int .i64 k:=e9
  have HI:=Hz hI
  clear hI
  simp only [overA,overL,List.toList_toArray,Nat.blt,Nat.beq,Nat.ble,Nat.reduceAdd,Bool.or_false,Bool.false_or,Bool.or_true,Bool.true_or,Bool.and_true,Bool.true_and,Bool.and_false,Bool.false_and,cond_true,cond_false]
  rw [e9]
  have E9:=Hz e9;clear e9
  by_cases hlt:k<m
  ·obtain ⟨h1,O1,W1,M1,hT1,G1,φ1,R1,hs1,hm1,hg1⟩:=HI.out
   have hrd:=H0.out.keep M1.K (fun _ _ _ h=>h)
   obtain ⟨gs,os,rfl,hgl,d0⟩:=hrd.nth (k*4) (by rw [HX.out];omega)
   obtain ⟨_,_,e',-,d1⟩:=hrd.nth (k*4+1) (by rw [HX.out];omega)
   cases e'
   obtain ⟨_,_,e',-,d2⟩:=hrd.nth (k*4+2) (by rw [HX.out];omega)
   cases e'
   obtain ⟨_,_,e',-,d3⟩:=hrd.nth (k*4+3) (by rw [HX.out];omega)
   cases e'
   rw [←Nat.add_assoc] at d1 d2 d3
   have hy:∀ j,j<4→R64 (xs.getD (k*4+j) 0):=fun j hj=>HBD.out _ (by rw [List.getD_eq_getElem?_getD,List.getElem?_eq_getElem (by rw [HX.out];omega)];exact List.getElem_mem _)
   have HY1:=Hz (hy 1 (by decide));have HY2:=Hz (hy 2 (by decide))
   generalize xs.getD (k*4) 0=d at *
   generalize xs.getD (k*4+1) 0=x at *
   generalize xs.getD (k*4+2) 0=y at *
   generalize xs.getD (k*4+3) 0=z at *
   have M:=Hz M1;have R:=Hz R1;have HT:=Hz hT1;have ST:=Hz hs1;have HMO:=Hz hm1;have HGO:=Hz hg1
   clear hrd hy HI M1 R1 hT1 hs1 hm1 hg1
   go_upto_region 12 with (refine wpList_agg rfl 31 (.tmp 41) rfl [.int .i64 d, .int .i64 x, .int .i64 y, .int .i64 z] (by kernel_rfl) gs (os+k*4) rfl (rangeAt_cons d0 (rangeAt_cons d1 (rangeAt_cons d2 (rangeAt_cons d3 rangeAt_nil)))) ?_)
   have hbk:=Blk.newAt (w:=wr) (b:=wr.heap.size) (T:=31) #[.int .i64 d, .int .i64 x, .int .i64 y, .int .i64 z] rfl rfl
   have hka:=(Kz wr).alloc (.cells #[.int .i64 d, .int .i64 x, .int .i64 y, .int .i64 z] 31)
   have hMb:=M.out.same hka
   clear d0 d1 d2 d3 hgl M
   generalize wr.alloc (.cells #[.int .i64 d, .int .i64 x, .int .i64 y, .int .i64 z] 31)=wb at *
   generalize wr.heap.size=be at *
   have HB:=Hz hbk;have M:=Hz hMb
   clear hbk hka hMb
   have b0:=HB.out.cell 0;have b1:=HB.out.cell 1;have b2:=HB.out.cell 2;have b3:=HB.out.cell 3;have bl:=HB.out.lt
   simp only [List.getElem?_cons_zero,List.getElem?_cons_succ] at b0 b1 b2 b3
   obtain ⟨c0,c1,pl⟩:=M.out.pc
   by_cases hskip:d=0∧x≠1∧x≠2
   ·obtain ⟨rfl,hx1,hx2⟩:=hskip
    have hd1:(x == 1)=false:=by simpa using hx1
    have hd2:(x == 2)=false:=by simpa using hx2
    have HIK:=Hz (show SInv w wb p (k+1) n o from ⟨h1,_,_,M.out,by have:=HT.out;omega,_,_,R.out,ST.out,HMO.out,HGO.out⟩)
    clear hx1 hx2
    go_wp2_with fail
    refine ⟨⟨by kernel_rfl,?rel⟩,?measure⟩
    case rel=>exact ⟨k+1,hlt,by go_num,HIK.out⟩
    case measure=>exact meas_lt (by go_num) (by first | rfl | exact E9.out) hlt
   by_cases h6:d<6
   ·have hst:d=0→x=1∨x=2:=fun h=>by
     by_cases h1:x=1
     ·exact .inl h1
     ·by_cases h2:x=2
      ·exact .inr h2
      ·exact (hskip ⟨h,h1,h2⟩).elim
    have hdo:=M.out.do_c d x y z (by have:=HT.out;omega) HY1.out HY2.out
    have HDO:=Hz hdo
    have hcs:=R.out.cs d x y (rootN_lt x) (rootN_lt z)
    have hss:=ST.out.cs R.out.hw (b:=y) hst (rootN_lt x) (rootN_lt z)
    have hdm:=wdC_dims G1 d x y (rootN_lt x) (rootN_lt z)
    have hln:=wdC_len W1 d x y (rootN_lt x) (rootN_lt z)
    have HNX:=Hz (show ∀ w' h',BM w w' p h' (woC O1 d x y (rootN x) (rootN z)).2 (wdC W1 d x y (rootN x) (rootN z)).2→SInv w w' p (k+1) n o from fun w' h' M'=>by
     obtain ⟨-,ψ,R'⟩:=hcs
     exact ⟨h',_,_,M',by have:=HT.out;omega,_,ψ,R',hss,hdm.1.trans HMO.out,hdm.2.trans HGO.out⟩)
    clear hdo hcs hss hdm hln
    have key:d≠0∨(d=0∧x=1)∨(d=0∧x=2):=by
     by_cases h:d=0
     ·rcases hst h with h1 | h1
      ·exact .inr (.inl ⟨h,h1⟩)
      ·exact .inr (.inr ⟨h,h1⟩)
     ·exact .inl h
    clear hst hskip
    rcases key with hk0 | ⟨rfl,rfl⟩ | ⟨rfl,rfl⟩
    ·have hd0:(d == 0)=false:=by simpa using hk0
     have hdn:(d != 0)=true:=by simpa using hk0
     clear hk0
     go_wp2_with (refine wpList_agg rfl 31 (.tmp 10) rfl [.int .i64 d, .int .i64 x, .int .i64 y, .int .i64 z] (by kernel_rfl) be 0 rfl (rangeAt_cons b0 (rangeAt_cons b1 (rangeAt_cons b2 (rangeAt_cons b3 rangeAt_nil)))) ?_)
     refine HDO.out.mono ?_
     rintro e w2 ⟨rfl,ht⟩
     obtain ⟨h2,M2⟩:=M.out.to ht
     have HIK:=Hz (HNX.out _ _ M2)
     clear ht M2 c0 c1 pl b0 b1 b2 b3 bl HDO HNX
     go_wp2_with fail
     refine ⟨⟨by kernel_rfl,?rel⟩,?measure⟩
     case rel=>exact ⟨k+1,hlt,by go_num,HIK.out⟩
     case measure=>exact meas_lt (by go_num) (by first | rfl | exact E9.out) hlt
    ·clear h6
     go_wp2_with (refine wpList_agg rfl 31 (.tmp 10) rfl [.int .i64 0, .int .i64 1, .int .i64 y, .int .i64 z] (by kernel_rfl) be 0 rfl (rangeAt_cons b0 (rangeAt_cons b1 (rangeAt_cons b2 (rangeAt_cons b3 rangeAt_nil)))) ?_)
     refine HDO.out.mono ?_
     rintro e w2 ⟨rfl,ht⟩
     obtain ⟨h2,M2⟩:=M.out.to ht
     have HIK:=Hz (HNX.out _ _ M2)
     clear ht M2 c0 c1 pl b0 b1 b2 b3 bl HDO HNX
     go_wp2_with fail
     refine ⟨⟨by kernel_rfl,?rel⟩,?measure⟩
     case rel=>exact ⟨k+1,hlt,by go_num,HIK.out⟩
     case measure=>exact meas_lt (by go_num) (by first | rfl | exact E9.out) hlt
    ·clear h6
     go_wp2_with (refine wpList_agg rfl 31 (.tmp 10) rfl [.int .i64 0, .int .i64 2, .int .i64 y, .int .i64 z] (by kernel_rfl) be 0 rfl (rangeAt_cons b0 (rangeAt_cons b1 (rangeAt_cons b2 (rangeAt_cons b3 rangeAt_nil)))) ?_)
     refine HDO.out.mono ?_
     rintro e w2 ⟨rfl,ht⟩
     obtain ⟨h2,M2⟩:=M.out.to ht
     have HIK:=Hz (HNX.out _ _ M2)
     clear ht M2 c0 c1 pl b0 b1 b2 b3 bl HDO HNX
     go_wp2_with fail
     refine ⟨⟨by kernel_rfl,?rel⟩,?measure⟩
     case rel=>exact ⟨k+1,hlt,by go_num,HIK.out⟩
     case measure=>exact meas_lt (by go_num) (by first | rfl | exact E9.out) hlt
   ·have hd6:decide (d<6)=false:=by simpa using h6
    clear hskip b1 b2 b3
    by_cases h7:d=6
    ·subst h7
     have q0:=M.out.B.H.ptrs.1;have ql:=M.out.B.H.hp.lt
     clear h6
     go_wp2_with fail
     refine (minorCut_c R.out M.out.B.H).mono ?_
     rintro e w5 ⟨rfl,ht⟩
     obtain ⟨h5,M5'⟩:=M.out.wood ht
     obtain ⟨-,ψ,R5'⟩:=R.out.strongMinor ST.out
     have hdm:=Wd.cut_dims G1 false
     have HIK:=Hz (show SInv w w5 p (k+1) n o from ⟨h5,_,_,M5',by have:=HT.out;omega,_,ψ,R5',ST.out.cut R.out.hw false,hdm.1.trans HMO.out,hdm.2.trans HGO.out⟩)
     clear ht M5' R5' hdm b0 bl c0 c1 pl q0 ql
     go_wp2_with fail
     refine ⟨⟨by kernel_rfl,?rel⟩,?measure⟩
     case rel=>exact ⟨k+1,hlt,by go_num,HIK.out⟩
     case measure=>exact meas_lt (by go_num) (by first | rfl | exact E9.out) hlt
    have hd7:(d == 6)=false:=by simpa using h7
    have q0:=M.out.B.H.ptrs.1;have ql:=M.out.B.H.hp.lt
    clear h6 h7
    go_wp2_with fail
    refine (View_c _ M.out.B.H).mono ?_
    rintro e wv ⟨v,rfl,hv,hkv⟩
    have M2:=M.out.same hkv
    obtain ⟨ro,rc,no,nc,F,rfl,hva,hvb,hvc⟩:=hv
    have HVR:=Hz (show ViewV wv wb.heap.size _ O1.view from ⟨ro,rc,no,nc,F,rfl,hva,hvb,hvc⟩)
    have MV:=Hz M2
    have OL:=Hz (fun b hb=>M.out.B.own_lt (k:=b) hb);have HSZ:=Hz hkv.size
    clear hva hvb hvc M2 hkv b0 bl c0 c1 pl q0 ql
    generalize hvl1:O1.view.1.length=vl1 at *
    generalize hvl2:O1.view.2.length=vl2 at *
    obtain ⟨c0,c1,pl⟩:=MV.out.pc
    have q0:=MV.out.B.H.ptrs.1;have ql:=MV.out.B.H.hp.lt
    go_upto_region 18 with (fail)
    have hka:=(Kz wv).alloc (.cells #[.slice ro vl1 rc, .slice no vl2 nc] 41)
    have hvb:Blk (wv.alloc (.cells #[.slice ro vl1 rc, .slice no vl2 nc] 41)) wv.heap.size [.slice ro vl1 rc, .slice no vl2 nc] 41:=Blk.newAt _ rfl rfl
    have M4:=Hz (MV.out.same hka);have HV4:=Hz (HVR.out.keep hka (fun _ _ _ h=>h));have VB4:=Hz hvb
    clear hka hvb c0 c1 pl q0 ql HVR
    generalize wv.alloc (.cells #[.slice ro vl1 rc, .slice no vl2 nc] 41)=w4 at *
    have HSZ':=HSZ.out
    generalize wv.heap.size=vb at *
    clear MV
    obtain ⟨c0,c1,pl⟩:=M4.out.pc
    go_wp2_with fail
    refine (majorCut_c R.out M4.out.B.H).mono ?_
    rintro e w5 ⟨rfl,ht⟩
    obtain ⟨h5,M5'⟩:=M4.out.wood ht
    obtain ⟨-,-,-,kt,-⟩:=ht
    have hno:∀ j,wb.heap.size≤j→¬ h1.a.Own j:=fun j hj hn=>by have:=OL.out j (.inr (.inl hn));omega
    have HV5:=Hz (HV4.out.keep kt (fun j hj _=>hno j hj));have VB5:=Hz (kt.blk VB4.out (hno vb HSZ'))
    obtain ⟨SC,ψ,R5'⟩:=R.out.strongMajor ST.out
    rw [HGO.out] at SC
    have hdm:=Wd.cut_dims G1 true
    have HNX:=Hz (show ∀ w' h',BM w w' p h' (jCut O1).2 W1→SInv w w' p (k+1) n o from fun w' h' M'=>⟨h',_,_,M',by have:=HT.out;omega,_,ψ,R5',ST.out.cut R.out.hw true,hdm.1.trans HMO.out,hdm.2.trans HGO.out⟩)
    have hvw:=fun w' h' (M':BM w w' p h' (jCut O1).2 W1)=>View_c w' M'.B.H
    rw [SC.view] at hvw
    obtain ⟨⟨c,P⟩,hP⟩:∃ t,jCut O1=t:=⟨_,rfl⟩
    rw [hP] at M5' SC HNX hvw ⊢
    dsimp only at M5' SC HNX hvw ⊢
    have M6:=Hz M5';have SC:=Hz SC;have HVW:=Hz hvw
    have HV6:=Hz HV5.out;have VB6:=Hz VB5.out
    clear hP hdm hvw M5' R5' kt hno M4 HV4 VB4 HV5 VB5 c0 c1 pl
    have okP:=M6.out.B.H.ok.ha
    obtain ⟨c0,c1,pl⟩:=M6.out.pc
    have v0:=VB6.out.cell 0;have v1:=VB6.out.cell 1;have vl:=VB6.out.lt
    simp only [List.getElem?_cons_zero,List.getElem?_cons_succ] at v0 v1
    obtain ⟨sz,hszv⟩:∃ z,sizeN O1.view.2=z:=⟨_,rfl⟩
    have HSV:=Hz hszv
    obtain ⟨pu,hpu⟩:∃ u,((P.ar.grn-P.ar.nur:Nat):Int)=u:=⟨_,rfl⟩
    have HPU:=Hz hpu
    clear okP hszv hpu
    rcases SC.out.code with rfl | rfl
    ·have y2:¬ sz > o:=fun h=>absurd (SC.out.full.2 (by rw [HSV.out];exact h)) (by decide)
     have y3:pu=sz:=by have:=SC.out.used rfl;rw [HSV.out,HPU.out] at this;exact this
     have g1:decide (o<sz)=false:=by simp;omega
     subst y3
     clear y2
     go_wp2_with fail
     refine wp_region_ro (.free 1 (.free 2 (.free 3 (.pure 0 (.pure 4 (.run 5 (.run 6 (.swi [12,14,15,16,17,18,19,20,21,22,23,24] (.free 7 (.free 8 (.free 9 (.free 10 (.free 13 (.pure 11 (.run 12 (.swi [] (.free 14 (.free 15 (.free 16 (.free 17 (.free 18 (.free 19 (.free 20 (.free 21 (.free 22 (.free 23 (.free 24 (.fin)))))))))))))))))))))))))))) [6,7,8,9,10,11,12,13,14,15,16,17,18,19,20,21,22,23,24] (fun w'=>w'.cell? ⟨p,0,none⟩=some (.pointer (some ⟨h5.a.p,0,none⟩))∧w'.cell? ⟨vb,0,none⟩=some (.slice ro vl1 rc)∧w'.cell? ⟨vb,1,none⟩=some (.slice no vl2 nc)) (by kernel_rfl) (by kernel_rfl) ⟨c0,v0,v1⟩ ?_
     iterate 5 first | (refine wpRO_free rfl rfl _ (fun w'=>by go_simp;exact Gives.mk _ _) (fun K hK=>?_);go_simp;refine hK _ ?_;clear hK K) | (refine wpRO_skipF rfl rfl (fun K hK=>?_);go_simp;refine hK _ ?_;clear hK K) | (refine wpRO_pure rfl rfl _ (fun w' hG=>by obtain ⟨c0,v0,v1⟩:=hG;exact gives_agg2 rfl (by decide +kernel) rfl (by assumption) (by assumption)) (fun K hK=>?_);go_simp;refine hK _ ?_;clear hK K) | (refine wpRO_pure rfl rfl _ (fun w' hG=>by obtain ⟨c0,v0,v1⟩:=hG;go_simp;exact Gives.mk _ _) (fun K hK=>?_);go_simp;refine hK _ ?_;clear hK K) | (refine wpRO_skip rfl rfl (fun K hK=>?_);go_simp;refine hK _ ?_;clear hK K)
     refine wpRO_run rfl rfl (fun K hK=>?_);unfold gRun;go_simp
     refine (HVW.out _ _ (M6.out.same ((Kz w5).drew))).mono ?_
     rintro e w7 ⟨v7,rfl,hv7,hk7⟩
     have kk:Keeps (fun _=>False) w5 w7:=(Kz w5).drew.trans hk7
     have M7:=Hz (M6.out.same kk);have HV7:=Hz (HV6.out.keep kk (fun _ _ _ h=>h));have VB7:=Hz (kk.blk VB6.out (fun h=>h));have HN7:=Hz (hv7.rep R.out)
     refine hK _ _ (fun _=>⟨M7.out.pc.1,VB7.out.cell 0,VB7.out.cell 1⟩) ?_
     clear hK K hv7 hk7 kk c0 c1 pl v0 v1 vl M6 HV6 VB6
     refine wpRO_chg rfl rfl rfl (fun K hK=>?_);unfold gRun;go_simp
     refine (SameView_yes _ _ O1.view _ (HV7.out.rep R.out) HN7.out).mono ?_
     rintro e w8 ⟨rfl,hk8⟩
     have M8:=Hz (M7.out.same hk8);have HV8:=Hz (HV7.out.keep hk8 (fun _ _ _ h=>h));have VB8:=Hz (hk8.blk VB7.out (fun h=>h))
     refine hK _ _ ?_
     clear hK K hk8 M7 HV7 VB7 HN7
     refine wpRO_swi (fun w'=>w'.cell? ⟨vb,0,none⟩=some (.slice ro vl1 rc)∧w'.cell? ⟨vb,1,none⟩=some (.slice no vl2 nc)) ⟨VB8.out.cell 0,VB8.out.cell 1⟩ ?_
     have vl:=VB8.out.lt
     iterate 6 first | (refine wpRO_free rfl rfl _ (fun w'=>by go_simp;exact Gives.mk _ _) (fun K hK=>?_);go_simp;refine hK _ ?_;clear hK K) | (refine wpRO_skipF rfl rfl (fun K hK=>?_);go_simp;refine hK _ ?_;clear hK K) | (refine wpRO_pure rfl rfl _ (fun w' hG=>by obtain ⟨v0,v1⟩:=hG;exact gives_agg2 rfl (by decide +kernel) rfl (by assumption) (by assumption)) (fun K hK=>?_);go_simp;refine hK _ ?_;clear hK K) | (refine wpRO_pure rfl rfl _ (fun w' hG=>by obtain ⟨v0,v1⟩:=hG;go_simp;exact Gives.mk _ _) (fun K hK=>?_);go_simp;refine hK _ ?_;clear hK K) | (refine wpRO_skip rfl rfl (fun K hK=>?_);go_simp;refine hK _ ?_;clear hK K)
     refine wpRO_chg rfl rfl rfl (fun K hK=>?_);unfold gRun;go_simp
     refine (Size_c _ O1.view w8 (HV8.out.rep R.out)).mono ?_
     rintro e w9 ⟨rfl,hk9⟩
     rw [HSV.out]
     have M9:=Hz (M8.out.same hk9);have HV9:=Hz (HV8.out.keep hk9 (fun _ _ _ h=>h));have VB9:=Hz (hk9.blk VB8.out (fun h=>h))
     refine hK _ _ ?_
     clear hK K hk9 M8 HV8 VB8 vl
     refine wpRO_swi (fun _=>True) trivial ?_
     iterate 11 first | (refine wpRO_free rfl rfl _ (fun w'=>by go_simp;exact Gives.mk _ _) (fun K hK=>?_);go_simp;refine hK _ ?_;clear hK K) | (refine wpRO_skipF rfl rfl (fun K hK=>?_);go_simp;refine hK _ ?_;clear hK K)
     refine wpRO_fin ?_
     obtain ⟨c0,c1,pl⟩:=M9.out.pc
     have q0:=M9.out.B.H.ptrs.1;have ql:=M9.out.B.H.hp.lt
     go_wp2_with fail
     refine (Used_c _ M9.out.B.H.ha).mono ?_
     rintro e w10 ⟨rfl,hk10⟩
     have M9:=Hz (M9.out.same hk10);have HV9:=Hz (HV9.out.keep hk10 (fun _ _ _ h=>h));have VB9:=Hz (hk10.blk VB9.out (fun h=>h))
     rw [HPU.out]
     clear hk10 c0 c1 pl q0 ql
     have v0:=VB9.out.cell 0;have v1:=VB9.out.cell 1;have vl:=VB9.out.lt
     simp only [List.getElem?_cons_zero,List.getElem?_cons_succ] at v0 v1
     go_wp2_with (refine wpList_agg2g (by kernel_rfl) 41 (.tmp 11) rfl (by kernel_rfl) vb 0 rfl _ _ v0 v1 ?_)
     refine (Size_c _ O1.view _ (HV9.out.rep R.out)).mono ?_
     rintro e w10 ⟨rfl,hk10⟩
     rw [HSV.out]
     have HIK:=Hz (HNX.out _ _ (M9.out.same hk10))
     have ee:(pu != pu)=false:=by simp
     clear hk10 v0 v1 vl
     go_wp2_with fail
     refine ⟨⟨by kernel_rfl,?rel⟩,?measure⟩
     case rel=>exact ⟨k+1,hlt,by go_num,HIK.out⟩
     case measure=>exact meas_lt (by go_num) (by first | rfl | exact E9.out) hlt
    ·have y2:sz > o:=by have:=SC.out.full.1 rfl;rw [HSV.out] at this;exact this
     have g1:decide (o<sz)=true:=by simp;omega
     clear y2
     go_wp2_with fail
     refine wp_region_ro (.free 1 (.free 2 (.free 3 (.pure 0 (.pure 4 (.run 5 (.run 6 (.swi [12,14,15,16,17,18,19,20,21,22,23,24] (.free 7 (.free 8 (.free 9 (.free 10 (.free 13 (.pure 11 (.run 12 (.swi [] (.free 14 (.free 15 (.free 16 (.free 17 (.free 18 (.free 19 (.free 20 (.free 21 (.free 22 (.free 23 (.free 24 (.fin)))))))))))))))))))))))))))) [6,7,8,9,10,11,12,13,14,15,16,17,18,19,20,21,22,23,24] (fun w'=>w'.cell? ⟨p,0,none⟩=some (.pointer (some ⟨h5.a.p,0,none⟩))∧w'.cell? ⟨vb,0,none⟩=some (.slice ro vl1 rc)∧w'.cell? ⟨vb,1,none⟩=some (.slice no vl2 nc)) (by kernel_rfl) (by kernel_rfl) ⟨c0,v0,v1⟩ ?_
     iterate 5 first | (refine wpRO_free rfl rfl _ (fun w'=>by go_simp;exact Gives.mk _ _) (fun K hK=>?_);go_simp;refine hK _ ?_;clear hK K) | (refine wpRO_skipF rfl rfl (fun K hK=>?_);go_simp;refine hK _ ?_;clear hK K) | (refine wpRO_pure rfl rfl _ (fun w' hG=>by obtain ⟨c0,v0,v1⟩:=hG;exact gives_agg2 rfl (by decide +kernel) rfl (by assumption) (by assumption)) (fun K hK=>?_);go_simp;refine hK _ ?_;clear hK K) | (refine wpRO_pure rfl rfl _ (fun w' hG=>by obtain ⟨c0,v0,v1⟩:=hG;go_simp;exact Gives.mk _ _) (fun K hK=>?_);go_simp;refine hK _ ?_;clear hK K) | (refine wpRO_skip rfl rfl (fun K hK=>?_);go_simp;refine hK _ ?_;clear hK K)
     refine wpRO_run rfl rfl (fun K hK=>?_);unfold gRun;go_simp
     refine (HVW.out _ _ (M6.out.same ((Kz w5).drew))).mono ?_
     rintro e w7 ⟨v7,rfl,hv7,hk7⟩
     have kk:Keeps (fun _=>False) w5 w7:=(Kz w5).drew.trans hk7
     have M7:=Hz (M6.out.same kk);have HV7:=Hz (HV6.out.keep kk (fun _ _ _ h=>h));have VB7:=Hz (kk.blk VB6.out (fun h=>h));have HN7:=Hz (hv7.rep R.out)
     refine hK _ _ (fun _=>⟨M7.out.pc.1,VB7.out.cell 0,VB7.out.cell 1⟩) ?_
     clear hK K hv7 hk7 kk c0 c1 pl v0 v1 vl M6 HV6 VB6
     refine wpRO_chg rfl rfl rfl (fun K hK=>?_);unfold gRun;go_simp
     refine (SameView_yes _ _ O1.view _ (HV7.out.rep R.out) HN7.out).mono ?_
     rintro e w8 ⟨rfl,hk8⟩
     have M8:=Hz (M7.out.same hk8);have HV8:=Hz (HV7.out.keep hk8 (fun _ _ _ h=>h));have VB8:=Hz (hk8.blk VB7.out (fun h=>h))
     refine hK _ _ ?_
     clear hK K hk8 M7 HV7 VB7 HN7
     refine wpRO_swi (fun w'=>w'.cell? ⟨vb,0,none⟩=some (.slice ro vl1 rc)∧w'.cell? ⟨vb,1,none⟩=some (.slice no vl2 nc)) ⟨VB8.out.cell 0,VB8.out.cell 1⟩ ?_
     have vl:=VB8.out.lt
     iterate 6 first | (refine wpRO_free rfl rfl _ (fun w'=>by go_simp;exact Gives.mk _ _) (fun K hK=>?_);go_simp;refine hK _ ?_;clear hK K) | (refine wpRO_skipF rfl rfl (fun K hK=>?_);go_simp;refine hK _ ?_;clear hK K) | (refine wpRO_pure rfl rfl _ (fun w' hG=>by obtain ⟨v0,v1⟩:=hG;exact gives_agg2 rfl (by decide +kernel) rfl (by assumption) (by assumption)) (fun K hK=>?_);go_simp;refine hK _ ?_;clear hK K) | (refine wpRO_pure rfl rfl _ (fun w' hG=>by obtain ⟨v0,v1⟩:=hG;go_simp;exact Gives.mk _ _) (fun K hK=>?_);go_simp;refine hK _ ?_;clear hK K) | (refine wpRO_skip rfl rfl (fun K hK=>?_);go_simp;refine hK _ ?_;clear hK K)
     refine wpRO_chg rfl rfl rfl (fun K hK=>?_);unfold gRun;go_simp
     refine (Size_c _ O1.view w8 (HV8.out.rep R.out)).mono ?_
     rintro e w9 ⟨rfl,hk9⟩
     rw [HSV.out]
     have M9:=Hz (M8.out.same hk9);have HV9:=Hz (HV8.out.keep hk9 (fun _ _ _ h=>h));have VB9:=Hz (hk9.blk VB8.out (fun h=>h))
     refine hK _ _ ?_
     clear hK K hk9 M8 HV8 VB8 vl
     refine wpRO_swi (fun _=>True) trivial ?_
     iterate 11 first | (refine wpRO_free rfl rfl _ (fun w'=>by go_simp;exact Gives.mk _ _) (fun K hK=>?_);go_simp;refine hK _ ?_;clear hK K) | (refine wpRO_skipF rfl rfl (fun K hK=>?_);go_simp;refine hK _ ?_;clear hK K)
     refine wpRO_fin ?_
     obtain ⟨c0,c1,pl⟩:=M9.out.pc
     have q0:=M9.out.B.H.ptrs.1;have ql:=M9.out.B.H.hp.lt
     go_wp2_with fail
     refine (Used_c _ M9.out.B.H.ha).mono ?_
     rintro e w10 ⟨rfl,hk10⟩
     have M9:=Hz (M9.out.same hk10);have HV9:=Hz (HV9.out.keep hk10 (fun _ _ _ h=>h));have VB9:=Hz (hk10.blk VB9.out (fun h=>h))
     rw [HPU.out]
     clear hk10 c0 c1 pl q0 ql
     have v0:=VB9.out.cell 0;have v1:=VB9.out.cell 1;have vl:=VB9.out.lt
     simp only [List.getElem?_cons_zero,List.getElem?_cons_succ] at v0 v1
     have HIK:=Hz (HNX.out _ _ M9.out)
     clear v0 v1 vl
     go_wp2_with fail
     refine ⟨⟨by kernel_rfl,?rel⟩,?measure⟩
     case rel=>exact ⟨k+1,hlt,by go_num,HIK.out⟩
     case measure=>exact meas_lt (by go_num) (by first | rfl | exact E9.out) hlt
  ·obtain rfl:k=m:=by omega
   obtain ⟨h1,O1,W1,M1,-⟩:=HI.out
   have K1:=Hz M1.K
   clear HI M1
   go_wp2_with fail
   go_ret
   exact ⟨rfl,K1.out⟩
theorem MajorLeast_walk (n o:Int) (lo:Option Addr) (lc m:Nat) (xs:List Int) (w:World) (_:R64 n) (_:R64 o) (h0:Rd w lo (xs.map (Value.int .i64))) (hx:xs.length=m*4) (_:m≤maxLen) (hb:∀ x ∈ xs,R64 x) :
  Calls Tryz.prog 3 #[.int .i64 n, .int .i64 o, .slice lo m lc] w fun e w'=>e=.returned (.bool true)∧Below w.heap.size w w':=
 (MajorLeast_raw n o lo lc m xs w h0 hx hb).mono fun e w' ⟨h1,h2⟩=>⟨h1,h2.below (fun _ _ h=>h)⟩
end
end
section
open Go.RowKit
def AInv (w wr:World) (p k:Nat):Prop:=∃ h O W,BM w wr p h O W∧W.T.length≤k∧∃ W1 φ,Rep O W1 φ
theorem BM.wood2 {w0 w w':World} {p:Nat} {h:BH} {O O':Wo} {W:Wd} (M:BM w0 w p h O W) (t:WoodTo w h.a w' O') :
  ∃ h',BM w0 w' p h' O' W∧h'.a.p=h.a.p∧Keeps h.a.Own w w'∧∀ k,h'.a.Own k→h.a.Own k∨w.heap.size≤k:=by
 obtain ⟨a',H',e',k',o'⟩:=t
 refine ⟨⟨h.p,a',h.b⟩,⟨⟨?_,H',M.B.R.keep k' (fun b hb e=>M.B.apart b ⟨e,hb⟩)⟩,M.e,M.K.then k' (fun b hb=>.inr (M.own b (.inr (.inl hb)))),fun k hk=>?_⟩,e',k',o'⟩
 ·have:=k'.blk M.B.hp M.B.p_a
  rw [←e'] at this
  exact this
 ·rcases hk with hk | hk | hk
  ·exact M.own k (.inl hk)
  ·rcases o' k hk with h1 | h1
   ·exact M.own k (.inr (.inl h1))
   ·have:=M.K.size;omega
  ·exact M.own k (.inr (.inr hk))
def Bar (lo hi k:Nat):Prop:=¬ (lo≤k∧k<hi)
section
variable {w w':World}
theorem MajorAgain_raw (n o:Int) (lo:Option Addr) (lc m:Nat) (xs:List Int) (w:World) (h0:Rd w lo (xs.map (Value.int .i64))) (hx:xs.length=m*4) (hb:∀ x ∈ xs,R64 x) :
  Calls Tryz.prog 4 #[.int .i64 n, .int .i64 o, .slice lo m lc] w fun e w'=>e=.returned (.bool true)∧Keeps (fun _=>False) w w':=by
 have H0:=Hz h0;have HX:=Hz hx;have HBD:=Hz hb
 clear h0 hx hb
 go_enter Tryz.func4,Tryz.ntmps4
 go_wp2_with fail
 refine (majorBegun_c _).mono ?_
 rintro e w1 ⟨rfl,hk1⟩
 have HK1:=Hz hk1;clear hk1
 by_cases hm:250<m
 ·go_wp2_with fail
  go_ret
  exact ⟨rfl,HK1.out⟩
 cases hfit:Ar.fits n o
 ·have HFM:=Hz (show faultM n o=(1,-1) by unfold faultM;rw [hfit];rfl)
  go_wp2_with fail
  refine (start_no n o _ hfit).mono ?_
  rintro e w2 ⟨rfl,hk2⟩
  go_wp2_with fail
  refine (RoomFault_c n o _).mono ?_
  rintro e w3 ⟨rfl,hk3⟩
  rw [HFM.out]
  have hfd:∀ w:World,(Instr.field 28 (.agg #[.int .i64 1, .int .i64 (-1)]) 0).run Tryz.prog w=.ok (.int .i64 1) w:=fun _=>by kernel_rfl
  go_wp2_with fail
  go_ret
  exact ⟨rfl,(HK1.out.trans hk2).trans hk3⟩
 have HFIT:=Hz hfit
 go_wp2_with fail
 refine (start_yes n o _ hfit).mono ?_
 rintro e w2 ⟨h,rfl,B2,k2,o2⟩
 have HM:=Hz (show BM w w2 h.p h (Wo.new n o) (Wd.new n o) from ⟨B2,rfl,HK1.out.trans k2,fun b hb=>Nat.le_trans HK1.out.size (o2 b hb)⟩)
 clear hfit B2 k2 o2 HK1
 generalize h.p=p at *
 have HI:=Hz (show AInv w w2 p 0 from ⟨h,_,_,HM.out,by simp [Wd.new],_,_,Rep.new HFIT.out⟩)
 clear HM HFIT
 go_wp2_with fail
 refine wp_loop_over (fun i=>Nat.blt 35 i && Nat.blt i 70 || Nat.beq i 9) (fun s wr=>∃ k:Nat,k≤m∧s 9=.int .i64 k∧AInv w wr p k) (fun s _=>m-(intOf (s 9)).toNat) ?_ ?_
 ·exact ⟨0,Nat.zero_le _,rfl,HI.out⟩
 ·intro u0 wr hrel K hK
  clear HI
  obtain ⟨k,hk,e9,hI⟩:=hrel
  have e9:u0 9=.int .i64 k:=e9
  have HI:=Hz hI
  clear hI
  simp only [overA,overL,List.toList_toArray,Nat.blt,Nat.beq,Nat.ble,Nat.reduceAdd,Bool.or_false,Bool.false_or,Bool.or_true,Bool.true_or,Bool.and_true,Bool.true_and,Bool.and_false,Bool.false_and,cond_true,cond_false]
  rw [e9]
  have E9:=Hz e9;clear e9
  by_cases hlt:k<m
  ·obtain ⟨h1,O1,W1,M1,hT1,G1,φ1,R1⟩:=HI.out
   have hrd:=H0.out.keep M1.K (fun _ _ _ h=>h)
   obtain ⟨gs,os,rfl,hgl,d0⟩:=hrd.nth (k*4) (by rw [HX.out];omega)
   obtain ⟨_,_,e',-,d1⟩:=hrd.nth (k*4+1) (by rw [HX.out];omega)
   cases e'
   obtain ⟨_,_,e',-,d2⟩:=hrd.nth (k*4+2) (by rw [HX.out];omega)
   cases e'
   obtain ⟨_,_,e',-,d3⟩:=hrd.nth (k*4+3) (by rw [HX.out];omega)
   cases e'
   rw [←Nat.add_assoc] at d1 d2 d3
   have hy:∀ j,j<4→R64 (xs.getD (k*4+j) 0):=fun j hj=>HBD.out _ (by rw [List.getD_eq_getElem?_getD,List.getElem?_eq_getElem (by rw [HX.out];omega)];exact List.getElem_mem _)
   have HY1:=Hz (hy 1 (by decide));have HY2:=Hz (hy 2 (by decide))
   generalize xs.getD (k*4) 0=d at *
   generalize xs.getD (k*4+1) 0=x at *
   generalize xs.getD (k*4+2) 0=y at *
   generalize xs.getD (k*4+3) 0=z at *
   have M:=Hz M1;have R:=Hz R1;have HT:=Hz hT1
   clear hrd hy HI M1 R1 hT1
   by_cases h6:d<6
   ·have hd6:decide (d<6)=true:=by simpa using h6
    have HDO:=Hz (M.out.do_c d x y z (by have:=HT.out;omega) HY1.out HY2.out)
    have hcs:=R.out.cs d x y (rootN_lt x) (rootN_lt z)
    have hln:=wdC_len W1 d x y (rootN_lt x) (rootN_lt z)
    have HNX:=Hz (show ∀ w' h',BM w w' p h' (woC O1 d x y (rootN x) (rootN z)).2 (wdC W1 d x y (rootN x) (rootN z)).2→AInv w w' p (k+1) from fun w' h' M'=>by
     obtain ⟨-,ψ,R'⟩:=hcs
     exact ⟨h',_,_,M',by have:=HT.out;omega,_,ψ,R'⟩)
    clear hcs hln h6
    go_wp2_with (refine wpList_agg rfl 31 (.tmp 52) rfl [.int .i64 d, .int .i64 x, .int .i64 y, .int .i64 z] (by kernel_rfl) gs (os+k*4) rfl (rangeAt_cons d0 (rangeAt_cons d1 (rangeAt_cons d2 (rangeAt_cons d3 rangeAt_nil)))) ?_)
    refine HDO.out.mono ?_
    rintro e w2 ⟨rfl,ht⟩
    obtain ⟨h2,M2⟩:=M.out.to ht
    have HIK:=Hz (HNX.out _ _ M2)
    generalize decide ((woC O1 d x y (rootN x) (rootN z)).1=(wdC W1 d x y (rootN x) (rootN z)).1)=bb at *
    clear ht M2 d0 d1 d2 d3 hgl HDO HNX
    go_wp2_with fail
    refine ⟨⟨by kernel_rfl,?rel⟩,?measure⟩
    case rel=>exact ⟨k+1,hlt,by go_num,HIK.out⟩
    case measure=>exact meas_lt (by go_num) (by first | rfl | exact E9.out) hlt
   ·have hd6:decide (d<6)=false:=by simpa using h6
    obtain ⟨c0,c1,pl⟩:=M.out.pc
    have q0:=M.out.B.H.ptrs.1;have ql:=M.out.B.H.hp.lt
    by_cases h7:d=6
    ·subst h7
     clear h6
     go_wp2_with fail
     refine (minorCut_c R.out M.out.B.H).mono ?_
     rintro e w5 ⟨rfl,ht⟩
     obtain ⟨h5,M5'⟩:=M.out.wood ht
     obtain ⟨-,ψ,R5'⟩:=R.out.minor
     have HIK:=Hz (show AInv w w5 p (k+1) from ⟨h5,_,_,M5',by have:=HT.out;omega,_,ψ,R5'⟩)
     generalize (mCut O1).1=cc at *
     clear ht M5' R5' c0 c1 pl q0 ql
     go_wp2_with fail
     refine ⟨⟨by kernel_rfl,?rel⟩,?measure⟩
     case rel=>exact ⟨k+1,hlt,by go_num,HIK.out⟩
     case measure=>exact meas_lt (by go_num) (by first | rfl | exact E9.out) hlt
    have hd7:(d == 6)=false:=by simpa using h7
    clear h6 h7
    go_wp2_with fail
    refine (majorCut_c R.out M.out.B.H).mono ?_
    rintro e w5 ⟨rfl,ht⟩
    obtain ⟨h5,M5'⟩:=M.out.wood ht
    obtain ⟨-,ψ,R5'⟩:=R.out.major
    have HIK:=Hz (show AInv w w5 p (k+1) from ⟨h5,_,_,M5',by have:=HT.out;omega,_,ψ,R5'⟩)
    generalize (jCut O1).1=cc at *
    clear ht M5' R5' c0 c1 pl q0 ql
    go_wp2_with fail
    refine ⟨⟨by kernel_rfl,?rel⟩,?measure⟩
    case rel=>exact ⟨k+1,hlt,by go_num,HIK.out⟩
    case measure=>exact meas_lt (by go_num) (by first | rfl | exact E9.out) hlt
  ·obtain rfl:k=m:=by omega
   obtain ⟨h1,O1,W1,M1,hT1,G1,φ1,R1⟩:=HI.out
   have M:=Hz M1;have R:=Hz R1
   clear HI M1 R1 hT1
   obtain ⟨c0,c1,pl⟩:=M.out.pc
   have q0:=M.out.B.H.ptrs.1;have ql:=M.out.B.H.hp.lt
   go_wp2_with fail
   refine (majorCut_c R.out M.out.B.H).mono ?_
   rintro e w2 ⟨rfl,ht⟩
   obtain ⟨h2,M2'⟩:=M.out.wood ht
   have AGN:=fun h0=>R.out.again h0
   have hcc:=jCut_code O1
   obtain ⟨⟨c,P⟩,hP⟩:∃ t,jCut O1=t:=⟨_,rfl⟩
   rw [hP] at M2' AGN hcc ⊢
   dsimp only at M2' AGN hcc ⊢
   have M2:=Hz M2';have AGN:=Hz AGN
   clear hP M2' ht M R c0 c1 pl q0 ql
   rcases hcc with rfl | rfl
   rotate_left
   ·go_wp2_with fail
    go_ret
    exact ⟨rfl,M2.out.K⟩
   obtain ⟨AG',⟨ψ1,R2'⟩,⟨ψ2,R3'⟩,-⟩:=AGN.out rfl
   have R2:=Hz R2';have R3:=Hz R3'
   clear AGN R2' R3'
   obtain ⟨c0,c1,pl⟩:=M2.out.pc
   have q0:=M2.out.B.H.ptrs.1;have ql:=M2.out.B.H.hp.lt
   go_wp2_with fail
   refine (View_c _ M2.out.B.H).mono ?_
   rintro e wv ⟨v,rfl,hv,hkv⟩
   have M3':=M2.out.same hkv
   obtain ⟨ro,rc,no,nc,F,rfl,hva,hvb,hvc⟩:=hv
   have HVR:=Hz (show ViewV wv w2.heap.size _ P.view from ⟨ro,rc,no,nc,F,rfl,hva,hvb,hvc⟩)
   have MV:=Hz M3'
   have OL:=Hz (fun b hb=>M2.out.B.own_lt (k:=b) hb);have HSZ:=Hz hkv.size
   clear hva hvb hvc M3' hkv c0 c1 pl q0 ql
   have HPU:=Hz (show ∃ u:Int,((P.ar.grn-P.ar.nur:Nat):Int)=u from ⟨_,rfl⟩)
   obtain ⟨u,hu⟩:=HPU.out
   have HP:=Hz hu
   have HQ:=Hz (show (((mCut P).2.ar.grn-(mCut P).2.ar.nur:Nat):Int)=u by rw [AG'.u2];exact hu)
   have HS:=Hz (show (((jCut (mCut P).2).2.ar.grn-(jCut (mCut P).2).2.ar.nur:Nat):Int)=u by rw [AG'.u3];exact hu)
   obtain ⟨sz,hsz⟩:∃ z,sizeN P.view.2=z:=⟨_,rfl⟩
   have HSV:=Hz hsz
   have HGE:=Hz (show sz≤u by rw [←hsz,←hu];exact AG'.size)
   have hvq:=fun w' h' (M':BM w w' p h' (mCut P).2 W1)=>View_c w' M'.B.H
   have hvs:=fun w' h' (M':BM w w' p h' (jCut (mCut P).2).2 W1)=>View_c w' M'.B.H
   rw [AG'.v2] at hvq
   rw [AG'.v3] at hvs
   have HVQ:=Hz hvq;have HVS:=Hz hvs
   have E1:=Hz AG'.c1;have E2:=Hz AG'.c2
   clear hvq hvs hu hsz HPU AG'
   generalize hvl1:P.view.1.length=vl1 at *
   generalize hvl2:P.view.2.length=vl2 at *
   obtain ⟨c0,c1,pl⟩:=MV.out.pc
   have q0:=MV.out.B.H.ptrs.1;have ql:=MV.out.B.H.hp.lt
   go_upto_region 19 with (fail)
   have hka:=(Kz wv).alloc (.cells #[.slice ro vl1 rc, .slice no vl2 nc] 41)
   have hvb:Blk (wv.alloc (.cells #[.slice ro vl1 rc, .slice no vl2 nc] 41)) wv.heap.size [.slice ro vl1 rc, .slice no vl2 nc] 41:=Blk.newAt _ rfl rfl
   have M4:=Hz (MV.out.same hka);have HV4:=Hz (HVR.out.keep hka (fun _ _ _ h=>h));have VB4:=Hz hvb
   clear hka hvb c0 c1 pl q0 ql HVR
   generalize wv.alloc (.cells #[.slice ro vl1 rc, .slice no vl2 nc] 41)=w4 at *
   have HSZ':=Hz HSZ.out
   generalize wv.heap.size=vb at *
   have hbar:=VB4.out.lt
   have KB:=Hz (show ∀ wx,Keeps (Bar w2.heap.size w4.heap.size) w4 wx→ViewV wx w2.heap.size (.agg #[.slice ro vl1 rc, .slice no vl2 nc]) P.view∧Blk wx vb [.slice ro vl1 rc, .slice no vl2 nc] 41 from fun wx k=>by
    refine ⟨?_,k.blk VB4.out (fun h=>h ⟨HSZ'.out,hbar⟩)⟩
    have:=HV4.out.keep k (fun j h1 h2 h=>h ⟨h1,h2⟩)
    exact this)
   have hown2:∀ k,h2.a.Own k→Bar w2.heap.size w4.heap.size k:=fun k hk hh=>by have:=OL.out k (.inr (.inl hk));have:=hh.1;omega
   have OW2:=Hz hown2
   clear MV hbar hown2 VB4 HV4 HSZ HSZ' OL
   obtain ⟨c0,c1,pl⟩:=M4.out.pc
   have q0:=M4.out.B.H.ptrs.1;have ql:=M4.out.B.H.hp.lt
   go_wp2_with fail
   refine (Used_c _ M4.out.B.H.ha).mono ?_
   rintro e w5 ⟨rfl,hk5⟩
   have M5:=Hz (M4.out.same hk5);have KV5:=Hz (show Keeps (Bar w2.heap.size w4.heap.size) w4 w5 from hk5.self)
   rw [HP.out]
   clear c0 c1 pl q0 ql hk5 M4
   generalize (P.ar.yng:Int)=yy at *
   obtain ⟨c0,c1,pl⟩:=M5.out.pc
   have VB5:=Hz (KB.out _ KV5.out).2
   have v0:=VB5.out.cell 0;have v1:=VB5.out.cell 1;have vl:=VB5.out.lt
   simp only [List.getElem?_cons_zero,List.getElem?_cons_succ] at v0 v1
   clear VB5
   go_wp2_with fail
   refine wp_region_ro (.free 0 (.free 1 (.free 2 (.pure 3 (.run 4 (.swi [13,14,15] (.free 5 (.free 6 (.free 8 (.free 9 (.free 10 (.pure 7 (.pure 11 (.run 12 (.run 13 (.swi [] (.free 14 (.free 15 (.fin))))))))))))))))))) [4,5,6,7,8,9,10,11,12,13,14,15] (fun w'=>w'.cell? ⟨p,0,none⟩=some (.pointer (some ⟨h2.a.p,0,none⟩))∧w'.cell? ⟨vb,0,none⟩=some (.slice ro vl1 rc)∧w'.cell? ⟨vb,1,none⟩=some (.slice no vl2 nc)) (by kernel_rfl) (by kernel_rfl) ⟨c0,v0,v1⟩ ?_
   iterate 4 first | (refine wpRO_free rfl rfl _ (fun w'=>by go_simp;exact Gives.mk _ _) (fun K hK=>?_);go_simp;refine hK _ ?_;clear hK K) | (refine wpRO_skipF rfl rfl (fun K hK=>?_);go_simp;refine hK _ ?_;clear hK K) | (refine wpRO_pure rfl rfl _ (fun w' hG=>by obtain ⟨c0,v0,v1⟩:=hG;exact gives_agg2 rfl (by decide +kernel) rfl (by assumption) (by assumption)) (fun K hK=>?_);go_simp;refine hK _ ?_;clear hK K) | (refine wpRO_pure rfl rfl _ (fun w' hG=>by obtain ⟨c0,v0,v1⟩:=hG;go_simp;exact Gives.mk _ _) (fun K hK=>?_);go_simp;refine hK _ ?_;clear hK K) | (refine wpRO_skip rfl rfl (fun K hK=>?_);go_simp;refine hK _ ?_;clear hK K)
   refine wpRO_chg rfl rfl rfl (fun K hK=>?_);unfold gRun;go_simp
   have MD:=Hz (M5.out.same ((Kz w5).drew))
   refine (minorCut_c R2.out MD.out.B.H).mono ?_
   rintro e w6 ⟨rfl,ht⟩
   obtain ⟨h6,M6',e6,k6,o6⟩:=MD.out.wood2 ht
   have KV6:=Hz (show Keeps (Bar w2.heap.size w4.heap.size) w4 w6 from (KV5.out.drew).trans (k6.mono (fun k _ hk=>OW2.out k hk)))
   have OW6:=Hz (show ∀ k,h6.a.Own k→Bar w2.heap.size w4.heap.size k from fun k hk hh=>by
    rcases o6 k hk with h1 | h1
    ·exact OW2.out k h1 hh
    ·have:=KV5.out.size;have:=hh.2;have e:w5.drew.heap.size=w5.heap.size:=rfl;omega)
   have M6:=Hz M6'
   rw [E1.out]
   clear ht k6 o6 M6' e6 MD M5 KV5 OW2 E1 c0 c1 pl v0 v1 vl
   generalize (mCut P).2=Q at *
   refine hK _ _ ?_
   clear hK K
   refine wpRO_swi (fun w'=>w'.cell? ⟨p,0,none⟩=some (.pointer (some ⟨h6.a.p,0,none⟩))∧w'.cell? ⟨vb,0,none⟩=some (.slice ro vl1 rc)∧w'.cell? ⟨vb,1,none⟩=some (.slice no vl2 nc)) ⟨M6.out.pc.1,(KB.out _ KV6.out).2.cell 0,(KB.out _ KV6.out).2.cell 1⟩ ?_
   iterate 7 first | (refine wpRO_free rfl rfl _ (fun w'=>by go_simp;exact Gives.mk _ _) (fun K hK=>?_);go_simp;refine hK _ ?_;clear hK K) | (refine wpRO_skipF rfl rfl (fun K hK=>?_);go_simp;refine hK _ ?_;clear hK K) | (refine wpRO_pure rfl rfl _ (fun w' hG=>by obtain ⟨c0,v0,v1⟩:=hG;exact gives_agg2 rfl (by decide +kernel) rfl (by assumption) (by assumption)) (fun K hK=>?_);go_simp;refine hK _ ?_;clear hK K) | (refine wpRO_pure rfl rfl _ (fun w' hG=>by obtain ⟨c0,v0,v1⟩:=hG;go_simp;exact Gives.mk _ _) (fun K hK=>?_);go_simp;refine hK _ ?_;clear hK K) | (refine wpRO_skip rfl rfl (fun K hK=>?_);go_simp;refine hK _ ?_;clear hK K)
   refine wpRO_run rfl rfl (fun K hK=>?_);unfold gRun;go_simp
   refine (HVQ.out _ _ M6.out).mono ?_
   rintro e w7 ⟨v7,rfl,hv7,hk7⟩
   have M7:=Hz (M6.out.same hk7);have KV7:=Hz (show Keeps (Bar w2.heap.size w4.heap.size) w4 w7 from KV6.out.trans hk7.self);have HN7:=Hz (hv7.rep R2.out)
   refine hK _ _ (fun _=>⟨M7.out.pc.1,(KB.out _ KV7.out).2.cell 0,(KB.out _ KV7.out).2.cell 1⟩) ?_
   clear hK K hv7 hk7 M6 KV6
   refine wpRO_chg rfl rfl rfl (fun K hK=>?_);unfold gRun;go_simp
   refine (SameView_yes _ _ P.view _ ((KB.out _ KV7.out).1.rep R2.out) HN7.out).mono ?_
   rintro e w8 ⟨rfl,hk8⟩
   have M8:=Hz (M7.out.same hk8);have KV8:=Hz (show Keeps (Bar w2.heap.size w4.heap.size) w4 w8 from KV7.out.trans hk8.self)
   refine hK _ _ ?_
   clear hK K hk8 M7 KV7 HN7 HVQ
   refine wpRO_swi (fun _=>True) trivial ?_
   iterate 2 first | (refine wpRO_free rfl rfl _ (fun w'=>by go_simp;exact Gives.mk _ _) (fun K hK=>?_);go_simp;refine hK _ ?_;clear hK K) | (refine wpRO_skipF rfl rfl (fun K hK=>?_);go_simp;refine hK _ ?_;clear hK K)
   refine wpRO_fin ?_
   obtain ⟨c0,c1,pl⟩:=M8.out.pc
   have q0:=M8.out.B.H.ptrs.1;have ql:=M8.out.B.H.hp.lt
   go_wp2_with fail
   refine (Used_c _ M8.out.B.H.ha).mono ?_
   rintro e w9 ⟨rfl,hk9⟩
   have M9:=Hz (M8.out.same hk9);have KV9:=Hz (show Keeps (Bar w2.heap.size w4.heap.size) w4 w9 from KV8.out.trans hk9.self)
   rw [HQ.out]
   clear c0 c1 pl q0 ql hk9 M8 KV8
   generalize (Q.ar.yng:Int)=yq at *
   obtain ⟨c0,c1,pl⟩:=M9.out.pc
   have q0:=M9.out.B.H.ptrs.1;have ql:=M9.out.B.H.hp.lt
   go_wp2_with fail
   refine (majorCut_c R3.out M9.out.B.H).mono ?_
   rintro e w10 ⟨rfl,ht⟩
   obtain ⟨h10,M10',e10,k10,o10⟩:=M9.out.wood2 ht
   have M10:=Hz M10'
   have KV10:=Hz (show Keeps (Bar w2.heap.size w4.heap.size) w4 w10 from KV9.out.trans (k10.mono (fun k _ hk=>OW6.out k hk)))
   rw [E2.out]
   clear ht e10 k10 o10 M10' M9 KV9 OW6 E2 c0 c1 pl q0 ql
   generalize (jCut Q).2=Z at *
   obtain ⟨c0,c1,pl⟩:=M10.out.pc
   have q0:=M10.out.B.H.ptrs.1;have ql:=M10.out.B.H.hp.lt
   go_wp2_with fail
   refine (Used_c _ M10.out.B.H.ha).mono ?_
   rintro e w11 ⟨rfl,hk11⟩
   have M11:=Hz (M10.out.same (hk11.trans ((Kz w11).drew)));have KV11:=Hz (show Keeps (Bar w2.heap.size w4.heap.size) w4 w11.drew from (KV10.out.trans hk11.self).drew)
   have MB:=Hz (M10.out.same hk11);have KVB:=Hz (show Keeps (Bar w2.heap.size w4.heap.size) w4 w11 from KV10.out.trans hk11.self)
   rw [HS.out]
   clear c0 c1 pl q0 ql hk11 M10 KV10
   generalize (Z.ar.yng:Int)=ys at *
   obtain ⟨c0,c1,pl⟩:=MB.out.pc
   have VBB:=Hz (KB.out _ KVB.out).2
   have v0:=VBB.out.cell 0;have v1:=VBB.out.cell 1;have vl:=VBB.out.lt
   simp only [List.getElem?_cons_zero,List.getElem?_cons_succ] at v0 v1
   have g1:decide (sz≤u)=true:=by simpa using HGE.out
   clear VBB MB KVB
   go_wp2_with fail
   refine wp_region_ro (.free 0 (.free 1 (.free 2 (.free 3 (.free 4 (.free 5 (.free 6 (.free 7 (.free 8 (.free 9 (.free 10 (.free 11 (.free 12 (.free 13 (.pure 14 (.run 15 (.swi [25,26,27] (.free 16 (.free 17 (.free 18 (.free 20 (.free 21 (.free 22 (.pure 19 (.pure 23 (.run 24 (.run 25 (.swi [] (.free 26 (.free 27 (.fin))))))))))))))))))))))))))))))) [15,16,17,18,19,20,21,22,23,24,25,26,27] (fun w'=>w'.cell? ⟨p,0,none⟩=some (.pointer (some ⟨h10.a.p,0,none⟩))∧w'.cell? ⟨vb,0,none⟩=some (.slice ro vl1 rc)∧w'.cell? ⟨vb,1,none⟩=some (.slice no vl2 nc)) (by kernel_rfl) (by kernel_rfl) ⟨c0,v0,v1⟩ ?_
   iterate 15 first | (refine wpRO_free rfl rfl _ (fun w'=>by go_simp;exact Gives.mk _ _) (fun K hK=>?_);go_simp;refine hK _ ?_;clear hK K) | (refine wpRO_skipF rfl rfl (fun K hK=>?_);go_simp;refine hK _ ?_;clear hK K) | (refine wpRO_pure rfl rfl _ (fun w' hG=>by obtain ⟨c0,v0,v1⟩:=hG;exact gives_agg2 rfl (by decide +kernel) rfl (by assumption) (by assumption)) (fun K hK=>?_);go_simp;refine hK _ ?_;clear hK K) | (refine wpRO_pure rfl rfl _ (fun w' hG=>by obtain ⟨c0,v0,v1⟩:=hG;go_simp;exact Gives.mk _ _) (fun K hK=>?_);go_simp;refine hK _ ?_;clear hK K) | (refine wpRO_skip rfl rfl (fun K hK=>?_);go_simp;refine hK _ ?_;clear hK K)
   refine wpRO_chg rfl rfl rfl (fun K hK=>?_);unfold gRun;go_simp
   refine (Size_c _ P.view _ ((KB.out _ KV11.out).1.rep R2.out)).mono ?_
   rintro e w12 ⟨rfl,hk12⟩
   rw [HSV.out]
   have M12:=Hz (M11.out.same hk12);have KV12:=Hz (show Keeps (Bar w2.heap.size w4.heap.size) w4 w12 from KV11.out.trans hk12.self)
   refine hK _ _ ?_
   clear hK K hk12 M11 KV11 c0 c1 pl v0 v1 vl
   refine wpRO_swi (fun w'=>w'.cell? ⟨p,0,none⟩=some (.pointer (some ⟨h10.a.p,0,none⟩))∧w'.cell? ⟨vb,0,none⟩=some (.slice ro vl1 rc)∧w'.cell? ⟨vb,1,none⟩=some (.slice no vl2 nc)) ⟨M12.out.pc.1,(KB.out _ KV12.out).2.cell 0,(KB.out _ KV12.out).2.cell 1⟩ ?_
   iterate 8 first | (refine wpRO_free rfl rfl _ (fun w'=>by go_simp;exact Gives.mk _ _) (fun K hK=>?_);go_simp;refine hK _ ?_;clear hK K) | (refine wpRO_skipF rfl rfl (fun K hK=>?_);go_simp;refine hK _ ?_;clear hK K) | (refine wpRO_pure rfl rfl _ (fun w' hG=>by obtain ⟨c0,v0,v1⟩:=hG;exact gives_agg2 rfl (by decide +kernel) rfl (by assumption) (by assumption)) (fun K hK=>?_);go_simp;refine hK _ ?_;clear hK K) | (refine wpRO_pure rfl rfl _ (fun w' hG=>by obtain ⟨c0,v0,v1⟩:=hG;go_simp;exact Gives.mk _ _) (fun K hK=>?_);go_simp;refine hK _ ?_;clear hK K) | (refine wpRO_skip rfl rfl (fun K hK=>?_);go_simp;refine hK _ ?_;clear hK K)
   refine wpRO_run rfl rfl (fun K hK=>?_);unfold gRun;go_simp
   refine (HVS.out _ _ M12.out).mono ?_
   rintro e w13 ⟨v13,rfl,hv13,hk13⟩
   have M13:=Hz (M12.out.same hk13);have KV13:=Hz (show Keeps (Bar w2.heap.size w4.heap.size) w4 w13 from KV12.out.trans hk13.self);have HN13:=Hz (hv13.rep R2.out)
   refine hK _ _ (fun _=>⟨M13.out.pc.1,(KB.out _ KV13.out).2.cell 0,(KB.out _ KV13.out).2.cell 1⟩) ?_
   clear hK K hv13 hk13 M12 KV12
   refine wpRO_chg rfl rfl rfl (fun K hK=>?_);unfold gRun;go_simp
   refine (SameView_yes _ _ P.view _ ((KB.out _ KV13.out).1.rep R2.out) HN13.out).mono ?_
   rintro e w14 ⟨rfl,hk14⟩
   have K14:=Hz (M13.out.K.trans hk14)
   refine hK _ _ ?_
   clear hK K hk14 M13 KV13 HN13 KB
   refine wpRO_swi (fun _=>True) trivial ?_
   iterate 2 first | (refine wpRO_free rfl rfl _ (fun w'=>by go_simp;exact Gives.mk _ _) (fun K hK=>?_);go_simp;refine hK _ ?_;clear hK K) | (refine wpRO_skipF rfl rfl (fun K hK=>?_);go_simp;refine hK _ ?_;clear hK K)
   refine wpRO_fin ?_
   go_wp2_with fail
   go_ret
   exact ⟨rfl,K14.out⟩
theorem MajorAgain_walk (n o:Int) (lo:Option Addr) (lc m:Nat) (xs:List Int) (w:World) (_:R64 n) (_:R64 o) (h0:Rd w lo (xs.map (Value.int .i64))) (hx:xs.length=m*4) (_:m≤maxLen) (hb:∀ x ∈ xs,R64 x) :
  Calls Tryz.prog 4 #[.int .i64 n, .int .i64 o, .slice lo m lc] w fun e w'=>e=.returned (.bool true)∧Below w.heap.size w w':=
 (MajorAgain_raw n o lo lc m xs w h0 hx hb).mono fun e w' ⟨h1,h2⟩=>⟨h1,h2.below (fun _ _ h=>h)⟩
end
end
section
open Go.RowKit
def VInv (w wr:World) (p k j:Nat):Prop:=∃ h O W,BM w wr p h O W∧j≤k∧∃ G φ,Rep O G φ∧G.vec
section
variable {w w':World}
theorem BM.inW {w0 w w':World} {p:Nat} {h:BH} {O O':Wo} {W:Wd} (M:BM w0 w p h O W) (t:WoodIn w h.a w' O'):BM w0 w' p h O' W:=
 ⟨(M.B.inW t).1,M.e,M.K.then (M.B.inW t).2 (fun b hb=>.inr (M.own b hb)),M.own⟩
theorem BM.rootW {w0 w:World} {p:Nat} {h:BH} {O:Wo} {W:Wd} (M:BM w0 w p h O W) {g o cap k:Nat} {x:Int} (e:h.a.ro=.slice (some ⟨g,o,none⟩) 12 cap) (hk:k<12) (hx:R64 x) :
  BM w0 (w.setCell ⟨g,o+k,none⟩ (.int .i64 x)) p h { O with rt:=O.rt.set k x } W:=
 ⟨(M.B.rootW e hk hx).1,M.e,M.K.then (M.B.rootW e hk hx).2 (fun b hb=>.inr (M.own b hb)),M.own⟩
theorem BM.roots {w0 w:World} {p:Nat} {h:BH} {O:Wo} {W:Wd} (M:BM w0 w p h O W):∃ g o cap,h.a.ro=.slice (some ⟨g,o,none⟩) 12 cap:=by
 obtain ⟨g,o,cap,hro,-⟩:=M.B.H.roots
 rw [M.B.H.ok.h12] at hro
 exact ⟨g,o,cap,hro⟩
theorem MajorSlides_raw (n o:Int) (lo:Option Addr) (lc m:Nat) (xs:List Int) (w:World) (h0:Rd w lo (xs.map (Value.int .i64))) (hx:xs.length=m*4) (hb:∀ x ∈ xs,R64 x) :
  Calls Tryz.prog 5 #[.int .i64 n, .int .i64 o, .slice lo m lc] w fun e w'=>e=.returned (.bool true)∧Keeps (fun _=>False) w w':=by
 have H0:=Hz h0;have HX:=Hz hx;have HBD:=Hz hb
 clear h0 hx hb
 go_enter Tryz.func5,Tryz.ntmps5
 go_wp2_with fail
 refine (majorBegun_c _).mono ?_
 rintro e w1 ⟨rfl,hk1⟩
 have HK1:=Hz hk1;clear hk1
 by_cases hm:250<m
 ·go_wp2_with fail
  go_ret
  exact ⟨rfl,HK1.out⟩
 cases hfit:Ar.fits n o
 ·have HFM:=Hz (show faultM n o=(1,-1) by unfold faultM;rw [hfit];rfl)
  go_wp2_with fail
  refine (start_no n o _ hfit).mono ?_
  rintro e w2 ⟨rfl,hk2⟩
  go_wp2_with fail
  refine (RoomFault_c n o _).mono ?_
  rintro e w3 ⟨rfl,hk3⟩
  rw [HFM.out]
  have hfd:∀ w:World,(Instr.field 28 (.agg #[.int .i64 1, .int .i64 (-1)]) 0).run Tryz.prog w=.ok (.int .i64 1) w:=fun _=>by kernel_rfl
  go_wp2_with fail
  go_ret
  exact ⟨rfl,(HK1.out.trans hk2).trans hk3⟩
 have HFIT:=Hz hfit
 go_wp2_with fail
 refine (start_yes n o _ hfit).mono ?_
 rintro e w2 ⟨h,rfl,B2,k2,o2⟩
 have HM:=Hz (show BM w w2 h.p h (Wo.new n o) (Wd.new n o) from ⟨B2,rfl,HK1.out.trans k2,fun b hb=>Nat.le_trans HK1.out.size (o2 b hb)⟩)
 clear hfit B2 k2 o2 HK1
 generalize h.p=p at *
 have hm250:m≤250:=by omega
 have HI:=Hz (show VInv w w2 p 0 0 from ⟨h,_,_,HM.out,Nat.le_refl _,_,_,Rep.new HFIT.out,Wd.new_vec n o⟩)
 clear HM HFIT hm
 go_wp2_with fail
 refine wp_loop_over (fun i=>Nat.blt 36 i && Nat.blt i 122 || Nat.blt 8 i && Nat.blt i 13) (fun s wr=>∃ k j:Nat,k≤m∧s 10=.int .i64 k∧s 9=.int .i64 j∧VInv w wr p k j) (fun s _=>m-(intOf (s 10)).toNat) ?_ ?_
 ·exact ⟨0,0,Nat.zero_le _,rfl,rfl,HI.out⟩
 ·intro u0 wr hrel K hK
  clear HI
  obtain ⟨k,j,hk,e10,e9,hI⟩:=hrel
  have e10:u0 10=.int .i64 k:=e10
  have e9:u0 9=.int .i64 j:=e9
  have HI:=Hz hI
  clear hI
  simp only [overA,overL,List.toList_toArray,Nat.blt,Nat.beq,Nat.ble,Nat.reduceAdd,Bool.or_false,Bool.false_or,Bool.or_true,Bool.true_or,Bool.and_true,Bool.true_and,Bool.and_false,Bool.false_and,cond_true,cond_false]
  rw [e10,e9]
  have E10:=Hz e10;have E9:=Hz e9;clear e9 e10
  by_cases hlt:k<m
  ·obtain ⟨h1,O1,W1,M1,hjk,G1,φ1,R1,V1⟩:=HI.out
   have hrd:=H0.out.keep M1.K (fun _ _ _ h=>h)
   obtain ⟨gs,os,rfl,hgl,d0⟩:=hrd.nth (k*4) (by rw [HX.out];omega)
   obtain ⟨_,_,e',-,d1⟩:=hrd.nth (k*4+1) (by rw [HX.out];omega)
   cases e'
   obtain ⟨_,_,e',-,d2⟩:=hrd.nth (k*4+2) (by rw [HX.out];omega)
   cases e'
   obtain ⟨_,_,e',-,d3⟩:=hrd.nth (k*4+3) (by rw [HX.out];omega)
   cases e'
   rw [←Nat.add_assoc] at d1 d2 d3
   generalize xs.getD (k*4) 0=d at *
   generalize xs.getD (k*4+1) 0=x at *
   generalize xs.getD (k*4+2) 0=y at *
   generalize xs.getD (k*4+3) 0=z at *
   have M:=Hz M1;have R:=Hz R1;have V:=Hz V1
   clear hrd HI M1 R1 V1
   go_upto_region 13 with (refine wpList_agg rfl 31 (.tmp 45) rfl [.int .i64 d, .int .i64 x, .int .i64 y, .int .i64 z] (by kernel_rfl) gs (os+k*4) rfl (rangeAt_cons d0 (rangeAt_cons d1 (rangeAt_cons d2 (rangeAt_cons d3 rangeAt_nil)))) ?_)
   have hbk:=Blk.newAt (w:=wr) (b:=wr.heap.size) (T:=31) #[.int .i64 d, .int .i64 x, .int .i64 y, .int .i64 z] rfl rfl
   have hka:=(Kz wr).alloc (.cells #[.int .i64 d, .int .i64 x, .int .i64 y, .int .i64 z] 31)
   have hMb:=M.out.same hka
   clear d0 d1 d2 d3 hgl M
   generalize wr.alloc (.cells #[.int .i64 d, .int .i64 x, .int .i64 y, .int .i64 z] 31)=wb at *
   generalize wr.heap.size=be at *
   have HB:=Hz hbk;have M:=Hz hMb
   clear hbk hka hMb
   have HSKIP:=Hz (show ∀ w',Keeps (fun _=>False) wb w'→VInv w w' p (k+1) j from fun w' kk=>⟨h1,_,_,M.out.same kk,by omega,_,_,R.out,V.out⟩)
   have b0:=HB.out.cell 0;have b1:=HB.out.cell 1;have b2:=HB.out.cell 2;have b3:=HB.out.cell 3;have bl:=HB.out.lt
   simp only [List.getElem?_cons_zero,List.getElem?_cons_succ] at b0 b1 b2 b3
   obtain ⟨c0,c1,pl⟩:=M.out.pc
   have q0:=M.out.B.H.ptrs.1;have ql:=M.out.B.H.hp.lt
   by_cases hd0:d=0
   ·subst hd0
    have o1:=M.out.B.H.ok.ha.h1;have o2:=M.out.B.H.ok.ha.h2;have o3:=M.out.B.H.ok.ha.h3;have o4:=M.out.B.H.ok.ha.h4
    have yl:(O1.ar.yng:Int)≤1280:=by omega
    clear o1 o2 o3 o4 b1 b2
    go_wp2_with fail
    refine (Make_c 2 1 wb M.out.B.H.ha (by unfold R64;decide)).mono ?_
    rintro e w3 ⟨rfl,ht⟩
    have M3:=Hz (M.out.inW (WoodIn.arena M.out.B.H ht (by unfold Ar.make;split <;> rfl)))
    have HB3:=Hz (show Blk w3 be _ _ from ht.k.blk HB.out (fun e=>by
     rcases e with e | e
     ·exact HB.out.ne M.out.B.H.ha.hp (by decide) e
     ·exact HB.out.ne M.out.B.H.ha.hg (by decide) e))
    by_cases hf:fitsW 2 1=true∧1+1≤(O1.ar.nur:Int)-O1.ar.yng
    ·have hy:(O1.ar.make 2 1).1=(O1.ar.yng:Int):=by rw [Ar.make_yes hf]
     have HNX:=Hz (show ∀ w' (h':BH) (r:Nat),BM w w' p h' { O1 with ar:=(O1.ar.make 2 1).2.store (O1.ar.yng+1) (4*(j:Int)),rt:=O1.rt.set r (4*O1.ar.yng+1) } W1→VInv w w' p (k+1) (j+1) from fun w' h' r M'=>
      ⟨h',_,_,M',by omega,_,_,R.out.vecNew (r:=r) hf (by unfold big;omega),V.out.put _ _⟩)
     rw [hy]
     clear ht hf hy b0 b3 bl c0 c1 pl q0 ql M HB R V HSKIP
     generalize (O1.ar.make 2 1).2=A2 at *
     have hjl:(j:Int)≤250:=by omega
     have wr1:IntKind.i64.wrap ((O1.ar.yng:Int)+1)=O1.ar.yng+1:=IntWalk.i64_in _ (by omega)
     have wr2:IntKind.i64.wrap (4*(j:Int))=4*j:=IntWalk.i64_in _ (by omega)
     have wr3:IntKind.i64.wrap ((j:Int)+1)=j+1:=IntWalk.i64_in _ (by omega)
     obtain ⟨yg,hyg⟩:∃ y:Int,(O1.ar.yng:Int)=y:=⟨_,rfl⟩
     have y0:0≤yg:=by omega
     rw [hyg] at HNX yl wr1
     rw [hyg]
     clear hyg
     obtain ⟨c0,c1,pl⟩:=M3.out.pc
     have q0:=M3.out.B.H.ptrs.1;have ql:=M3.out.B.H.hp.lt
     have e9:=E9.out
     go_wp2_with fail
     refine (Store_c (yg+1) (4*(j:Int)) w3 M3.out.B.H.ha (by unfold R64;omega)).mono ?_
     rintro e w4 ⟨rfl,ht⟩
     have M4:=Hz (M3.out.inW (WoodIn.arena M3.out.B.H ht (Ar.store_nur _ _ _)))
     have HB4:=Hz (show Blk w4 be _ _ from ht.k.blk HB3.out (fun e=>by
      rcases e with e | e
      ·exact HB3.out.ne M3.out.B.H.ha.hp (by decide) e
      ·exact HB3.out.ne M3.out.B.H.ha.hg (by decide) e))
     clear ht M3 HB3 c0 c1 pl q0 ql
     obtain ⟨g,o',cap,hro⟩:=M4.out.roots
     have hc12:=rootN_lt z
     have RC:=Hz (Root_c z)
     generalize rootN z=c at *
     obtain ⟨q0,q3,ql,gl,gf,gc⟩:=M4.out.B.rcells hro hc12
     have HRO:=Hz hro
     clear hro
     obtain ⟨c0,c1,pl⟩:=M4.out.pc
     have b3:=HB4.out.cell 3;have bl:=HB4.out.lt
     simp only [List.getElem?_cons_zero,List.getElem?_cons_succ] at b3
     have hc12i:(c:Int)<12:=by omega
     go_wp2_with fail
     refine wp_region_ro (.free 0 (.free 1 (.free 2 (.free 7 (.free 10 (.pure 3 (.free 4 (.free 5 (.pure 6 (.pure 8 (.run 9 (.run 11 (.free 12 (.run 13 (.swi [] (.fin)))))))))))))))) [13] (fun w'=>w'.cell? ⟨p,0,none⟩=some (.pointer (some ⟨h1.a.p,0,none⟩))∧w'.cell? ⟨h1.a.p,3,none⟩=some (.slice (some ⟨g,o',none⟩) 12 cap)∧w'.cell? ⟨be,3,none⟩=some (.int .i64 z)) (by kernel_rfl) (by kernel_rfl) ⟨c0,q3,b3⟩ ?_
     iterate 10 first | (refine wpRO_free rfl rfl _ (fun w'=>by go_simp;exact Gives.mk _ _) (fun K hK=>?_);go_simp;refine hK _ ?_;clear hK K) | (refine wpRO_skipF rfl rfl (fun K hK=>?_);go_simp;refine hK _ ?_;clear hK K) | (refine wpRO_pure rfl rfl _ (fun w' hG=>by obtain ⟨c0,q3,b3⟩:=hG;exact gives_agg2 rfl (by decide +kernel) rfl (by assumption) (by assumption)) (fun K hK=>?_);go_simp;refine hK _ ?_;clear hK K) | (refine wpRO_pure rfl rfl _ (fun w' hG=>by obtain ⟨c0,q3,b3⟩:=hG;go_simp;exact Gives.mk _ _) (fun K hK=>?_);go_simp;refine hK _ ?_;clear hK K) | (refine wpRO_skip rfl rfl (fun K hK=>?_);go_simp;refine hK _ ?_;clear hK K)
     refine wpRO_run rfl rfl (fun K hK=>?_);unfold gRun;go_simp
     refine (RC.out _).mono ?_
     rintro e w5 ⟨rfl,rfl⟩
     refine hK _ _ (fun hg=>hg) ?_
     clear hK K
     skip
     refine wpRO_run rfl rfl (fun K hK=>?_);unfold gRun;go_simp
     refine (Ref_c yg _ (by omega) (by omega)).mono ?_
     rintro e w5 ⟨rfl,rfl⟩
     refine hK _ _ (fun hg=>hg) ?_
     clear hK K
     iterate 1 first | (refine wpRO_free rfl rfl _ (fun w'=>by go_simp;exact Gives.mk _ _) (fun K hK=>?_);go_simp;refine hK _ ?_;clear hK K) | (refine wpRO_skipF rfl rfl (fun K hK=>?_);go_simp;refine hK _ ?_;clear hK K)
     refine wpRO_chg rfl rfl rfl (fun K hK=>?_);unfold gRun;go_simp
     refine hK _ _ ?_
     clear hK K
     refine wpRO_swi (fun _=>True) trivial (wpRO_fin ?_)
     have hM5:=(M4.out.rootW (k:=c) (x:=4*yg+1) HRO.out hc12 (by unfold R64;omega)).same ((Kz _).drew)
     have HIK:=Hz (HNX.out _ _ _ hM5)
     clear hM5 M4 HB4 HNX c0 c1 pl q0 q3 ql gl gf gc b3 bl
     generalize (w4.setCell ⟨g,o' + c,none⟩ (.int .i64 (4*yg+1))).drew=w6 at *
     go_wp2_with fail
     refine ⟨⟨by kernel_rfl,?rel⟩,?measure⟩
     case rel=>exact ⟨k+1,j+1,hlt,by go_num,by go_num,HIK.out⟩
     case measure=>exact meas_lt (by go_num) (by first | rfl | exact E10.out) hlt
    ·have hy:O1.ar.make 2 1=(-1,O1.ar):=Ar.make_no hf
     have HIK:=Hz (show VInv w w3 p (k+1) j from ⟨h1,_,_,by have:=M3.out;rw [hy] at this;exact this,by omega,_,_,R.out,V.out⟩)
     rw [hy]
     clear ht hf hy b0 b3 bl c0 c1 pl q0 ql M HB R V HSKIP M3 HB3
     go_wp2_with fail
     refine ⟨⟨by kernel_rfl,?rel⟩,?measure⟩
     case rel=>exact ⟨k+1,j,hlt,by go_num,by first | rfl | exact E9.out,HIK.out⟩
     case measure=>exact meas_lt (by go_num) (by first | rfl | exact E10.out) hlt
   have g0:(d == 0)=false:=by simpa using hd0
   clear hd0
   by_cases hd4:d=4
   ·subst hd4
    obtain ⟨g,o',cap,hro⟩:=M.out.roots
    have hc12:=rootN_lt z
    have RC:=Hz (Root_c z)
    generalize rootN z=c at *
    obtain ⟨-,q3,-,gl,gf,gc⟩:=M.out.B.rcells hro hc12
    have HRO:=Hz hro
    clear hro b1 b2 q0
    have hc12i:(c:Int)<12:=by omega
    go_wp2_with fail
    refine wp_region_ro (.free 0 (.free 1 (.free 2 (.free 7 (.pure 3 (.free 4 (.free 5 (.pure 6 (.pure 8 (.run 9 (.run 10 (.free 11 (.run 12 (.swi [] (.fin))))))))))))))) [12] (fun w'=>w'.cell? ⟨p,0,none⟩=some (.pointer (some ⟨h1.a.p,0,none⟩))∧w'.cell? ⟨h1.a.p,3,none⟩=some (.slice (some ⟨g,o',none⟩) 12 cap)∧w'.cell? ⟨be,3,none⟩=some (.int .i64 z)) (by kernel_rfl) (by kernel_rfl) ⟨c0,q3,b3⟩ ?_
    iterate 9 first | (refine wpRO_free rfl rfl _ (fun w'=>by go_simp;exact Gives.mk _ _) (fun K hK=>?_);go_simp;refine hK _ ?_;clear hK K) | (refine wpRO_skipF rfl rfl (fun K hK=>?_);go_simp;refine hK _ ?_;clear hK K) | (refine wpRO_pure rfl rfl _ (fun w' hG=>by obtain ⟨c0,q3,b3⟩:=hG;exact gives_agg2 rfl (by decide +kernel) rfl (by assumption) (by assumption)) (fun K hK=>?_);go_simp;refine hK _ ?_;clear hK K) | (refine wpRO_pure rfl rfl _ (fun w' hG=>by obtain ⟨c0,q3,b3⟩:=hG;go_simp;exact Gives.mk _ _) (fun K hK=>?_);go_simp;refine hK _ ?_;clear hK K) | (refine wpRO_skip rfl rfl (fun K hK=>?_);go_simp;refine hK _ ?_;clear hK K)
    refine wpRO_run rfl rfl (fun K hK=>?_);unfold gRun;go_simp
    refine (RC.out _).mono ?_
    rintro e w5 ⟨rfl,rfl⟩
    refine hK _ _ (fun hg=>hg) ?_
    clear hK K
    skip
    refine wpRO_run rfl rfl (fun K hK=>?_);unfold gRun;go_simp
    refine (Nil_c _).mono ?_
    rintro e w5 ⟨rfl,rfl⟩
    refine hK _ _ (fun hg=>hg) ?_
    clear hK K
    iterate 1 first | (refine wpRO_free rfl rfl _ (fun w'=>by go_simp;exact Gives.mk _ _) (fun K hK=>?_);go_simp;refine hK _ ?_;clear hK K) | (refine wpRO_skipF rfl rfl (fun K hK=>?_);go_simp;refine hK _ ?_;clear hK K)
    refine wpRO_chg rfl rfl rfl (fun K hK=>?_);unfold gRun;go_simp
    refine hK _ _ ?_
    clear hK K
    refine wpRO_swi (fun _=>True) trivial (wpRO_fin ?_)
    have hM5:=(M.out.rootW (k:=c) (x:=2) HRO.out hc12 (by unfold R64;omega)).same ((Kz _).drew)
    have HIK:=Hz (show VInv w (wb.setCell ⟨g,o' + c,none⟩ (.int .i64 2)).drew p (k+1) j from ⟨h1,_,_,hM5,by omega,_,_,R.out.setR (v:=(0,0)) (.inl ⟨rfl,rfl⟩) (c:Int),V.out.setR _ _⟩)
    clear hM5 c0 c1 pl q3 ql gl gf gc b0 b3 bl M HB R V HSKIP
    generalize (wb.setCell ⟨g,o' + c,none⟩ (.int .i64 2)).drew=w6 at *
    go_wp2_with fail
    refine ⟨⟨by kernel_rfl,?rel⟩,?measure⟩
    case rel=>exact ⟨k+1,j,hlt,by go_num,by first | rfl | exact E9.out,HIK.out⟩
    case measure=>exact meas_lt (by go_num) (by first | rfl | exact E10.out) hlt
   have g4:(d == 4)=false:=by simpa using hd4
   clear hd4
   by_cases hd6:d=6
   ·subst hd6
    clear b1 b2 b3
    go_wp2_with fail
    refine (minorCut_c R.out M.out.B.H).mono ?_
    rintro e w5 ⟨rfl,ht⟩
    obtain ⟨h5,M5'⟩:=M.out.wood ht
    obtain ⟨-,ψ,R5'⟩:=R.out.minor
    have HIK:=Hz (show VInv w w5 p (k+1) j from ⟨h5,_,_,M5',by omega,_,ψ,R5',V.out.cut R.out.hw false⟩)
    generalize (mCut O1).1=cc at *
    clear ht M5' R5' b0 bl c0 c1 pl q0 ql M HB R V HSKIP
    go_wp2_with fail
    refine ⟨⟨by kernel_rfl,?rel⟩,?measure⟩
    case rel=>exact ⟨k+1,j,hlt,by go_num,by first | rfl | exact E9.out,HIK.out⟩
    case measure=>exact meas_lt (by go_num) (by first | rfl | exact E10.out) hlt
   have g6:(d == 6)=false:=by simpa using hd6
   clear hd6
   by_cases hd7:d=7
   ·subst hd7
    clear b1 b2 b3
    go_wp2_with fail
    refine (majorCut_c R.out M.out.B.H).mono ?_
    rintro e w5 ⟨rfl,ht⟩
    obtain ⟨h5,M5'⟩:=M.out.wood ht
    obtain ⟨-,ψ,R5'⟩:=R.out.major
    have HIK:=Hz (show VInv w w5 p (k+1) j from ⟨h5,_,_,M5',by omega,_,ψ,R5',V.out.cut R.out.hw true⟩)
    generalize (jCut O1).1=cc at *
    clear ht M5' R5' b0 bl c0 c1 pl q0 ql M HB R V HSKIP
    go_wp2_with fail
    refine ⟨⟨by kernel_rfl,?rel⟩,?measure⟩
    case rel=>exact ⟨k+1,j,hlt,by go_num,by first | rfl | exact E9.out,HIK.out⟩
    case measure=>exact meas_lt (by go_num) (by first | rfl | exact E10.out) hlt
   have g7:(d == 7)=false:=by simpa using hd7
   clear hd7
   have HIK:=Hz (HSKIP.out _ (Keeps.refl _ _))
   go_wp2_with fail
   refine ⟨⟨by kernel_rfl,?rel⟩,?measure⟩
   case rel=>first | exact ⟨k+1,j,hlt,by go_num,by first | rfl | exact E9.out,HIK.out⟩ | exact ⟨k+1,hlt,by go_num,j,by first | rfl | exact E9.out,HIK.out⟩
   case measure=>exact meas_lt (by go_num) (by first | rfl | exact E10.out) hlt
  ·obtain rfl:k=m:=by omega
   obtain ⟨h1,O1,W1,M1,hjk,G1,φ1,R1,V1⟩:=HI.out
   have M:=Hz M1;have R:=Hz R1;have V:=Hz V1
   clear HI M1 R1 V1
   obtain ⟨c0,c1,pl⟩:=M.out.pc
   go_wp2_with fail
   refine (numbers_c R.out M.out).mono ?_
   rintro e w2 ⟨ao,ac,rfl,hs,hk2,ho⟩
   have M2':=M.out.same hk2
   obtain ⟨_,_,e',rd,hml,-⟩:=hs.rd
   cases e'
   have RB:=Hz (show Rd w2 ao ((numsA O1.ar).map (Value.int .i64)) from rd)
   have OB:=Hz (show ∀ a,ao=some a→wr.heap.size≤a.block from fun a ha=>ho _ (by subst ha;rfl))
   have OL:=Hz (fun b hb=>M.out.B.own_lt (k:=b) hb)
   have M2:=Hz M2'
   clear hs hk2 ho rd c0 c1 pl M M2'
   obtain ⟨c0,c1,pl⟩:=M2.out.pc
   have q0:=M2.out.B.H.ptrs.1;have ql:=M2.out.B.H.hp.lt
   go_wp2_with fail
   refine (majorCut_c R.out M2.out.B.H).mono ?_
   rintro e w3 ⟨rfl,ht⟩
   obtain ⟨h3,M3',k3⟩:=M2.out.woodK ht
   obtain ⟨-,ψ,R3'⟩:=R.out.major
   have RB3:=Hz (RB.out.keep k3 (fun a ha hl hn=>by have:=OB.out a ha;have:=OL.out _ (.inr (.inl hn));omega))
   have SLD:=Hz (fun h0=>R.out.slides V.out h0)
   have hcc:=jCut_code O1
   obtain ⟨⟨c,P⟩,hP⟩:∃ t,jCut O1=t:=⟨_,rfl⟩
   rw [hP] at M3' SLD R3' hcc ⊢
   dsimp only at M3' SLD R3' hcc ⊢
   have M3:=Hz M3';have R3:=Hz R3'
   clear hP M3' R3' ht M2 R V c0 c1 pl q0 ql k3 RB OB OL
   rcases hcc with rfl | rfl
   rotate_left
   ·go_wp2_with fail
    go_ret
    exact ⟨rfl,M3.out.K⟩
   have SD:=Hz (SLD.out rfl)
   clear SLD
   obtain ⟨c0,c1,pl⟩:=M3.out.pc
   go_wp2_with fail
   refine (numbers_c R3.out M3.out).mono ?_
   rintro e w4 ⟨bo,bc,rfl,hs,hk4,ho⟩
   have M4:=Hz (M3.out.same hk4)
   obtain ⟨_,_,e',rd,hml2,-⟩:=hs.rd
   cases e'
   have RA4:=Hz (show Rd w4 bo ((numsA P.ar).map (Value.int .i64)) from rd)
   have RB4:=Hz (RB3.out.keep hk4 (fun _ _ _ h=>h))
   clear hs hk4 ho rd c0 c1 pl M3 RB3
   obtain ⟨c0,c1,pl⟩:=M4.out.pc
   have q0:=M4.out.B.H.ptrs.1;have ql:=M4.out.B.H.hp.lt
   go_wp2_with fail
   refine (Used_c _ M4.out.B.H.ha).mono ?_
   rintro e w5 ⟨rfl,hk5⟩
   have M5:=Hz (M4.out.same hk5)
   have RA:=Hz (RA4.out.keep hk5 (fun _ _ _ h=>h));have RB:=Hz (RB4.out.keep hk5 (fun _ _ _ h=>h))
   rw [SD.out.young]
   have HUS:=Hz SD.out.used;have HSZ:=Hz SD.out.size;have HSUB:=Hz (leftG_sub SD.out.sub)
   have VW:=Hz (fun w' (M':BM w w' p h3 P W1)=>View_c w' M'.B.H)
   rw [←HSZ.out] at HUS
   rw [←HSZ.out]
   have HRS:=Hz (show ∀ (w':World) (lo':Nat) (v:Value),ViewV w' lo' v P.view→ViewR w' v P.view from fun _ _ _ hv=>hv.rep R3.out)
   have HLEN:=Hz (show ((numsA P.ar).length:Int)≤1280 from by
    have:=SD.out.used;have:=M5.out.B.H.ok.ha.h3;have:=M5.out.B.H.ok.ha.h4;omega)
   clear hk5 RA4 RB4 M4 c0 c1 pl q0 ql SD HSZ R3
   have HLB:=Hz (show (numsA O1.ar).length≤2600 from by
    have h1:O1.ar.things.1.length≤1300:=Ar.list_len O1.ar 1300 _ _
    have h2:O1.ar.things.2.length≤1300:=Ar.list_len O1.ar 1300 _ _
    unfold numsA;rw [List.length_map,List.length_append];omega)
   generalize numsA O1.ar=B at *
   generalize numsA P.ar=A at *
   obtain ⟨sz,hsz⟩:∃ z,sizeN P.view.2=z:=⟨_,rfl⟩
   have HSV:=Hz hsz
   rw [hsz] at HUS
   rw [hsz]
   clear hsz
   go_wp2_with fail
   go_loopw [17,18] (fun c i wx=>∃ (q r:Nat),q≤A.length∧r≤B.length∧c=.int .i64 q∧i=.int .i64 r∧leftG (B.drop r) (A.drop q)=[]∧Keeps (fun _=>False) w5 wx) (fun _ i _=>B.length-(intOf i).toNat)
   case atStart=>exact ⟨0,0,Nat.zero_le _,Nat.zero_le _,rfl,rfl,HSUB.out,Keeps.refl _ _⟩
   case round=>
    clear HSUB
    obtain ⟨q,r,hq,hr,rfl,rfl,hl,hkx⟩:=hrel
    have KX:=Hz hkx
    clear hkx
    by_cases hgo:r<B.length∧q<A.length
    ·obtain ⟨hr1,hq1⟩:=hgo
     have hst:=leftG_drop hr1 hq1
     rw [hl] at hst
     obtain ⟨gb,ob,rfl,hgb,d0⟩:=(RB.out.keep KX.out (fun _ _ _ h=>h)).nth r hr1
     obtain ⟨ga,oa,rfl,hga,d1⟩:=(RA.out.keep KX.out (fun _ _ _ h=>h)).nth q hq1
     generalize B.getD r 0=x at *
     generalize A.getD q 0=y at *
     have HST:=Hz hst
     clear hst hl
     have hqi:(q:Int)<A.length:=by omega
     have hri:(r:Int)<B.length:=by omega
     have hlb:=HLB.out;have hla:=HLEN.out
     have hd1:decide ((r:Int)<B.length)=true:=by simpa using hri
     have hd2:decide ((q:Int)<A.length)=true:=by simpa using hqi
     by_cases hxy:x=y
     ·have HL:=Hz (show leftG (B.drop (r+1)) (A.drop (q+1))=[] by have:=HST.out;rw [if_pos hxy] at this;exact this.symm)
      subst hxy
      have hee:(x == x)=true:=by simp
      go_wp2_with fail
      refine wp_region_ro (.free 0 (.free 1 (.free 2 (.free 4 (.free 5 (.free 6 (.pure 3 (.pure 7 (.free 8 (.fin)))))))))) [] (fun w'=>w'.cell? ⟨gb,ob+r,none⟩=some (.int .i64 x)∧w'.cell? ⟨ga,oa+q,none⟩=some (.int .i64 x)) (by kernel_rfl) (by kernel_rfl) ⟨d0,d1⟩ ?_
      iterate 9 first | (refine wpRO_free rfl rfl _ (fun w'=>by go_simp;exact Gives.mk _ _) (fun K hK=>?_);go_simp;refine hK _ ?_;clear hK K) | (refine wpRO_skipF rfl rfl (fun K hK=>?_);go_simp;refine hK _ ?_;clear hK K) | (refine wpRO_pure rfl rfl _ (fun w' hG=>by obtain ⟨d0,d1⟩:=hG;exact gives_agg2 rfl (by decide +kernel) rfl (by assumption) (by assumption)) (fun K hK=>?_);go_simp;refine hK _ ?_;clear hK K) | (refine wpRO_pure rfl rfl _ (fun w' hG=>by obtain ⟨d0,d1⟩:=hG;go_simp;exact Gives.mk _ _) (fun K hK=>?_);go_simp;refine hK _ ?_;clear hK K) | (refine wpRO_skip rfl rfl (fun K hK=>?_);go_simp;refine hK _ ?_;clear hK K)
      refine wpRO_fin ?_
      have KN:=Hz KX.out.drew
      go_wp2_with fail
      go_roundw
      case rel=>exact ⟨q+1,r+1,hq1,hr1,by go_num,by go_num,HL.out,KN.out⟩
      case measure=>simp [intOf];omega
     ·have HL:=Hz (show leftG (B.drop (r+1)) (A.drop q)=[] by have:=HST.out;rw [if_neg hxy] at this;exact this.symm)
      have hee:(x == y)=false:=by simpa using hxy
      clear hxy
      go_wp2_with fail
      refine wp_region_ro (.free 0 (.free 1 (.free 2 (.free 4 (.free 5 (.free 6 (.pure 3 (.pure 7 (.free 8 (.fin)))))))))) [] (fun w'=>w'.cell? ⟨gb,ob+r,none⟩=some (.int .i64 x)∧w'.cell? ⟨ga,oa+q,none⟩=some (.int .i64 y)) (by kernel_rfl) (by kernel_rfl) ⟨d0,d1⟩ ?_
      iterate 9 first | (refine wpRO_free rfl rfl _ (fun w'=>by go_simp;exact Gives.mk _ _) (fun K hK=>?_);go_simp;refine hK _ ?_;clear hK K) | (refine wpRO_skipF rfl rfl (fun K hK=>?_);go_simp;refine hK _ ?_;clear hK K) | (refine wpRO_pure rfl rfl _ (fun w' hG=>by obtain ⟨d0,d1⟩:=hG;exact gives_agg2 rfl (by decide +kernel) rfl (by assumption) (by assumption)) (fun K hK=>?_);go_simp;refine hK _ ?_;clear hK K) | (refine wpRO_pure rfl rfl _ (fun w' hG=>by obtain ⟨d0,d1⟩:=hG;go_simp;exact Gives.mk _ _) (fun K hK=>?_);go_simp;refine hK _ ?_;clear hK K) | (refine wpRO_skip rfl rfl (fun K hK=>?_);go_simp;refine hK _ ?_;clear hK K)
      refine wpRO_fin ?_
      have KN:=Hz KX.out.drew
      go_wp2_with fail
      go_roundw
      case rel=>exact ⟨q,r+1,hq,hr1,rfl,by go_num,HL.out,KN.out⟩
      case measure=>simp [intOf];omega
    ·have hqa:q=A.length:=by
      by_cases h1:r<B.length
      ·have:¬ q<A.length:=fun h2=>hgo ⟨h1,h2⟩
       omega
      ·obtain rfl:r=B.length:=by omega
       rw [List.drop_length] at hl
       exact leftG_end (b:=[]) hq hl
     subst hqa
     clear hl hgo
     have M6:=Hz (M5.out.same KX.out)
     have hus:=HUS.out
     have hlen:(A.length:Int)≤100000:=by have:=HLEN.out;omega
     have wr2:IntKind.i64.wrap (2*(A.length:Int))=2*A.length:=IntWalk.i64_in _ (by omega)
     have hqn:decide ((A.length:Int)<A.length)=false:=by simp
     obtain ⟨c0,c1,pl⟩:=M6.out.pc
     subst hus
     have ee1:((A.length:Int) == (A.length:Int))=true:=by simp
     have ee2:((2*(A.length:Int)) == (2*(A.length:Int)))=true:=by simp
     by_cases hrb:r<B.length
     ·have hri:(r:Int)<B.length:=by omega
      clear hrb
      go_wp2_with fail
      refine (VW.out _ M6.out).mono ?_
      rintro e w7 ⟨v7,rfl,hv7,hk7⟩
      have M7:=Hz (M6.out.same hk7)
      have HN7:=Hz (HRS.out _ _ _ hv7)
      clear hk7 hv7 c0 c1 pl M6
      go_wp2_with fail
      refine (Size_c _ P.view _ HN7.out).mono ?_
      rintro e w8 ⟨rfl,hk8⟩
      rw [HSV.out]
      have K8:=Hz (M7.out.K.trans hk8)
      clear hk8 M7 HN7
      go_wp2_with fail
      go_ret
      exact ⟨rfl,K8.out⟩
     ·have hri:(B.length:Int)≤r:=by omega
      clear hrb
      go_wp2_with fail
      refine (VW.out _ M6.out).mono ?_
      rintro e w7 ⟨v7,rfl,hv7,hk7⟩
      have M7:=Hz (M6.out.same hk7)
      have HN7:=Hz (HRS.out _ _ _ hv7)
      clear hk7 hv7 c0 c1 pl M6
      go_wp2_with fail
      refine (Size_c _ P.view _ HN7.out).mono ?_
      rintro e w8 ⟨rfl,hk8⟩
      rw [HSV.out]
      have K8:=Hz (M7.out.K.trans hk8)
      clear hk8 M7 HN7
      go_wp2_with fail
      go_ret
      exact ⟨rfl,K8.out⟩
theorem MajorSlides_walk (n o:Int) (lo:Option Addr) (lc m:Nat) (xs:List Int) (w:World) (_:R64 n) (_:R64 o) (h0:Rd w lo (xs.map (Value.int .i64))) (hx:xs.length=m*4) (_:m≤maxLen) (hb:∀ x ∈ xs,R64 x) :
  Calls Tryz.prog 5 #[.int .i64 n, .int .i64 o, .slice lo m lc] w fun e w'=>e=.returned (.bool true)∧Below w.heap.size w w':=
 (MajorSlides_raw n o lo lc m xs w h0 hx hb).mono fun e w' ⟨h1,h2⟩=>⟨h1,h2.below (fun _ _ h=>h)⟩
end
end
end Go.Proofs.YtjifdalflepcoacGreat
