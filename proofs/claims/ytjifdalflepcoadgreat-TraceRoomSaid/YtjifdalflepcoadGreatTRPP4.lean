/-
  Parts of the proof, merged: what the functions do, and plain laws.
-/
import Derived.Test.YtjifdalflepcoadGreatTRPP3
set_option maxHeartbeats 16000000
set_option maxRecDepth 100000
set_option linter.unusedVariables false
set_option linter.unusedSimpArgs false
namespace Go.Proofs.YtjifdalflepcoadGreat
section
open Go.RowKit
structure GX where
 l:Value
 ro:Value
 y:Value
 o:Value
 m:Value
 g:Value
variable {gx:GX}
structure bX (gx:GX) (w:World) (p:Nat) (rv wv:Value) (ai wait:List (Int × Int)):Prop where
 hp:ak w p [gx.l,gx.ro,rv,wv,gx.y,gx.o,gx.m,gx.g] 86
 hr:Sl w 119 2 rv ai.length (aH ai)
 hw:Sl w 119 2 wv wait.length (aH wait)
 ap:∀ k,¬ (aq rv k/\aq wv k)
theorem bX.pr {w:World} {p:Nat} {rv wv:Value} {ai wait:List (Int × Int)} (h:bX gx w p rv wv ai wait):¬ aq rv p:=λhk=>by
 obtain ⟨_,cur,hc⟩:=h.hr.own hk;exact (hc.ne h.hp (by decide)) rfl
theorem bX.pw {w:World} {p:Nat} {rv wv:Value} {ai wait:List (Int × Int)} (h:bX gx w p rv wv ai wait):¬ aq wv p:=λhk=>by
 obtain ⟨_,cur,hc⟩:=h.hw.own hk;exact (hc.ne h.hp (by decide)) rfl
theorem bX.jX {w:World} {p:Nat} {rv wv:Value} {ai wait:List (Int × Int)} (h:bX gx w p rv wv ai wait) {k:Nat} (hk:aG p rv wv k):k<w.heap.size:=by
 rcases hk with rfl | hk | hk
 ·exact h.hp.lt
 ·exact (h.hr.own hk).1
 ·exact (h.hw.own hk).1
theorem bX.ab {w w':World} {p:Nat} {rv wv:Value} {ai wait:List (Int × Int)} {S:Nat->Prop} (h:bX gx w p rv wv ai wait) (k:aa S w w') (hn:∀ b,aG p rv wv b->¬ S b):bX gx w' p rv wv ai wait:=
 ⟨k.au h.hp (hn p (.inl rfl)),h.hr.ab k (λg hg=>hn g (.inr (.inl hg))),h.hw.ab k (λg hg=>hn g (.inr (.inr hg))),h.ap⟩
def sd (gx:GX) (w:World) (p:Nat) (rv wv:Value) (w':World) (ai wait:List (Int × Int)):Prop:=
 ∃ rv' wv',bX gx w' p rv' wv' ai wait/\aa (aG p rv wv) w w'/\∀ k,aG p rv' wv' k->aG p rv wv k\/w.heap.size<=k
theorem wI (p:Nat) (rv wv:Value) (ai wait:List (Int × Int)) (w:World) (h:bX gx w p rv wv ai wait) (h1:ai.length<=1000000) (h2:wait.length<=1000000) :
  Calls Tryz.prog 115 #[.pointer (some ⟨p,2,none⟩)] w λe w'=>e=.returned (.bool (decide (24<=ai.length+wait.length)))/\aa (λ_=>False) w w':=by
 obtain ⟨ro,rc,rfl,_,_,_⟩:=h.hr.rd;obtain ⟨wo,wc,rfl,_,_,_⟩:=h.hw.rd;have c0:w.cell? ⟨p,2,none⟩=_:=h.hp.cell 2;have c1:w.cell? ⟨p,3,none⟩=_:=h.hp.cell 3;simp only [Lz,aB] at c0 c1;have hw:IntKind.i64.wrap ((ai.length:Int)+(wait.length:Int))=(ai.length:Int)+(wait.length:Int):=IntWalk.i64_in _ (by omega);go_enter Tryz.func115,Tryz.ntmps115;go_wp2_with fail;refine cy [(0,0),(1,0),(2,0),(5,0),(6,0),(7,0),(3,0),(4,0),(8,0),(9,0),(10,0),(11,0),(12,0)] (λw'=>w'.cell? ⟨p,2,none⟩=some (.slice ro ai.length rc)/\w'.cell? ⟨p,3,none⟩=some (.slice wo wait.length wc)) (by kernel_rfl) (by kernel_rfl) ⟨c0,c1⟩ ?_
 iterate 13 (refine bp rfl rfl _ (λw' hG=>by obtain ⟨g0,g1⟩:=hG;go_simp;exact bA.mk _ _) (λK hK=>?_);go_simp;refine hK _ ?_;clear hK K)
 refine dE ?_;go_wp2_with fail;go_ret;refine ⟨de ?_,(aa.refl _ _).drew⟩;congr 1;simp only [eq_iff_iff];omega
theorem yA (p:Nat) (rv wv:Value) (ai wait:List (Int × Int)) (g t:Int) (w:World) (h:bX gx w p rv wv ai wait) (h1:ai.length<=1000000) (h2:wait.length<=1000000) (hf:24<=ai.length+wait.length) :
  Calls Tryz.prog 62 #[.pointer (some ⟨p,2,none⟩), .agg #[.int .i64 g, .int .i64 t]] w λe w'=>e=.returned (.bool false)/\aa (λ_=>False) w w':=by
 have H:=Hz (h.ab ((Kz w).alloc (.cells #[.int .i64 g, .int .i64 t] 119)) (λ_ _ h=>h));clear h;have hd:decide (24<=ai.length+wait.length)=true:=by simpa using hf
 go_enter Tryz.func62,Tryz.ntmps62;go_wp2_with fail;refine (wI p rv wv ai wait _ H.o h1 h2).mono ?_;rintro e w1 ⟨rfl,hk⟩;rw [hd];go_wp2_with fail;go_ret;exact ⟨rfl,((aa.refl _ _).alloc _).trans hk⟩
theorem yB (p:Nat) (rv wv:Value) (ai wait:List (Int × Int)) (g t:Int) (w:World) (h:bX gx w p rv wv ai wait) (h1:ai.length<=1000000) (h2:wait.length<=1000000) (hf:¬ 24<=ai.length+wait.length) :
  Calls Tryz.prog 62 #[.pointer (some ⟨p,2,none⟩), .agg #[.int .i64 g, .int .i64 t]] w λe w'=>e=.returned (.bool true)/\sd gx w p rv wv w' (ai ++ [(g,t)]) wait:=by
 obtain ⟨i0,hi,hz0,hz1,hz2⟩:=info_parts iF;have Hi:=Hz hi;have Hz0:=Hz hz0;have Hz1:=Hz hz1;have Hz2:=Hz hz2;clear hi hz0 hz1 hz2;have HW:=Hz h;have H:=Hz (h.ab ((Kz w).alloc (.cells #[.int .i64 g, .int .i64 t] 119)) (λ_ _ h=>h));have HB:=Hz (ak.newAt (w:=w) (b:=w.heap.size) (T:=119) #[.int .i64 g, .int .i64 t] rfl rfl);clear h;have hd:decide (24<=ai.length+wait.length)=false:=by simpa using hf
 obtain ⟨ro,rc,rfl,_,_,_⟩:=HW.o.hr.rd;go_enter Tryz.func62,Tryz.ntmps62;go_wp2_with fail;refine (wI p _ wv ai wait _ H.o h1 h2).mono ?_;rintro e w1 ⟨rfl,hk⟩;rw [hd];have HB1:=Hz (hk.au HB.o (λh=>h));have HW1:=Hz (H.o.ab hk (λ_ _ h=>h));have HK1:=Hz (((aa.refl (aG p (.slice ro ai.length rc) wv) w).alloc (.cells #[.int .i64 g, .int .i64 t] 119)).trans (hk.mono λ_ _ h=>h.elim));clear hk;have c0:=HW1.o.hp.cell 2;have b0:=HB1.o.cell 0;have b1:=HB1.o.cell 1;have f0:=HW1.o.hp.free 2;simp only [Lz,aB] at c0 b0 b1;go_wp2_with fail;refine cy [(0,0),(1,0),(2,0),(3,0),(4,0),(5,0),(6,1),(7,1),(8,0),(9,0),(10,2)] (λw'=>w'.cell? ⟨p,2,none⟩=some (.slice ro ai.length rc)/\w'.cell? ⟨w.heap.size,0,none⟩=some (.int .i64 g)/\w'.cell? ⟨w.heap.size,1,none⟩=some (.int .i64 t)) (by kernel_rfl) (by kernel_rfl) ⟨c0,b0,b1⟩ ?_
 iterate 6 (refine bp rfl rfl _ (λw' hG=>by obtain ⟨g0,g1,g2⟩:=hG;go_simp;exact bA.mk _ _) (λK hK=>?_);go_simp;refine hK _ ?_;clear hK K)
 refine bB rfl rfl (λK hK=>?_);unfold ax;go_simp;refine hK _ _ ?_ ?_
 ·have k:=(Kz w1).alloc (.cells #[.int .i64 g, .int .i64 t] 119);have b:=k.au HW1.o.hp (λh=>h);have b':=k.au HB1.o (λh=>h);exact ⟨b.cell 2,b'.cell 0,b'.cell 1⟩
 clear hK K;refine bB rfl rfl (λK hK=>?_);refine dN (.tmp 11) (.tmp 13) 82 rfl 119 i0 (.agg #[.int .i64 0, .int .i64 0]) 2 16 Tryz.underlying82 Hi.o Hz0.o Hz1.o Hz2.o rfl (by decide) _ ai.length (aH ai) rfl ?ha ⟨w1.heap.size,0,none⟩ 1 1 [.int .i64 g, .int .i64 t] rfl rfl ?hb ?hc ?hd ?he ?hf
 case ha=>exact HW1.o.hr.ab (((Kz w1).alloc _).drew) (λ_ _ h=>h)
 case hb=>exact bV w1 119 #[.int .i64 g, .int .i64 t]
 case hc=>intro u hu;simp at hu;rcases hu with rfl | rfl <;> rfl
 case hd=>unfold maxLen;omega
 case he=>omega
 case hf=>
  intro v2 w2 hs2 hk2 ho2;have hka:aa (λ_=>False) w1 ((w1.alloc (.cells #[.int .i64 g, .int .i64 t] 119)).drew):=((Kz w1).alloc _).drew;have hp2:=hk2.au (hka.au HW1.o.hp (λh=>h)) HW1.o.pr;have hw2:=(HW1.o.hw.ab hka (λ_ _ h=>h)).ab hk2 (λb hb hr=>HW1.o.ap b ⟨hr,hb⟩);have bG:=hk2.au (hka.au HB1.o (λh=>h)) (λhr=>by have:=(HW.o.hr.own hr).1;omega);refine hK _ _ ⟨hp2.cell 2,bG.cell 0,bG.cell 1⟩ ?_;clear hK K;have hs3:Sl w2 119 2 v2 (ai ++ [(g,t)]).length (aH (ai ++ [(g,t)])):=by simpa [aH] using hs2
  obtain ⟨vo,vc,rfl,_,_,_⟩:=hs3.rd;have HK2:Hd (aa (aG p (.slice ro ai.length rc) wv) w w2):=(HK1.o.trans (hka.mono λ_ _ h=>h.elim)).trans (hk2.mono λk _ hk=>.inr (.inl hk));have HO:Hd (∀ k,aq (.slice vo (ai ++ [(g,t)]).length vc) k->aq (.slice ro ai.length rc) k\/w.heap.size<=k):=λk hk=>by
   rcases ho2 k hk with h | h
   ·exact .inl h
   ·have:=HK1.o.size;simp at h;exact .inr (by omega)
  have HP:=Hz hp2;have HW2:=Hz hw2;have HS:=Hz hs3;have HWL:Hd (∀ k,aq wv k->k<w.heap.size):=λk hk=>(HW.o.hw.own hk).1;clear hs2 hk2 ho2 hka hp2 hw2 bG hs3;have d0:=HP.o.cell 2;have e0:=HP.o.free 2;simp only [Lz,aB] at d0
  iterate 2 (refine bp rfl rfl _ (λw' hG=>by obtain ⟨g0,g1,g2⟩:=hG;go_simp;exact bA.mk _ _) (λK hK=>?_);go_simp;refine hK _ ?_;clear hK K)
  refine kH rfl rfl (λK hK=>?_);unfold ax;go_simp;refine hK _ _ ?_;clear hK K;refine dE ?_;go_wp2_with fail;go_ret;refine ⟨rfl,_,_,⟨by simpa using HP.o.aE 2 _,HS.o.ab ((aa.refl (·=p) w2).setCell (p:=⟨p,2,none⟩) (.inl rfl) _) ?_,HW2.o.ab ((aa.refl (·=p) w2).setCell (p:=⟨p,2,none⟩) (.inl rfl) _) ?_,?_⟩,HK2.o.setCell (p:=⟨p,2,none⟩) (.inl (.inl rfl)) _,?_⟩
  ·rintro b hb rfl;obtain ⟨_,cur,hc⟩:=HS.o.own hb;exact (hc.ne HP.o (by decide)) rfl
  ·rintro b hb rfl;obtain ⟨_,cur,hc⟩:=HW2.o.own hb;exact (hc.ne HP.o (by decide)) rfl
  ·rintro k ⟨h1,h2⟩;rcases HO.o k h1 with h | h
   ·exact HW.o.ap k ⟨h,h2⟩
   ·have:=HWL.o k h2;omega
  ·rintro k (h | h | h)
   ·exact .inl (.inl h)
   ·rcases HO.o k h with h | h
    ·exact .inl (.inr (.inl h))
    ·exact .inr h
   ·exact .inl (.inr (.inr h))
end
section
open Go.RowKit
variable {gx:GX}
theorem yC (p:Nat) (rv wv:Value) (ai wait:List (Int × Int)) (x:Int) (w:World) (h:bX gx w p rv wv ai wait) (h2:wait.length<=1000000) (hf:¬ findG x wait<wait.length) :
  Calls Tryz.prog 63 #[.pointer (some ⟨p,2,none⟩), .int .i64 x] w λe w'=>e=.returned (.tuple #[.int .i64 0, .bool false])/\aa (λ_=>False) w w':=by
 obtain ⟨wo,wc,rfl,hrd,_,_⟩:=h.hw.rd;have hka:=(Kz w).alloc (.cells #[.int .i64 x] 2);have H:=Hz (h.ab hka (λ_ _ h=>h));have c1:=H.o.hp.cell 3;simp only [Lz,aB] at c1;have HR:=Hz (hrd.ab hka (λ_ _ _ h=>h));have HE:=Hz (show lA x wait=-1 by unfold lA;rw [if_neg hf]);have hbx:(w.alloc (.cells #[.int .i64 x] 2)).cell? ⟨w.heap.size,0,none⟩=some (.int .i64 x):=by simp
 have HBX:=Hz hbx;clear h hrd hka hf hbx;go_enter Tryz.func63,Tryz.ntmps63;go_wp2_with fail;refine (jY wo wc w.heap.size x wait _ HR.o HBX.o (by omega) (by simp)).mono ?_;rintro e w1 ⟨rfl,hk⟩;rw [HE.o];go_wp2_with fail;go_ret2;exact ⟨rfl,((aa.refl _ _).alloc _).trans hk⟩
theorem yD (p:Nat) (rv wv:Value) (ai wait:List (Int × Int)) (x:Int) (i m:Nat) (w:World) (h:bX gx w p rv wv ai wait) (h2:wait.length<=1000000) (hf:findG x wait=i) (hm:wait.length=i+1+m) :
  Calls Tryz.prog 63 #[.pointer (some ⟨p,2,none⟩), .int .i64 x] w λe w'=>e=.returned (.tuple #[.int .i64 (wait.getD i (0,0)).2, .bool true])/\sd gx w p rv wv w' ai (wait.eraseIdx i):=by
 have HW:=Hz h;have hka:=(Kz w).alloc (.cells #[.int .i64 x] 2);have h1:=h.ab hka (λ_ _ h=>h);obtain ⟨g,o,cap,cur,rfl,hb,hnc,hcm,hoc,hx⟩:=h1.hw.laid (by omega);obtain ⟨_,_,e,hrd,_,_⟩:=h1.hw.rd;cases e;have H:=Hz h1;have c1:=H.o.hp.cell 3;simp only [Lz,aB] at c1;have HR:=Hz hrd;have HE:=Hz (show lA x wait=(i:Int) by unfold lA;rw [hf,if_pos (by omega)]);have hbx:(w.alloc (.cells #[.int .i64 x] 2)).cell? ⟨w.heap.size,0,none⟩=some (.int .i64 x):=by simp
 have HBX:=Hz hbx;have HM:=Hz hm;have hcm':cap<=9223372036854775807:=by simpa [maxLen] using hcm
 have HX:=Hz hx;have HB:=Hz hb;have hlo:i+1+m<=wait.length:=by omega
 have h2':i+1+m<=1000000:=by omega
 have hlt:i<wait.length:=by omega
 clear h hrd hf hbx hm h1 hka hx hb hcm;go_enter Tryz.func63,Tryz.ntmps63;go_wp2_with fail;refine (jY (some ⟨g,o,none⟩) cap w.heap.size x wait _ HR.o HBX.o (by omega) (by simp)).mono ?_;rintro e w1 ⟨rfl,hk⟩;rw [HE.o];have HK1:=Hz (((aa.refl (aG p rv (.slice (some ⟨g,o,none⟩) wait.length cap)) w).alloc (.cells #[.int .i64 x] 2)).trans (hk.mono λ_ _ h=>h.elim));have H1:=Hz (H.o.ab hk (λ_ _ h=>h));have HB1:=Hz (hk.au HB.o (λh=>h));obtain ⟨g',o',e',_,d0,d1⟩:=((HR.o.ab hk (λ_ _ _ h=>h))).fZ i (by omega);cases e';clear hk c1;have c1:=H1.o.hp.cell 3;simp only [Lz,aB] at c1;have ht:(i:Int)<((wait.length:Nat):Int):=by omega
 generalize hv:wait.getD i (0,0)=v at *;have HV:=Hz hv;clear hv;go_wp2_with fail;rw [HM.o];refine (tQ g o cap i m wait cur _ HB1.o HM.o (by omega) hcm' hoc HX.o).mono ?_;rintro e w2 ⟨rfl,hs2,hk2⟩;have hpg:p≠g:=λe=>by subst e;exact (HB1.o.ne H1.o.hp (by decide)) rfl
 have HP2:=Hz (hk2.au H1.o.hp hpg);have HR2:=Hz (H1.o.hr.ab hk2 (by rintro b hb rfl;exact H1.o.ap b ⟨hb,rfl⟩));have HK2:Hd (aa (aG p rv (.slice (some ⟨g,o,none⟩) wait.length cap)) w w2):=HK1.o.trans (hk2.mono (by rintro k _ rfl;exact .inr (.inr rfl)));have HS2:=Hz hs2;have e1:=HP2.o.cell 3;have f1:=HP2.o.free 3;simp only [Lz,aB] at e1;clear hs2 hk2 c1 d0 d1;go_wp2_with fail;go_ret2;have hlen:(wait.eraseIdx i).length=i+m:=by rw [List.length_eraseIdx_of_lt hlt,HM.o];omega
 refine ⟨by rw [HV.o];rfl,rv, .slice (some ⟨g,o,none⟩) (i+m) cap,⟨by simpa using HP2.o.aE 3 _,HR2.o.ab ((aa.refl (·=p) w2).setCell (p:=⟨p,3,none⟩) (.inl rfl) _) ?_,?_,?_⟩,HK2.o.setCell (p:=⟨p,3,none⟩) (.inl (.inl rfl)) _,?_⟩
 ·rintro b hb rfl;exact HW.o.pr hb
 ·rw [hlen];exact HS2.o.ab ((aa.refl (·=p) w2).setCell (p:=⟨p,3,none⟩) (.inl rfl) _) (by rintro b hb rfl;simp [aq,Value.ownBlock] at hb;exact hpg hb.symm)
 ·rintro k ⟨a1,a2⟩;exact HW.o.ap k ⟨a1,a2⟩
 ·rintro k (a | a | a)
  ·exact .inl (.inl a)
  ·exact .inl (.inr (.inl a))
  ·exact .inl (.inr (.inr a))
theorem DU (p:Nat) (rv wv:Value) (ai wait:List (Int × Int)) (x:Int) (w:World) (h:bX gx w p rv wv ai wait) (h2:wait.length<=1000000) :
  Calls Tryz.prog 113 #[.pointer (some ⟨p,2,none⟩), .int .i64 x] w λe w'=>tS w e w' (gM x wait):=by
 obtain ⟨i0,hi,hz0,hz1,hz2⟩:=info_parts qP;have Hi:=Hz hi;have Hz0:=Hz hz0;have Hz1:=Hz hz1;have Hz2:=Hz hz2;clear hi hz0 hz1 hz2;obtain ⟨wo,wc,rfl,hrd,_,_⟩:=h.hw.rd;have c1:=h.hp.cell 3;simp only [Lz,aB] at c1;have H:=Hz h;have HR:=Hz hrd;clear h hrd;go_enter Tryz.func113,Tryz.ntmps113;go_wp2_with fail;go_loopw [5,13] (λv i wr=>∃ k:Nat,k<=wait.length/\i=.int .i64 k/\Sl wr 2 1 v (gM x (wait.take k)).length ((gM x (wait.take k)).map (Value.int .i64))/\aa (λ_=>False) w wr/\∀ k,aq v k->w.heap.size<=k) (λ_ i _=>wait.length-(intOf i).toNat)
 case atStart=>exact ⟨0,Zc _,rfl,by simpa [gM] using Sl.nil w 2 1,aa.refl _ _,by intro k hk;simp [aq,Value.ownBlock] at hk⟩
 case round=>
  obtain ⟨k,hk,rfl,hs,hkk,how⟩:=hrel;have HK:=Hz hkk;have HS:=Hz hs;have HO:=Hz how;clear hkk hs how;have hal:(gM x (wait.take k)).length<=k:=Za (qQ _ _) (List.length_take_le _ _);by_cases hlt:k<wait.length
  ·obtain ⟨g,o,rfl,_,d0,d1⟩:=((HR.o.ab HK.o (λ_ _ _ h=>h))).fZ k hlt;have HST:=Hz (tR (x:=x) hlt);generalize wait.getD k (0,0)=v at *;cases hv:(v.1 == x)
   ·go_wp2_with fail;go_roundw
    case rel=>exact ⟨k+1,by omega,by go_num,by rw [HST.o,hv];simpa using HS.o.ab ((Kz wr).alloc _) (λ_ _ h=>h),HK.o.alloc _,HO.o⟩
    case measure=>simp [intOf];omega
   ·go_wp2_with (at_builtin;refine cE rfl (.tmp 21) (.tmp 24) 73 rfl 2 i0 (.int .i64 0) 1 8 Tryz.underlying73 Hi.o Hz0.o Hz1.o Hz2.o rfl (by decide) _ (gM x (wait.take k)).length ((gM x (wait.take k)).map (Value.int .i64)) rfl ?ha ⟨wr.heap.size+1,0,none⟩ 1 1 [.int .i64 v.2] rfl rfl ?hb ?hc ?hd ?he ?hf)
    case ha=>exact HS.o.ab (((Kz wr).alloc _).alloc _) (λ_ _ h=>h)
    case hb=>
     have:=bV (wr.alloc (Obj.cells #[.int .i64 v.1, .int .i64 v.2] 119)) 2 #[.int .i64 v.2];simpa using this
    case hc=>intro u hu;simp at hu;subst hu;rfl
    case hd=>unfold maxLen;omega
    case he=>omega
    case hf=>
     intro v2 w2 hs2 hk2 ho2;have HK2:=Hz (((HK.o.alloc (Obj.cells #[.int .i64 v.1, .int .i64 v.2] 119)).alloc (Obj.cells #[.int .i64 v.2] 2)).then hk2 (λj hj=>.inr (HO.o j hj)));have HO2:Hd (∀ j,aq v2 j->w.heap.size<=j):=λj hj=>by
      rcases ho2 j hj with h | h
      ·exact HO.o j h
      ·have:=HK.o.size;first | omega | (simp at h;omega)
     have HS2:=Hz hs2;clear hs2 hk2 ho2;go_wp2_with fail;go_roundw
     case rel=>exact ⟨k+1,by omega,by go_num,by rw [HST.o,if_pos hv];simpa using HS2.o,HK2.o,HO2.o⟩
     case measure=>simp [intOf];omega
  ·obtain rfl:k=wait.length:=by omega
   go_wp2_with fail;go_ret;have hs:=HS.o;rw [List.take_length] at hs;obtain ⟨ao,cap,rfl,_,_,_⟩:=hs.rd;exact ⟨ao,cap,rfl,hs,HK.o,HO.o⟩
end
section
open Go.RowKit
variable {gx:GX}
theorem BA (p:Nat) (rv wv:Value) (ai wait:List (Int × Int)) (w:World) (h:bX gx w p rv wv ai wait) (h1:ai.length<=1000000) (h2:wait.length<=1000000) :
  Calls Tryz.prog 85 #[.pointer (some ⟨p,2,none⟩)] w λe w'=>vW w e w' ai wait:=by
 obtain ⟨ro,rc,rfl,_,_,_⟩:=h.hr.rd;obtain ⟨wo,wc,rfl,_,_,_⟩:=h.hw.rd;have c0:=h.hp.cell 2;have c1:=h.hp.cell 3;simp only [Lz,aB] at c0 c1;have H:=Hz h;clear h;go_enter Tryz.func85,Tryz.ntmps85;go_wp2_with fail;refine cy [(0,0),(1,0),(2,0),(5,0),(6,0),(7,0),(3,0),(8,0),(4,1),(9,1),(10,0),(11,1),(12,0)] (λw'=>w'.cell? ⟨p,2,none⟩=some (.slice ro ai.length rc)/\w'.cell? ⟨p,3,none⟩=some (.slice wo wait.length wc)) (by kernel_rfl) (by kernel_rfl) ⟨c0,c1⟩ ?_
 iterate 8 (refine bp rfl rfl _ (λw' hG=>by obtain ⟨g0,g1⟩:=hG;go_simp;exact bA.mk _ _) (λK hK=>?_);go_simp;refine hK _ ?_;clear hK K)
 refine bB rfl rfl (λK hK=>?_);unfold ax;go_simp;refine (py _ ai _ (H.o.hr.ab ((Kz w).drew) (λ_ _ h=>h)) h1).mono ?_;rintro e w1 ⟨ao,ac,rfl,hs,hk,ho⟩;have HK1:=Hz (((Kz w).drew).trans hk);have H1:=Hz (H.o.ab HK1.o (λ_ _ h=>h));have HS:=Hz hs;have HO:=Hz ho;have HSL:Hd (∀ k,aq (.slice ao ai.length ac) k->k<w1.heap.size):=λk hk=>(HS.o.own hk).1;clear hs hk ho;refine hK _ _ ⟨H1.o.hp.cell 2,H1.o.hp.cell 3⟩ ?_;clear hK K;refine bB rfl rfl (λK hK=>?_);unfold ax;go_simp;refine (py _ wait _ H1.o.hw h2).mono ?_;rintro e w2 ⟨bo,bc,rfl,hs,hk,ho⟩;have HK2:=Hz (HK1.o.trans hk);have H2:=Hz (H1.o.ab hk (λ_ _ h=>h));have HS1:=Hz (HS.o.ab hk (λ_ _ h=>h));have HS2:=Hz hs;have HO2:=Hz ho;have hsz:=HK1.o.size;clear hs hk ho HS;refine hK _ _ ⟨H2.o.hp.cell 2,H2.o.hp.cell 3⟩ ?_;clear hK K
 iterate 1 (refine bp rfl rfl _ (λw' hG=>by obtain ⟨g0,g1⟩:=hG;go_simp;exact bA.mk _ _) (λK hK=>?_);go_simp;refine hK _ ?_;clear hK K)
 refine bB rfl rfl (λK hK=>?_);unfold ax;go_simp;refine hK _ _ ?_ ?_
 ·have:=H2.o.hp.alloc (Obj.cells #[Value.slice ao ai.length ac,Value.slice bo wait.length bc] 84);exact ⟨this.cell 2,this.cell 3⟩
 clear hK K
 iterate 1 (refine bp rfl rfl _ (λw' hG=>by obtain ⟨g0,g1⟩:=hG;go_simp;exact bA.mk _ _) (λK hK=>?_);go_simp;refine hK _ ?_;clear hK K)
 refine dE ?_;go_wp2_with fail;go_ret;refine ⟨w2.heap.size, .slice ao ai.length ac, .slice bo wait.length bc,rfl,⟨.newAt _ rfl rfl,HS1.o.ab ((Kz w2).alloc _) (λ_ _ h=>h),HS2.o.ab ((Kz w2).alloc _) (λ_ _ h=>h),?_⟩,HK2.o.alloc _,?_⟩
 ·rintro k ⟨a1,a2⟩;have:=HO2.o k a2;have:=HSL.o k a1;omega
 ·rintro k (a | a | a)
  ·subst a;exact HK2.o.size
  ·exact HO.o k a
  ·exact Za hsz (HO2.o k a)
end
section
open Go.RowKit
variable {gx:GX}
structure fj (gx:GX) (P:Program) (p:Nat) (τ:Type) where
 J:World->τ->(Nat->Prop)->Prop
 D:τ->Int->Prop
 DK:τ->Int->Prop
 Q:Int × Int->Prop
 alive:τ->Int->Bool
 ab:τ->List (Int × Int)->Int->τ × List (Int × Int) × Int
 now:τ->Int->Int
 fa:FuncId
 fk:FuncId
 fn:FuncId
 a1:Array Value
 a2:Array Value
 k1:Array Value
 k2:Array Value
 n1:Array Value
 n2:Array Value
 ea:∀ (args:Array Value) (w:World),(callFunc fa args).run P w=.ok (.enter fa args) w
 ek:∀ (args:Array Value) (w:World),(callFunc fk args).run P w=.ok (.enter fk args) w
 en:∀ (args:Array Value) (w:World),(callFunc fn args).run P w=.ok (.enter fn args) w
 J_keep:∀ {w w' t F S},J w t F->aa S w w'->(∀ k,F k->¬ S k)->J w' t F
 J_lt:∀ {w t F k},J w t F->F k->k<w.heap.size
 cX:∀ (w t F x),J w t F->D t x->Calls P fa (a1.push (.int .i64 x) ++ a2) w λe w'=>e=.returned (.bool (alive t x))/\aa (λ_=>False) w w'
 now_c:∀ (w t F x),J w t F->D t x->Calls P fn (n1.push (.int .i64 x) ++ n2) w λe w'=>e=.returned (.int .i64 (now t x))/\aa (λ_=>False) w w'
 keep_c:∀ (w t F rv wv ai wait x),J w t F->bX gx w p rv wv ai wait->eG F p rv wv->DK t x->(∀ e ∈ wait,(D t e.1/\D t e.2)/\Q e)->wait.length<=1000000 ->
  Calls P fk (k1.push (.int .i64 x) ++ k2) w λe w'=>e=.returned (.int .i64 (ab t wait x).2.2)/\∃ F',J w' (ab t wait x).1 F'/\bX gx w' p rv wv ai (ab t wait x).2.1/\eG F' p rv wv /\
   aa (λk=>F k\/aG p rv wv k) w w'/\∀ k,F' k->F k\/w.heap.size<=k
 DK_D:∀ {t x},DK t x->D t x
 DK_keep:∀ {t wait x y},DK t x->DK t y->DK (ab t wait x).1 y
 D_keep:∀ {t wait x y},DK t x->D t y->D (ab t wait x).1 y
 D_new:∀ {t wait x},DK t x->D (ab t wait x).1 (ab t wait x).2.2
 D_wait:∀ {t wait x},DK t x->(∀ e ∈ wait,D t e.1/\D t e.2)->∀ e ∈ (ab t wait x).2.1,D (ab t wait x).1 e.1/\D (ab t wait x).1 e.2
 Q_new:∀ {t wait e},DK t e.2->Q e->Q (e.1,(ab t wait e.2).2.2)
 Q_wait:∀ {t wait x},(∀ e ∈ wait,Q e)->∀ e ∈ (ab t wait x).2.1,Q e
 keep_len:∀ {t wait x},(ab t wait x).2.1.length=wait.length
def fj.val {P:Program} {p:Nat} {τ:Type} (L:fj gx P p τ):Value:=
 .agg #[.func (.func L.fa) L.a1 L.a2, .func (.func L.fk) L.k1 L.k2, .func (.func L.fn) L.n1 L.n2]
end
section
open Go.RowKit
variable {gx:GX}
variable {τ:Type}
def fj.cells {P:Program} {p:Nat} (L:fj gx P p τ):List Value:=[.func (.func L.fa) L.a1 L.a2, .func (.func L.fk) L.k1 L.k2, .func (.func L.fn) L.n1 L.n2]
structure iB {P:Program} {p:Nat} (L:fj gx P p τ) (w:World) (F:Nat->Prop) (rv wv:Value) (b0 b1 b2:Nat) (items:List It) (q:List (Int × Int)) (t':τ) (F':Nat->Prop) (wv':Value) (wr:World):Prop where
 hJ:L.J wr t' F'
 hS:bX gx wr p rv wv' (items.map (·.1)) q
 hA:eG F' p rv wv'
 hK:aa (λb=>F b\/aG p rv wv b) w wr
 hF:∀ b,F' b->F b\/w.heap.size<=b
 hO:∀ b,aq wv' b->aq wv b\/w.heap.size<=b
 h0:ak wr b0 L.cells 135
 h1:ak wr b1 (items.map λi=>.bool i.2.1) 4
 h2:ak wr b2 (items.map λi=>.bool i.2.2) 4
 n0:¬ F' b0
 n1:¬ F' b1
 n2:¬ F' b2
 g0:w.heap.size<=b0
 g1:w.heap.size<=b1
 g2:w.heap.size<=b2
 b12:b1≠b2
 hq:∀ e ∈ q,(L.D t' e.1/\L.D t' e.2)/\L.Q e
 hr:∀ i ∈ items,(L.D t' i.1.1/\L.DK t' i.1.2)/\L.Q i.1
theorem bX.oh {w:World} {p b:Nat} {rv wv:Value} {ai wait:List (Int × Int)} {c:List Value} {T:TypeId} (h:bX gx w p rv wv ai wait) (hb:ak w b c T) (h1:T≠86) (h2:T≠119):¬ aG p rv wv b:=by
 rintro (rfl | h' | h')
 ·exact hb.ne h.hp h1 rfl
 ·obtain ⟨_,cur,hc⟩:=h.hr.own h';exact hb.ne hc h2 rfl
 ·obtain ⟨_,cur,hc⟩:=h.hw.own h';exact hb.ne hc h2 rfl
section
variable {P:Program} {p:Nat} {L:fj gx P p τ} {w:World} {F:Nat->Prop} {rv wv:Value} {b0 b1 b2:Nat} {items:List It} {q:List (Int × Int)} {t':τ} {F':Nat->Prop} {wv':Value} {wr:World}
theorem iB.ab {w2:World} (h:iB L w F rv wv b0 b1 b2 items q t' F' wv' wr) (k:aa (λ_=>False) wr w2):iB L w F rv wv b0 b1 b2 items q t' F' wv' w2:=
 ⟨L.J_keep h.hJ k (λ_ _ h=>h),h.hS.ab k (λ_ _ h=>h),h.hA,h.hK.trans (k.mono λ_ _ h=>h.elim),h.hF,h.hO,k.au h.h0 (λh=>h),k.au h.h1 (λh=>h),k.au h.h2 (λh=>h),h.n0,h.n1,h.n2,h.g0,h.g1,h.g2,h.b12,h.hq,h.hr⟩
theorem iB.move {i:It} {a b:List It} (h:iB L w F rv wv b0 b1 b2 (a ++ i :: b) q t' F' wv' wr):iB L w F rv wv b0 b1 b2 (a ++ (i.1,i.2.1,true) :: b) q t' F' wv' (wr.setCell ⟨b2,a.length,none⟩ (.bool true)):=by
 have k:=(aa.refl (·=b2) wr).setCell (p:=⟨b2,a.length,none⟩) (.inl rfl) (.bool true);have hn:¬ aG p rv wv' b2:=h.hS.oh h.h2 (by decide) (by decide);refine ⟨L.J_keep h.hJ k (by rintro b hb rfl;exact h.n2 hb),?_,h.hA,h.hK.setCell (p:=⟨b2,a.length,none⟩) (.inr h.g2) _,h.hF,h.hO,k.au h.h0 (λe=>?_),?_,?_,h.n0,h.n1,h.n2,h.g0,h.g1,h.g2,h.b12,h.hq,?_⟩
 ·have:=h.hS.ab k (by rintro b hb rfl;exact hn hb);simpa using this
 ·subst e;exact h.h0.ne h.h2 (by decide) rfl
 ·have:=k.au h.h1 h.b12;simpa using this
 ·have:=h.h2.aE a.length (.bool true);simpa using this
 ·intro j hj;simp only [List.mem_append,List.mem_cons] at hj;rcases hj with hj | rfl | hj
  ·exact h.hr j (by simp [hj])
  ·exact h.hr i (by simp)
  ·exact h.hr j (by simp [hj])
theorem iB.kept {x:Int} {w2:World} {F2:Nat->Prop} (h:iB L w F rv wv b0 b1 b2 items q t' F' wv' wr) (hx:L.DK t' x)
  (hJ:L.J w2 (L.ab t' q x).1 F2) (hS:bX gx w2 p rv wv' (items.map (·.1)) (L.ab t' q x).2.1) (hA:eG F2 p rv wv') (hk:aa (λk=>F' k\/aG p rv wv' k) wr w2) (hF2:∀ k,F2 k->F' k\/wr.heap.size<=k) :
  iB L w F rv wv b0 b1 b2 items (L.ab t' q x).2.1 (L.ab t' q x).1 F2 wv' w2:=by
 have out:∀ {b:Nat} {c:List Value} {T:TypeId},ak wr b c T->¬ F' b->T≠86->T≠119->ak w2 b c T/\¬ F2 b:=λ{b c T} hb hn h1 h2=>
  ⟨hk.au hb (by rintro (h3 | h3);exact hn h3;exact h.hS.oh hb h1 h2 h3),λh3=>by
   rcases hF2 _ h3 with h4 | h4
   ·exact hn h4
   ·have:=hb.lt;omega⟩
 refine ⟨hJ,hS,hA,h.hK.then hk ?_,?_,h.hO,(out h.h0 h.n0 (by decide) (by decide)).1,(out h.h1 h.n1 (by decide) (by decide)).1,(out h.h2 h.n2 (by decide) (by decide)).1,
  (out h.h0 h.n0 (by decide) (by decide)).2,(out h.h1 h.n1 (by decide) (by decide)).2,(out h.h2 h.n2 (by decide) (by decide)).2,h.g0,h.g1,h.g2,h.b12,λe he=>⟨L.D_wait hx (λe he=>(h.hq e he).1) e he,L.Q_wait (λe he=>(h.hq e he).2) e he⟩,λi hi=>⟨⟨L.D_keep hx (h.hr i hi).1.1,L.DK_keep hx (h.hr i hi).1.2⟩,(h.hr i hi).2⟩⟩
 ·rintro b (hb | hb | hb | hb)
  ·rcases h.hF b hb with h1 | h1
   ·exact .inl (.inl h1)
   ·exact .inr h1
  ·exact .inl (.inr (.inl hb))
  ·exact .inl (.inr (.inr (.inl hb)))
  ·rcases h.hO b hb with h1 | h1
   ·exact .inl (.inr (.inr (.inr h1)))
   ·exact .inr h1
 ·intro b hb;rcases hF2 b hb with h1 | h1
  ·exact h.hF b h1
  ·exact .inr (Za h.hK.size h1)
theorem iB.app {e:Int × Int} {w2:World} {v2:Value} (h:iB L w F rv wv b0 b1 b2 items q t' F' wv' wr) (he:(L.D t' e.1/\L.D t' e.2)/\L.Q e)
  (hs:Sl w2 119 2 v2 (q ++ [e]).length (aH (q ++ [e]))) (hk:aa (aq wv') wr w2) (ho:∀ k,aq v2 k->aq wv' k\/wr.heap.size<=k) :
  iB L w F rv wv b0 b1 b2 items (q ++ [e]) t' F' v2 (w2.setCell ⟨p,3,none⟩ v2):=by
 have hkp:=(aa.refl (·=p) w2).setCell (p:=⟨p,3,none⟩) (.inl rfl) v2;have hpw:=h.hS.pw;have hp2:=hk.au h.hS.hp hpw;have hFp:¬ F' p:=λhb=>h.hA p ⟨hb, .inl rfl⟩;have out:∀ {b:Nat} {c:List Value} {T:TypeId},ak wr b c T->T≠86->T≠119->ak (w2.setCell ⟨p,3,none⟩ v2) b c T:=λ{b c T} hb h1 h2=>by
  have hn:=h.hS.oh hb h1 h2;exact hkp.au (hk.au hb (λh3=>hn (.inr (.inr h3)))) (λh3=>hn (.inl h3))
 have hv2p:¬ aq v2 p:=λhb=>by
  obtain ⟨_,cur,hc⟩:=hs.own hb;exact hp2.ne hc (by decide) rfl
 refine ⟨L.J_keep (L.J_keep h.hJ hk (λb hb h1=>h.hA b ⟨hb, .inr (.inr h1)⟩)) hkp (by rintro b hb rfl;exact hFp hb),⟨by simpa using hp2.aE 3 v2,?_,?_,?_⟩,?_,?_,h.hF,?_,out h.h0 (by decide) (by decide),out h.h1 (by decide) (by decide),out h.h2 (by decide) (by decide),
  h.n0,h.n1,h.n2,h.g0,h.g1,h.g2,h.b12,?_,h.hr⟩
 ·exact (h.hS.hr.ab hk (λb hb h1=>h.hS.ap b ⟨hb,h1⟩)).ab hkp (by rintro b hb rfl;exact h.hS.pr hb)
 ·exact hs.ab hkp (by rintro b hb rfl;exact hv2p hb)
 ·rintro b ⟨h1,h2⟩;rcases ho b h2 with h3 | h3
  ·exact h.hS.ap b ⟨h1,h3⟩
  ·have:=(h.hS.hr.own h1).1;omega
 ·rintro b ⟨h1,h2 | h2 | h2⟩
  ·exact h.hA b ⟨h1, .inl h2⟩
  ·exact h.hA b ⟨h1, .inr (.inl h2)⟩
  ·rcases ho b h2 with h3 | h3
   ·exact h.hA b ⟨h1, .inr (.inr h3)⟩
   ·have:=L.J_lt h.hJ h1;omega
 ·refine (h.hK.then hk (λb hb=>?_)).setCell (p:=⟨p,3,none⟩) (.inl (.inr (.inl rfl))) _;rcases h.hO b hb with h1 | h1
  ·exact .inl (.inr (.inr (.inr h1)))
  ·exact .inr h1
 ·intro b hb;rcases ho b hb with h1 | h1
  ·exact h.hO b h1
  ·exact .inr (Za h.hK.size h1)
 ·intro e' he';simp only [List.mem_append,List.mem_singleton] at he';rcases he' with he' | rfl
  ·exact h.hq _ he'
  ·exact he
end
def gW {P:Program} {p:Nat} (L:fj gx P p τ) (w:World) (F:Nat->Prop) (rv wv:Value) (b0 b1 b2:Nat) (t1:τ) (q1:List (Int × Int)) (items:List It) (N:Nat) (wr:World) (k:Nat) (more:Bool):Prop:=
 ∃ t' q' F' wv' done,done.length=k/\iB L w F rv wv b0 b1 b2 (done ++ items.drop k) q' t' F' wv' wr/\q'.length+cN (done ++ items.drop k)<=N /\
  scanM L.alive L.ab t1 q1 items=((scanM L.alive L.ab t' q' (items.drop k)).1,(scanM L.alive L.ab t' q' (items.drop k)).2.1,done ++ (scanM L.alive L.ab t' q' (items.drop k)).2.2.1,more || (scanM L.alive L.ab t' q' (items.drop k)).2.2.2)
theorem gW.skip {P:Program} {p:Nat} {L:fj gx P p τ} {w:World} {F:Nat->Prop} {rv wv:Value} {b0 b1 b2:Nat} {t1:τ} {q1:List (Int × Int)} {items:List It} {N:Nat} {wr w2:World} {k:Nat} {more:Bool}
  {t':τ} {q':List (Int × Int)} {F':Nat->Prop} {wv':Value} {done:List It} {i:It} (hd:done.length=k) (hdr:items.drop k=i :: items.drop (k+1)) (hm:iB L w F rv wv b0 b1 b2 (done ++ i :: items.drop (k+1)) q' t' F' wv' wr) (hN:q'.length+cN (done ++ i :: items.drop (k+1))<=N)
  (he:scanM L.alive L.ab t1 q1 items=((scanM L.alive L.ab t' q' (i :: items.drop (k+1))).1,(scanM L.alive L.ab t' q' (i :: items.drop (k+1))).2.1,done ++ (scanM L.alive L.ab t' q' (i :: items.drop (k+1))).2.2.1,more || (scanM L.alive L.ab t' q' (i :: items.drop (k+1))).2.2.2))
  (hk2:aa (λ_=>False) wr w2) (hc:((i.2.1 && !i.2.2) && L.alive t' i.1.1)=false):gW L w F rv wv b0 b1 b2 t1 q1 items N w2 (k+1) more:=by
 have e:done ++ i :: items.drop (k+1)=(done ++ [i]) ++ items.drop (k+1):=by simp
 refine ⟨t',q',F',wv',done ++ [i],by simp [hd],?_,?_,?_⟩
 ·rw [<-e];exact hm.ab hk2
 ·rw [<-e];exact hN
 ·rw [he];simp only [scanM,hc,if_neg (show ¬ (false=true) by decide),List.append_assoc,List.cons_append,List.nil_append]
theorem gW.zJ {P:Program} {p:Nat} {L:fj gx P p τ} {w:World} {F:Nat->Prop} {rv wv:Value} {b0 b1 b2:Nat} {t1:τ} {q1:List (Int × Int)} {items:List It} {N:Nat} {w2:World} {k:Nat} {more:Bool}
  {t':τ} {q':List (Int × Int)} {F2:Nat->Prop} {v2:Value} {done:List It} {i:It} (hd:done.length=k) (hN:q'.length+cN (done ++ i :: items.drop (k+1))<=N)
  (he:scanM L.alive L.ab t1 q1 items=((scanM L.alive L.ab t' q' (i :: items.drop (k+1))).1,(scanM L.alive L.ab t' q' (i :: items.drop (k+1))).2.1,done ++ (scanM L.alive L.ab t' q' (i :: items.drop (k+1))).2.2.1,more || (scanM L.alive L.ab t' q' (i :: items.drop (k+1))).2.2.2))
  (hm:iB L w F rv wv b0 b1 b2 (done ++ (i.1,i.2.1,true) :: items.drop (k+1)) ((L.ab t' q' i.1.2).2.1 ++ [(i.1.1,(L.ab t' q' i.1.2).2.2)]) (L.ab t' q' i.1.2).1 F2 v2 w2)
  (hc:((i.2.1 && !i.2.2) && L.alive t' i.1.1)=true):gW L w F rv wv b0 b1 b2 t1 q1 items N w2 (k+1) true:=by
 have e:done ++ (i.1,i.2.1,true) :: items.drop (k+1)=(done ++ [(i.1,i.2.1,true)]) ++ items.drop (k+1):=by simp
 refine ⟨(L.ab t' q' i.1.2).1,(L.ab t' q' i.1.2).2.1 ++ [(i.1.1,(L.ab t' q' i.1.2).2.2)],F2,v2,done ++ [(i.1,i.2.1,true)],by simp [hd],?_,?_,?_⟩
 ·rw [<-e];exact hm
 ·rw [<-e];simp only [Zr,Bool.not_eq_true'] at hc;simp only [Zq,L.keep_len,wi,iW,hc.1.2] at hN ⊢;simp at hN ⊢;omega
 ·rw [he];simp only [scanM,hc,if_true,List.append_assoc,List.cons_append,List.nil_append,Bool.or_true,Bool.true_or]
end
section
def cm (t:List Bool × List Nat) (v:Vl):List Bool × List Nat:=if v.1=3/\aw t.1 v.2=false then (t.1.set v.2.toNat true,t.2 ++ [v.2.toNat]) else t
def cL (l:List Bool):Nat:=(l.map λb=>if b then 0 else 1).sum
theorem uM:∀ {l:List Bool} {i:Nat},i<l.length->l.getD i false=false->cL (l.set i true)+1=cL l
 | [],i,h,_=>by simp at h
 | b :: l,0,_,h=>by
  have hb:b=false:=by simpa using h
  subst hb;simp [cL];omega
 | b :: l,i+1,h,h2=>by
  have ih:=uM (l:=l) (i:=i) (by simpa using h) (by simpa using h2);have e1:cL ((b :: l).set (i+1) true)=(if b then 0 else 1)+cL (l.set i true):=by simp [cL]
  have e2:cL (b :: l)=(if b then 0 else 1)+cL l:=by simp [cL]
  omega
def iJ (W:Wd) (is:List Bool) (i:Int):Prop:=
 (((W.th i).k=1\/(W.th i).k=2)->∀ v ∈ (W.th i).fs,v.1=3->aw is v.2=true)/\((W.th i).k=3->∀ v,(W.th i).fs[1]? = some v->v.1=3->aw is v.2=true)
def j5 (W:Wd) (is:List Bool) (i:Int):Prop:=
 aw is i=true->(W.th i).k=4->bY is ((W.th i).fs.getD 0 (0,0))=true->∀ v,(W.th i).fs[1]? = some v->v.1=3->aw is v.2=true
def ry (is:List Bool) (e:Int × Int):Prop:=aw is e.1=true->aw is e.2=true
structure GI (W:Wd) (q:List (Int × Int)) (s0:List Bool) (E:Int->Prop) (t:List Bool × List Nat):Prop where
 len:t.1.length=W.T.length
 up:∀ i,aw s0 i=true->aw t.1 i=true
 al:∀ i,aw t.1 i=true->cO W.nd q (λk=>aw s0 k=true) i
 lv:∀ i,aw t.1 i=true->W.live i
 nx:∀ k ∈ t.2,aw t.1 ((k:Nat):Int)=true
 nd:t.2.Nodup
 lk:∀ i,aw t.1 i=true->i.toNat ∉ t.2->¬ E i->iJ W t.1 i
theorem iJ.mono {W:Wd} {is is':List Bool} {i:Int} (h:iJ W is i) (hs:∀ k,aw is k=true->aw is' k=true):iJ W is' i:=
 ⟨λhk v hv h3=>hs _ (h.1 hk v hv h3),λhk v hv h3=>hs _ (h.2 hk v hv h3)⟩
section
variable {W:Wd} {q:List (Int × Int)} {s0:List Bool} {E:Int->Prop} {t:List Bool × List Nat}
theorem qp (hl:t.1.length=W.T.length) (v:Vl) (hv:v.1=3->W.live v.2):∀ i,aw t.1 i=true->aw (cm t v).1 i=true:=by
 intro i hi;unfold cm;split
 ·rename_i h;have hlv:=hv h.1;exact (gU hlv.1 (by rw [hl];exact hlv.2.1)).2 (.inr hi)
 ·exact hi
theorem kU {v:Vl} (h:(cm t v).2=[]):cm t v=t:=by
 unfold cm at h ⊢;split
 ·rename_i hc;rw [if_pos hc] at h;simp at h
 ·rfl
theorem l7 {v:Vl} (h:(cm t v).2=[]):t.2=[]:=by rw [kU h] at h;exact h
theorem jR (hl:t.1.length=W.T.length) (v:Vl) (hv:v.1=3->W.live v.2) (h3:v.1=3):aw (cm t v).1 v.2=true:=by
 have hlv:=hv h3;unfold cm;split
 ·exact (gU hlv.1 (by rw [hl];exact hlv.2.1)).2 (.inl rfl)
 ·rename_i hc;cases h:aw t.1 v.2
  ·exact absurd ⟨h3,h⟩ hc
  ·rfl
theorem kV (hl:t.1.length=W.T.length) (v:Vl) (hv:v.1=3->W.live v.2):2*cL (cm t v).1+(cm t v).2.length<=2*cL t.1+t.2.length/\cL (cm t v).1<=cL t.1/\((cm t v).2=t.2\/cL (cm t v).1<cL t.1)/\t.2.length<=(cm t v).2.length:=by
 unfold cm;split
 ·rename_i h;have hlv:=hv h.1;have hlt:v.2.toNat<t.1.length:=by rw [hl];have:=hlv.1;have:=hlv.2.1;omega
  have hf:t.1.getD v.2.toNat false=false:=by rw [c8 hlv.1];exact h.2
  have:=uM hlt hf;simp only [Zq,List.length_singleton];exact ⟨by omega,by omega, .inr (by omega),by omega⟩
 ·exact ⟨Zb _,Zb _, .inl rfl,Zb _⟩
theorem GI.mark (G:GI W q s0 E t) {v:Vl} (hv:v.1=3->W.live v.2/\cO W.nd q (λk=>aw s0 k=true) v.2):GI W q s0 E (cm t v):=by
 have hup:=qp G.len v (λh=>(hv h).1);unfold cm at hup ⊢;split
 ·rename_i h;rw [if_pos h] at hup;obtain ⟨hlv,hal⟩:=hv h.1;have hset:=λi=>gU (is:=t.1) (x:=v.2) (i:=i) hlv.1 (by rw [G.len];exact hlv.2.1);have hnm:v.2.toNat ∉ t.2:=λhm=>by
   have:=G.nx _ hm;rw [show ((v.2.toNat:Nat):Int)=v.2 by have:=hlv.1;omega,h.2] at this;cases this
  refine ⟨by simp [G.len],λi hi=>hup i (G.up i hi),λi hi=>?_,λi hi=>?_,λk hk=>?_,?_,λi hi hn he=>?_⟩
  ·rcases (hset i).1 hi with rfl | h1
   ·exact hal
   ·exact G.al i h1
  ·rcases (hset i).1 hi with rfl | h1
   ·exact hlv
   ·exact G.lv i h1
  ·rcases Zk.1 hk with h1 | h1
   ·exact hup _ (G.nx k h1)
   ·simp at h1;subst h1;exact (hset _).2 (.inl (by have:=hlv.1;omega))
  ·rw [List.nodup_append];exact ⟨G.nd,by simp,λa ha b hb=>by simp at hb;subst hb;rintro rfl;exact hnm ha⟩
  ·simp only [List.mem_append,List.mem_singleton,not_or] at hn;rcases (hset i).1 hi with rfl | h1
   ·exact absurd rfl hn.2
   ·exact (G.lk i h1 hn.1 he).mono hup
 ·exact G
theorem GI.mJ (G:GI W q s0 E t):t.2.length<=W.T.length:=by
 have h:∀ k ∈ t.2,k<W.T.length:=λk hk=>by have:=(G.lv _ (G.nx k hk)).2.1;omega
 have:=List.Nodup.length_le_of_subset (l₁:=t.2) (l₂:=List.range W.T.length) G.nd (λk hk=>List.mem_range.2 (h k hk));simpa using this
theorem GI.pop {is:List Bool} {k:Nat} {r:List Nat} (G:GI W q s0 (λ_=>False) (is,k :: r)):GI W q s0 (λi=>i=(k:Int)) (is,r):=
 ⟨G.len,G.up,G.al,G.lv,λj hj=>G.nx j (by simp [hj]),(List.nodup_cons.1 G.nd).2,λi hi hn he=>G.lk i hi (by
  simp only [List.mem_cons,not_or];refine ⟨λe=>he ?_,hn⟩
  have:=(G.lv i hi).1;omega) (λh=>h)⟩
theorem GI.done {k:Nat} (G:GI W q s0 (λi=>i=(k:Int)) t) (h:iJ W t.1 (k:Int)):GI W q s0 (λ_=>False) t:=
 ⟨G.len,G.up,G.al,G.lv,G.nx,G.nd,λi hi hn _=>by
  by_cases e:i=(k:Int)
  ·subst e;exact h
  ·exact G.lk i hi hn e⟩
theorem GI.closed {is:List Bool} (hok:W.ok) (G:GI W q s0 (λ_=>False) (is,[])) (hs:s0.length=W.T.length) (he:∀ i:Nat,i<W.T.length->j5 W is (i:Int)) (hw:∀ e ∈ q,ry is e):is=W.cY q s0:=by
 refine Bh (by rw [hs];exact G.len) G.up G.al (λa b ha hl=>?_);have hlk:=G.lk a ha (by simp) (λh=>h);have hlv:=G.lv a ha;rcases hl with ⟨h1,h2⟩ | ⟨h1,h2⟩ | ⟨h1,h2,h3⟩ | ⟨h1,h2⟩
 ·exact hlk.1 h1 (3,b) h2 rfl
 ·exact hlk.2 h1 (3,b) h2 rfl
 ·have:=he a.toNat (by have:=hlv.1;have:=hlv.2.1;omega);rw [show ((a.toNat:Nat):Int)=a by have:=hlv.1;omega] at this;refine this ha h1 ?_ (3,b) h2 rfl;have h2':(W.th a).fs[1]? = some (3,b):=h2;have h0:1<(W.th a).fs.length:=(Zj.1 h2').1;have e0:(W.th a).fs[0]? = some (W.th a).fs[0]:=Le (by omega);unfold bY;rw [Ld,e0];dsimp only [Option.getD_some];by_cases h4:((W.th a).fs[0]).1=3
  ·simp [h3 _ e0 h4]
  ·simp [h4]
 ·exact hw (a,b) h2 ha
end
end
section
structure MI (W:Wd) (X:Int->Prop) (t:List Bool × List Nat):Prop where
 len:t.1.length=W.T.length
 eq:∀ i,aw t.1 i=true↔X i
 lv:∀ i,aw t.1 i=true->W.live i
 nx:∀ k ∈ t.2,aw t.1 ((k:Nat):Int)=true
 nd:t.2.Nodup
 al:∀ i,aw t.1 i=true->i.toNat ∈ t.2
section
variable {W:Wd} {X Y:Int->Prop} {t:List Bool × List Nat} {is:List Bool} {q:List (Int × Int)} {major:Bool}
theorem MI.congr (M:MI W X t) (h:∀ i,X i↔Y i):MI W Y t:=⟨M.len,λi=>(M.eq i).trans (h i),M.lv,M.nx,M.nd,M.al⟩
theorem MI.mark (M:MI W X t) {v:Vl} (hv:v.1=3->W.live v.2):MI W (λi=>X i\/(v.1=3/\i=v.2)) (cm t v):=by
 unfold cm;split
 ·rename_i h;have hlv:=hv h.1;have hset:=λi=>gU (is:=t.1) (x:=v.2) (i:=i) hlv.1 (by rw [M.len];exact hlv.2.1);have hnm:v.2.toNat ∉ t.2:=λhm=>by
   have:=M.nx _ hm;rw [show ((v.2.toNat:Nat):Int)=v.2 by have:=hlv.1;omega,h.2] at this;cases this
  refine ⟨by simp [M.len],λi=>?_,λi hi=>?_,λk hk=>?_,?_,λi hi=>?_⟩
  ·rw [hset i,M.eq i];constructor
   ·rintro (h1 | h1)
    ·exact .inr ⟨h.1,h1⟩
    ·exact .inl h1
   ·rintro (h1 | h1)
    ·exact .inr h1
    ·exact .inl h1.2
  ·rcases (hset i).1 hi with rfl | h1
   ·exact hlv
   ·exact M.lv i h1
  ·rcases Zk.1 hk with h1 | h1
   ·exact (hset _).2 (.inr (M.nx k h1))
   ·simp at h1;subst h1;exact (hset _).2 (.inl (by have:=hlv.1;omega))
  ·rw [List.nodup_append];exact ⟨M.nd,by simp,λa ha b hb=>by simp at hb;subst hb;rintro rfl;exact hnm ha⟩
  ·rcases (hset i).1 hi with rfl | h1
   ·simp
   ·exact Zk.2 (.inl (M.al i h1))
 ·rename_i h;refine M.congr λi=>⟨.inl,λh1=>?_⟩;rcases h1 with h1 | ⟨h1,rfl⟩
  ·exact h1
  ·rw [<-M.eq];cases e:aw t.1 v.2
   ·exact absurd ⟨h1,e⟩ h
   ·rfl
theorem MI.gi (M:MI W X t):GI W q t.1 (λ_=>False) t:=
 ⟨M.len,λi h=>h,λi h=>cO.base h,M.lv,M.nx,M.nd,λi hi hn _=>absurd (M.al i hi) hn⟩
theorem MI.mJ (M:MI W X t):t.2.length<=W.T.length:=(M.gi (q:=[])).mJ
def X1 (W:Wd) (major:Bool) (n:Nat) (i:Int):Prop:=0<=i/\i<n/\(W.th i).aK=true/\(W.th i).dead=false/\major=false
def X2 (W:Wd) (major:Bool) (k:Nat) (i:Int):Prop:=X1 W major W.T.length i\/((3,i):Vl) ∈ W.roots.take k
theorem MI.zero:MI W (X1 W major 0) (List.replicate W.T.length false,[]):=by
 have hf:∀ i,aw (List.replicate W.T.length false) i=false:=λi=>by
  unfold aw;rw [Ld,List.getElem?_replicate];split <;> simp
 refine ⟨by simp,λi=>?_,λi hi=>?_,λk hk=>?_,by simp,λi hi=>?_⟩
 ·dsimp only;rw [hf];exact ⟨λh=>(by cases h),λh=>by have:=h.1;have:=h.2.1;omega⟩
 ·dsimp only at hi;rw [hf] at hi;cases hi
 ·simp at hk
 ·dsimp only at hi;rw [hf] at hi;cases hi
theorem MI.aK {n:Nat} (M:MI W (X1 W major n) t) (hn:n<W.T.length) (h:(W.th (n:Int)).aK=true/\(W.th (n:Int)).dead=false/\major=false):MI W (X1 W major (n+1)) (cm t (3,(n:Int))):=by
 refine (M.mark (v:=(3,(n:Int))) (λ_=>⟨by simp,by simpa using hn,h.2.1⟩)).congr λi=>?_;unfold X1;constructor
 ·rintro (⟨h0,h1,h2⟩ | ⟨_,h1⟩)
  ·exact ⟨h0,by omega,h2⟩
  ·have h1:i=(n:Int):=h1;subst h1;exact ⟨by omega,by omega,h⟩
 ·rintro ⟨h0,h1,h2⟩;by_cases e:i=(n:Int)
  ·exact .inr ⟨rfl,e⟩
  ·exact .inl ⟨h0,by omega,h2⟩
theorem MI.aA {n:Nat} (M:MI W (X1 W major n) t) (h:¬ ((W.th (n:Int)).aK=true/\(W.th (n:Int)).dead=false/\major=false)):MI W (X1 W major (n+1)) t:=by
 refine M.congr λi=>?_;unfold X1;constructor
 ·rintro ⟨h0,h1,h2⟩;exact ⟨h0,by omega,h2⟩
 ·rintro ⟨h0,h1,h2⟩;refine ⟨h0,?_,h2⟩;by_cases e:i=(n:Int)
  ·subst e;exact absurd h2 h
  ·omega
theorem MI.Da (M:MI W (X1 W major W.T.length) t):MI W (X2 W major 0) t:=M.congr λi=>by unfold X2;simp
theorem MI.root {k:Nat} (M:MI W (X2 W major k) t) (hok:W.ok) (hk:k<W.roots.length):MI W (X2 W major (k+1)) (cm t (W.roots.getD k (0,0))):=by
 have hm:W.roots.getD k (0,0) ∈ W.roots:=by rw [Ld,Le hk];exact Ze hk
 refine (M.mark (v:=W.roots.getD k (0,0)) (λh3=>Wd.aY (hok.rv _ hm) h3)).congr λi=>?_;have e:W.roots.take (k+1)=W.roots.take k ++ [W.roots.getD k (0,0)]:=by rw [<-List.take_append_getElem hk,Ld,Le hk];rfl
 unfold X2;rw [e,List.mem_append,List.mem_singleton];constructor
 ·rintro ((h | h) | ⟨h,h'⟩)
  ·exact .inl h
  ·exact .inr (.inl h)
  ·exact .inr (.inr (by rw [h',<-h]))
 ·rintro (h | h | h)
  ·exact .inl (.inl h)
  ·exact .inl (.inr h)
  ·rw [<-h];exact .inr ⟨rfl,rfl⟩
theorem MI.first {k:Nat} (M:MI W (X2 W major k) t) (hk:W.roots.length<=k):t.1=W.first major:=by
 refine wj (by rw [M.len,Wd.gj]) λi h0 h1=>?_;rw [M.eq,Wd.gC];unfold X2 X1;rw [List.take_of_length_le hk];rw [M.len] at h1;constructor
 ·rintro (⟨_,_,h⟩ | h)
  ·exact ⟨h0,h1, .inl h⟩
  ·exact ⟨h0,h1, .inr h⟩
 ·rintro ⟨_,_,h | h⟩
  ·exact .inl ⟨h0,h1,h⟩
  ·exact .inr h
structure l8 (W:Wd) (is:List Bool):Prop where
 len:is.length=W.T.length
 lv:∀ i,aw is i=true->W.live i
 lk:∀ i,aw is i=true->iJ W is i
theorem iJ.of_closed (hs:cv W.nd q λk=>aw is k=true) {i:Int} (hi:aw is i=true):iJ W is i:=by
 refine ⟨λhk v hv h3=>hs i v.2 hi (.inl ⟨hk,?_⟩),λhk v hv h3=>hs i v.2 hi (.inr (.inl ⟨hk,?_⟩))⟩
 ·rw [<-h3];exact hv
 ·rw [<-h3];exact hv
theorem l8.cY (hok:W.ok) (hq:∀ e ∈ q,W.dL e) (hl:is.length=W.T.length) (hv:∀ i,aw is i=true->W.live i):l8 W (W.cY q is):=by
 have hlv:∀ i,aw (W.cY q is) i=true->W.live i:=λi hi=>(da.1 hi).2.2.least hv (Wd.jk hok hq);refine ⟨by unfold Wd.cY;rw [fp,hl],hlv,λi hi=>iJ.of_closed (q:=q) (λi j hi hj=>?_) hi⟩;have hlv':=Wd.jk hok hq i j (hlv i hi) (hj.mono (λk hk=>hlv k hk) (λ_ h=>h));refine da.2 ⟨hlv'.1,by rw [hl];exact hlv'.2.1,?_⟩;exact cO.closed _ _ _ i j (da.1 hi).2.2 (hj.mono (λk hk=>(da.1 hk).2.2) (λ_ h=>h))
theorem ta:∀ {l:List Bool} {i:Nat},l.getD i false=true->l.set i true=l
 | [],i,h=>rfl
 | b :: l,0,h=>by
  have:b=true:=by simpa using h
  subst this;rfl
 | b :: l,i+1,h=>by simp [ta (l:=l) (i:=i) (by simpa using h)]
theorem l8.mark (S:l8 W is) {x:Int} (hx:W.live x):(cm (is,[]) (3,x)).1=is.set x.toNat true/\GI W q (is.set x.toNat true) (λ_=>False) (cm (is,[]) (3,x)):=by
 have hset:=λi=>gU (is:=is) (x:=x) (i:=i) hx.1 (by rw [S.len];exact hx.2.1);unfold cm;dsimp only;cases h:aw is x
 ·rw [if_pos ⟨rfl,rfl⟩];refine ⟨rfl,by simp [S.len],λi h=>h,λi h=>cO.base h,λi hi=>?_,λk hk=>?_,by simp,λi hi hn _=>?_⟩
  ·rcases (hset i).1 hi with rfl | h1
   ·exact hx
   ·exact S.lv i h1
  ·simp at hk;subst hk;exact (hset _).2 (.inl (by have:=hx.1;omega))
  ·rcases (hset i).1 hi with rfl | h1
   ·simp at hn
   ·exact (S.lk i h1).mono (λk hk=>(hset k).2 (.inr hk))
 ·rw [if_neg (λh=>by cases h.2)];have e:is.set x.toNat true=is:=ta (by rw [c8 hx.1];exact h);rw [e];exact ⟨rfl,S.len,λi h=>h,λi h=>cO.base h,S.lv,λk hk=>by simp at hk,by simp,λi hi _ _=>S.lk i hi⟩
def fY (is:List Bool) (br:Bool) (v:Vl):Vl:=if br=true\/bY is v=false then (2,0) else v
def iK (is:List Bool) (t:Th):Bool:=decide (t.k=4/\bY is (t.fs.getD 0 (0,0))=false)
theorem zQ (h:W.ok) (hs:cv W.nd q λk=>aw is k=true) {i:Int} (hi:W.live i) (hb:aw is i=true) :
  dB is i.toNat (W.th i)=⟨(W.th i).k,(W.th i).fs.map (fY is (iK is (W.th i))),true,false⟩:=by
 have hF:=pJ h hs hi hb;have hf:=h.tk i hi;unfold dB at hF ⊢;rw [if_pos (by rw [c8 hi.1];exact hb)] at hF ⊢;dsimp only at hF;rw [hi.2.2];congr 1;by_cases hc4:(W.th i).k=4/\bY is ((W.th i).fs.getD 0 (0,0))=false
 ·rw [if_pos hc4];have:iK is (W.th i)=true:=by unfold iK;simpa using hc4
  rw [this];rw [hc4.1] at hf;simp [bj] at hf;obtain ⟨a,b,e⟩:∃ a b,(W.th i).fs=[a,b]:=by
   match hx:(W.th i).fs,hf with
   | [a,b],_=>exact ⟨a,b,rfl⟩
  rw [e];simp [fY]
 have Eb:iK is (W.th i)=false:=by unfold iK;simpa using hc4
 rw [if_neg hc4] at hF ⊢;rw [Eb];by_cases hc3:(W.th i).k=3/\bY is ((W.th i).fs.getD 0 (0,0))=false
 ·rw [if_pos hc3] at hF ⊢;rw [hc3.1] at hf;simp [bj] at hf;obtain ⟨a,b,e⟩:∃ a b,(W.th i).fs=[a,b]:=by
   match hx:(W.th i).fs,hf with
   | [a,b],_=>exact ⟨a,b,rfl⟩
  have h0:=hc3.2;rw [e] at hF h0 ⊢;simp only [List.getD_cons_zero,List.getD_cons_succ] at hF h0 ⊢;have bG:=hF b (by simp);simp only [Zs,List.map_nil,fY];rw [if_pos (.inr h0)];rcases bG with rfl | ⟨_,bG⟩
  ·split <;> rfl
  ·rw [if_neg (by rw [bG];simp)]
 ·rw [if_neg hc3] at hF ⊢;have e:(W.th i).fs.map (fY is false)=(W.th i).fs.map id:=Zf λv hv=>by
   unfold fY;rcases hF v hv with rfl | ⟨_,h⟩
   ·split <;> rfl
   ·rw [if_neg (by rw [h];simp)];rfl
  rw [e,List.map_id]
end
end
section
open Go.RowKit
theorem BC (n:Nat) (hn:n<=12) (w:World):Calls Tryz.prog 138 #[.int .u64 1, .int .u64 n] w λe w'=>e=.returned (.tuple #[.int .u64 0, .int .u64 n])/\w=w':=by
 have h:n=0\/n=1\/n=2\/n=3\/n=4\/n=5\/n=6\/n=7\/n=8\/n=9\/n=10\/n=11\/n=12:=by omega
 rcases h with rfl | rfl | rfl | rfl | rfl | rfl | rfl | rfl | rfl | rfl | rfl | rfl | rfl <;>
 ·go_enter Tryz.func138,Tryz.ntmps138;go_wp2_with fail;go_ret2;exact ⟨rfl,rfl⟩
theorem DV (n:Nat) (hn:n<=12) (w:World):Calls Tryz.prog 101 #[.int .u64 1, .int .u64 n] w λe w'=>e=.returned (.tuple #[.int .u64 0, .int .u64 n])/\w=w':=by
 have HM:=Hz (BC n hn);have hnn:(n:Int)<=12:=by omega
 go_enter Tryz.func101,Tryz.ntmps101;go_wp2_with fail;refine (HM.o _).mono ?_;rintro e w1 ⟨rfl,rfl⟩;go_wp2_with fail;go_ret2;exact ⟨rfl,rfl⟩
theorem uN {P:Program} {w:World} {ops:Array Oper} {rest:List Oper} {o:Oper} {a:Act} {Q:Exit->Act->World->Prop} (hgd:o.guard=none) (d s:Operand) (t:TypeId)
  (ho:o.op=.call { callee:=.builtin .copy,args:=#[d,s],argTypes:=#[t,t] })
  (e:TypeId) (hu:P.underlying t=some (.slice e)) (hsz:(P.info? e).map (·.size)=some 1)
  (g off dLen dCap:Nat) (ad:Addr) (sLen sCap:Nat) (hd:a.eval d=.slice (some ⟨g,off,none⟩) dLen dCap) (hs:a.eval s=.slice (some ad) sLen sCap)
  (cur:List Value) (hb:ak w g cur e) (cs:List Value) (hn:cs.length=Nat.min sLen dLen)
  (hsrc:∀ j v,cs[j]? = some v->w.cell? (ad.add j)=some v) (hfit:off+cs.length<=cur.length) (h1:∀ v ∈ cs,v.oneCell'=true)
  (h:wpList P ops Q rest (a.put o.dst (goInt cs.length)) (w.setRow g (cur.take off ++ cs ++ cur.drop (off+cs.length)).toArray)):wpList P ops Q (o :: rest) a w:=by
 refine wpList_plain hgd λ_ hK=>?_;have hrun:=run_copy_row (P:=P) w t t o.type e g off dLen dCap ad sLen sCap cur.toArray e cs hu hsz hb hn hsrc (by simpa using hfit) h1;unfold Oper.wp execOp;simp only [ho,resolve,invoke,builtin,Sem.run_bind,Sem.run_pure,Result.andThen_ok,List.map_toArray,Zs,List.map_nil,hd,hs,hrun];exact hK _ _ h
def dU (a:Int) (n k:Nat):List Value:=List.replicate k (.int .i64 a) ++ List.replicate (n-k) (.int .i64 0)
theorem qq {a:Int} {n k:Nat} (h:k<=n):(dU a n k).length=n:=by simp [dU];omega
theorem oQ {a:Int} {n k c:Nat} (h:k+c<=n):(dU a n k).take k ++ List.replicate c (.int .i64 a) ++ (dU a n k).drop (k+c)=dU a n (k+c):=by
 unfold dU;rw [List.take_append_of_le_length (by simp),List.take_of_length_le (by simp),List.drop_append,List.drop_eq_nil_of_le (by simp),List.nil_append,List.drop_replicate,List.replicate_append_replicate];congr 2;simp;omega
theorem BE {a:Int} {n k j:Nat} (hk:k<=n) (h:j<k):(dU a n k)[j]? = some (.int .i64 a):=by
 unfold dU;rw [List.getElem?_append_left (by simpa using h),List.getElem?_replicate,if_pos h]
theorem zR (a:Int) (n g o cap:Nat) (hn:n<=12) (w:World) (hc:w.cell? ⟨g,o,none⟩=some (.int .i64 a)) (hg:g<w.heap.size) :
  Calls Tryz.prog 40 #[.slice (some ⟨g,o,none⟩) 1 cap, .int .i64 n] w λe w'=>∃ b:Nat,e=.returned (.slice (some ⟨b,0,none⟩) n n)/\Sl w' 3 1 (.slice (some ⟨b,0,none⟩) n n) n (List.replicate n (.int .i64 a))/\aa (λ_=>False) w w'/\w.heap.size<=b:=by
 obtain ⟨i0,hi,hz0,hz1,hz2⟩:=info_parts ic;have hmk:=λ(wx:World)=>dV (P:=Tryz.prog) wx 27 3 i0 (.int .i64 0) Tryz.underlying27 hi hz0 rfl hz1 n (by rw [hz2];omega) (by omega);clear hi hz0 hz1 hz2;have HM:=Hz (DV n hn);have hnn:(n:Int)<=12:=by omega
 have HMK:=Hz hmk;clear hmk;have hmk:=HMK.o;go_enter Tryz.func40,Tryz.ntmps40;go_wp2_with fail;refine (HM.o _).mono ?_;rintro e w1 ⟨rfl,rfl⟩;go_upto_region 7 with fail
 have hb:ak (w.alloc (.cells (Array.replicate n (.int .i64 0)) 3)) w.heap.size (dU a n 0) 3:=ak.newAt _ rfl (by simp [dU]);have ka:=(Kz w).alloc (.cells (Array.replicate n (.int .i64 0)) 3);have hc2:(w.alloc (.cells (Array.replicate n (.int .i64 0)) 3)).cell? ⟨g,o,none⟩=some (.int .i64 a):=by
  rw [<-hc];exact World.cell?_of_block (w:=w) (a:=⟨g,o,none⟩) (ka.block g hg (λh=>h))
 have HB:=Hz hb;have KA:=Hz ka;have HC:=Hz hc2;have HSZ:=Hz (show w.heap.size<=w.heap.size from Zb _);clear hb ka hc hc2 hg hmk HMK HM;generalize w.alloc (.cells (Array.replicate n (.int .i64 0)) 3)=w2 at *;obtain ⟨b,hbb⟩:∃ b,w.heap.size=b:=⟨_,rfl⟩;rw [hbb] at HB;rw [hbb];have HBB:=Hz hbb;clear hbb;have hm1:(List.replicate (min 1 n) (Value.int .i64 a)).length=min 1 n:=by simp
 have HSRC:=Hz (show ∀ j v,(List.replicate (min 1 n) (Value.int .i64 a))[j]? = some v->w2.cell? ((⟨g,o,none⟩:Addr).add j)=some v from λj v hj=>by
  rw [List.getElem?_replicate] at hj;split at hj
  ·have e:j=0:=by omega
   subst e;cases hj;exact HC.o
  ·cases hj)
 have HFIT:=Hz (show 0+(List.replicate (min 1 n) (Value.int .i64 a)).length<=(dU a n 0).length by rw [qq (Nat.zero_le _),hm1];omega);have HONE:=Hz (show ∀ v ∈ List.replicate (min 1 n) (Value.int .i64 a),v.oneCell'=true from λv hv=>by rw [(List.mem_replicate.1 hv).2];rfl);have HLN:=Hz (show (List.replicate (min 1 n) (Value.int .i64 a)).length=Nat.min 1 n from hm1);have HROW:=Hz (show w2.setRow b ((dU a n 0).take 0 ++ List.replicate (min 1 n) (Value.int .i64 a) ++ (dU a n 0).drop (0+(List.replicate (min 1 n) (Value.int .i64 a)).length)).toArray=w2.setRow b (dU a n (0+min 1 n)).toArray by rw [hm1,oQ (by omega)]);clear hm1;go_upto_region 8 with (refine uN rfl (.tmp 31) (.tmp 32) 27 rfl 3 Tryz.underlying27 (by kernel_rfl) b 0 n n ⟨g,o,none⟩ 1 cap rfl rfl (dU a n 0) HB.o _ HLN.o HSRC.o HFIT.o HONE.o ?_)
 have e3:w2.setRow b (List.replicate (min 1 n) (Value.int .i64 a) ++ (dU a n 0).drop (min 1 n)).toArray=w2.setRow b (dU a n (min 1 n)).toArray:=by
  have:=oQ (a:=a) (n:=n) (k:=0) (c:=min 1 n) (by omega);simp only [List.take_zero,List.nil_append,Nat.zero_add] at this;rw [this]
 rw [e3];have HB3:=Hz (HB.o.setRow (dU a n (min 1 n)));have K3:=Hz (KA.o.setRow (g:=b) (.inr (by rw [HBB.o];exact Zb _)) (dU a n (min 1 n)).toArray);clear e3 HROW HLN HONE HFIT HSRC HB KA HC;generalize w2.setRow b (dU a n (min 1 n)).toArray=w3 at *;go_loopw [8] (λu wr=>∃ k:Nat,k<=n/\(n=0\/1<=k)/\u=.int .i64 k/\ak wr b (dU a n k) 3/\aa (λ_=>False) w wr) (λu _=>n-(intOf u).toNat)
 case atStart=>exact ⟨min 1 n,by omega,by omega,rfl,HB3.o,K3.o⟩
 case round=>
  clear HB3 K3;obtain ⟨k,hk,hk1,rfl,hB,hK2⟩:=hrel;have BR:=Hz hB;have KR:=Hz hK2;clear hB hK2;by_cases hlt:k<n
  ·have hki:(k:Int)<n:=by omega
   have hk0:(0:Int)<=k:=by omega
   obtain ⟨c,hc⟩:∃ c,min k (n-k)=c:=⟨_,rfl⟩;have hc1:1<=c/\k+c<=n/\c<=k:=by omega
   have HM2:=Hz (show (List.replicate c (Value.int .i64 a)).length=Nat.min k (n-k) by rw [List.length_replicate];exact hc.symm);have HSRC:=Hz (show ∀ j v,(List.replicate c (Value.int .i64 a))[j]? = some v->wr.drew.cell? ((⟨b,0,none⟩:Addr).add j)=some v from λj v hj=>by
    rw [List.getElem?_replicate] at hj;split at hj
    ·cases hj;rw [fw,BR.o.drew.cell,Nat.zero_add];exact BE hk (by omega)
    ·cases hj)
   have HFIT:=Hz (show k+(List.replicate c (Value.int .i64 a)).length<=(dU a n k).length by rw [qq hk,List.length_replicate];omega);have HONE:=Hz (show ∀ v ∈ List.replicate c (Value.int .i64 a),v.oneCell'=true from λv hv=>by rw [(List.mem_replicate.1 hv).2];rfl);have HROW:=Hz (show wr.drew.setRow b ((dU a n k).take k ++ List.replicate c (Value.int .i64 a) ++ (dU a n k).drop (k+(List.replicate c (Value.int .i64 a)).length)).toArray=wr.drew.setRow b (dU a n (k+c)).toArray by rw [List.length_replicate,oQ hc1.2.1]);have hnk:n-k≠0:=by omega
   have hwr:IntKind.i64.wrap ((k:Int)+c)=(k:Int)+c:=IntWalk.i64_in _ (by omega);go_wp2_with fail;refine Rz (ftq [0,1,2,3,4,5,6] (.run 7 (.swi [] (.free 8 (.free 9 (.fin)))))) [7,8,9] (λ_=>True) trivial ?_
   iterate 7 refine Wz ?_
   refine aD rfl rfl rfl (λK hK=>?_);rw [if_neg (show ¬ n=k by omega)];refine oB (.tmp 41) (.tmp 44) 27 rfl 3 Tryz.underlying27 (by kernel_rfl) b k (n-k) (n-k) ⟨b,0,none⟩ k n rfl rfl (dU a n k) BR.o.drew (List.replicate c (.int .i64 a)) HM2.o HSRC.o HFIT.o HONE.o ?_;rw [HROW.o];have BN:=Hz (BR.o.drew.setRow (dU a n (k+c)));have KN:=Hz (KR.o.drew.setRow (g:=b) (.inr (by rw [HBB.o];exact Zb _)) (dU a n (k+c)).toArray);clear HROW HONE HFIT HSRC HM2 BR KR;generalize wr.drew.setRow b (dU a n (k+c)).toArray=w4 at *;refine hK _ _ ?_;clear hK K;refine aC (λ_=>True) trivial ?_
   iterate 2 refine Wz ?_
   refine av ?_;go_wp2_with fail;go_roundw
   case rel=>exact ⟨k+c,hc1.2.1, .inr (by omega),by go_num,BN.o,KN.o⟩
   case measure=>simp [intOf];omega
  ·obtain rfl:k=n:=by omega
   go_wp2_with fail;go_ret;refine ⟨b,rfl,⟨by simp, .inr ⟨b,0,k,_,rfl,BR.o,Zb _,by unfold maxLen;omega,by rw [qq (Nat.le_refl _)];omega,?_⟩⟩,KR.o,by rw [HBB.o];exact Zb _⟩;unfold dU;simp
end
section
section
variable {O:Wo} {W:Wd} {φ:Int->Int}
theorem Wd.bC.room (h:W.bC) (hok:W.ok) (n:Int):(W.room n).2.bC:=by
 unfold Wd.room;split
 ·exact h.cut hok _
 ·exact h
theorem Wd.bC.bz (h:W.bC) (hok:W.ok) {r k:Int} {l:List Int} (hk:k=1\/k=2):(W.bz r k l).2.bC:=by
 unfold Wd.bz;split
 ·exact (h.room hok _).put hk
 ·exact h
theorem Wd.bC.do (h:W.bC) (hok:W.ok) {x:St} (h6:x.k≠6) (h7:x.k≠7) (h8:x.k≠8):(W.do x).2.bC:=by
 unfold Wd.do
 by_cases hc:bu x=0
 ·rw [if_pos hc];unfold Wd.step;by_cases h1:x.k=1;· rw [if_pos h1];exact h.bF _ _
  rw [if_neg h1];by_cases h2:x.k=2;· rw [if_pos h2];exact h.bF _ _
  rw [if_neg h2];by_cases h3:x.k=3;· rw [if_pos h3];exact h.bF _ _
  rw [if_neg h3];by_cases h4:x.k=4;· rw [if_pos h4];exact h.bz hok (.inl rfl)
  rw [if_neg h4];by_cases h5:x.k=5;· rw [if_pos h5];exact h.bz hok (.inr rfl)
  rw [if_neg h5,if_neg h6,if_neg h7,if_neg h8];by_cases h9:x.k=9
  ·rw [if_pos h9];unfold Wd.eZ;rw [if_pos (.inr (h.guard hok _))];exact h
  rw [if_neg h9];by_cases h10:x.k=10
  ·rw [if_pos h10];unfold Wd.pop;rw [if_pos (h.guard hok _)];exact h
  rw [if_neg h10];by_cases h11:x.k=11
  ·rw [if_pos h11];unfold Wd.get;split
   ·exact h.bF _ _
   ·exact h
  rw [if_neg h11];by_cases h12:x.k=12
  ·rw [if_pos h12];unfold Wd.set;split
   ·rename_i hf;exact h.cK (Wd.dg hok (Wd.iY hf).1)
   ·exact h
  rw [if_neg h12];by_cases h13:x.k=13
  ·rw [if_pos h13];unfold Wd.len;split
   ·exact h
   ·exact h.bF _ _
  rw [if_neg h13];by_cases h14:x.k=14;· rw [if_pos h14];exact h.bF _ _
  rw [if_neg h14];by_cases h15:x.k=15;· rw [if_pos h15];exact h.cut hok _
  rw [if_neg h15];exact h.cut hok _
 ·rw [if_neg hc];exact h
end
end
section
structure dz (W V:Wd) (P:Int->Prop):Prop where
 rt:V.roots=W.roots
 len:V.T.length=W.T.length
 P0:∀ u ∈ W.roots,u.1=3->P u.2
 sh:∀ i,P i->∀ v ∈ (W.th i).fs,v.1=3->P v.2
 lv:∀ i,P i->W.live i/\V.live i/\(V.th i).k=(W.th i).k/\(V.th i).fs=(W.th i).fs
section
variable {W V:Wd} {P:Int->Prop}
theorem dz.symm (A:dz W V P):dz V W P:=⟨A.rt.symm,A.len.symm,λu hu=>A.P0 u (by rw [<-A.rt];exact hu),λi hi v hv=>A.sh i hi v (by rw [<-(A.lv i hi).2.2.2];exact hv),λi hi=>⟨(A.lv i hi).2.1,(A.lv i hi).1,(A.lv i hi).2.2.1.symm,(A.lv i hi).2.2.2.symm⟩⟩
theorem dz.cut (A:dz W V P) (hw:W.ok) (hs:W.bC) (b:Bool):∃ Q,dz (W.cut b).2 V Q:=by
 unfold Wd.cut;split
 ·exact ⟨P,A⟩
 split
 ·exact ⟨P,A⟩
 have m:=(Wd.eR hw b).1;have key:∀ i,P i/\aw (W.pass b).1 i=true->((W.after b).th i).k=(W.th i).k/\((W.after b).th i).fs=(W.th i).fs:=λi hi=>by
  have hl:=m.live i hi.2;rw [Wd.gD hl.1 hl.2.1];have:=pO (is:=(W.pass b).1) (i:=i.toNat) (t:=W.th i) (by rw [c8 hl.1];exact hi.2) (hs.k i hl);exact ⟨this.2,this.1⟩
 refine ⟨λi=>P i/\aw (W.pass b).1 i=true,A.rt,by rw [Wd.ko];exact A.len,λu hu h3=>⟨A.P0 u hu h3,?_⟩,λi hi v hv h3=>?_,λi hi=>?_⟩
 ·have hu:u ∈ W.roots:=hu;refine m.first _ (Wd.gC.2 ?_)
  have hl:=Wd.aY (hw.rv u hu) h3;have e:u=(3,u.2):=by cases u;dsimp only at h3;subst h3;rfl
  exact ⟨hl.1,hl.2.1, .inr (by rw [<-e];exact hu)⟩
 ·rw [(key i hi).2] at hv;exact ⟨A.sh i hi.1 v hv h3,hs.s9 hw b hi.2 hv h3⟩
 ·have k:=key i hi;exact ⟨(Wd.fg hw).2 hi.2,(A.lv i hi.1).2.1,(A.lv i hi.1).2.2.1.trans k.1.symm,(A.lv i hi.1).2.2.2.trans k.2.symm⟩
theorem dz.room (A:dz W V P) (hw:W.ok) (hs:W.bC) (n:Int):∃ Q,dz (W.room n).2 V Q:=by
 unfold Wd.room;split
 ·exact A.cut hw hs _
 ·exact ⟨P,A⟩
theorem mem_set {l:List Vl} {k:Nat} {v u:Vl} (h:u ∈ l.set k v):u ∈ l\/u=v:=by
 rcases List.mem_or_eq_of_mem_set h with h | h
 ·exact .inl h
 ·exact .inr h
theorem dz.put (A:dz W V P) (r k:Int) {l:List Vl} (hl:∀ v ∈ l,v.1=3->P v.2):dz (W.put r k l) (V.put r k l) λi=>P i\/i=W.T.length:=by
 refine ⟨by simp [Wd.put,A.rt,A.len],by simp [Wd.put,A.len],λu hu h3=>?_,λi hi v hv h3=>?_,λi hi=>?_⟩
 ·rcases mem_set hu with h | rfl
  ·exact .inl (A.P0 u h h3)
  ·exact .inr rfl
 ·rcases hi with h | rfl
  ·have hv':=hv;rw [Wd.iN (A.lv i h).1.1 (A.lv i h).1.2.1] at hv';exact .inl (A.sh i h v hv' h3)
  ·rw [Wd.dt] at hv;exact .inl (hl v hv h3)
 ·rcases hi with h | rfl
  ·have a:=A.lv i h;refine ⟨Wd.ik a.1,Wd.ik a.2.1,?_⟩;rw [Wd.iN a.1.1 a.1.2.1,Wd.iN a.2.1.1 a.2.1.2.1];exact a.2.2
  ·have e:(V.put r k l).th (W.T.length:Int)=⟨k,l,false,false⟩:=by rw [<-A.len];exact Wd.dt
   refine ⟨⟨by omega,by simp [Wd.put];omega,by rw [Wd.dt]⟩,⟨by omega,by simp [Wd.put,A.len];omega,by rw [e]⟩,?_⟩;rw [Wd.dt,e];exact ⟨rfl,rfl⟩
theorem dz.bF (A:dz W V P) (r:Int) {v:Vl} (hv:v.1=3->P v.2):dz (W.bF r v) (V.bF r v) P:=⟨by simp [Wd.bF,A.rt],A.len,λu hu h3=>by
 rcases mem_set hu with h | rfl
 ·exact A.P0 u h h3
 ·exact hv h3,A.sh,A.lv⟩
theorem dz.cK (A:dz W V P) {j:Int} {fs:List Vl} (hj:P j) (hf:∀ v ∈ fs,v.1=3->P v.2):dz (W.cK j fs) (V.cK j fs) P:=by
 have aj:=A.lv j hj;refine ⟨A.rt,by rw [qo,qo];exact A.len,A.P0,λi hi v hv h3=>?_,λi hi=>?_⟩
 ·rw [Wd.gV (A.lv i hi).1.1 aj.1] at hv;split at hv
  ·exact hf v hv h3
  ·exact A.sh i hi v hv h3
 ·have a:=A.lv i hi;refine ⟨(Wd.fq aj.1 i).2 a.1,(Wd.fq aj.2.1 i).2 a.2.1,?_⟩;rw [Wd.gV a.1.1 aj.1,Wd.gV a.1.1 aj.2.1];split
  ·exact ⟨aj.2.2.1,rfl⟩
  ·exact a.2.2
theorem dz.wJ (A:dz W V P) (k:Int):V.rt k=W.rt k:=by unfold Wd.rt;rw [A.rt]
theorem dz.ah (A:dz W V P) (k:Int):V.ah k=W.ah k:=by unfold Wd.ah;rw [A.wJ]
theorem dz.AG (A:dz W V P) {k:Int} (h:(W.rt k).1=3):P (W.rt k).2:=by
 refine A.P0 _ ?_ h;unfold Wd.rt at h ⊢;rw [Ld] at h ⊢;cases e:W.roots[k.toNat]? with
 | none=>rw [e] at h;simp at h
 | some u=>exact Zh e
theorem dz.mK (A:dz W V P) {k:Int} (h:¬ W.ah k<0):P (W.ah k):=by
 unfold Wd.ah at h ⊢;by_cases h3:(W.rt k).1=3
 ·rw [if_pos h3];exact A.AG h3
 ·rw [if_neg h3] at h;simp at h
theorem Wd.zS (W:Wd) (b:Bool):(W.cut b).1=0\/(W.cut b).1=3:=by
 unfold Wd.cut;split
 ·exact .inr rfl
 ·split
  ·exact .inr rfl
  ·exact .inl rfl
theorem Wd.l9 (W:Wd) (r k:Int) (l:List Int):(W.bz r k l).1=0\/(W.bz r k l).1=3:=by
 unfold Wd.bz;split
 ·exact .inl rfl
 ·rename_i h;have:(W.room (1+l.length)).1=0\/(W.room (1+l.length)).1=3:=by
   unfold Wd.room;split
   ·exact W.zS _
   ·exact .inl rfl
  exact .inr (this.resolve_left h)
theorem dz.bz (A:dz W V P) (hw:W.ok) (hv:V.ok) (ws:W.bC) (vs:V.bC) {r k:Int} {l:List Int} (h0:(W.bz r k l).1=0) (h1:(V.bz r k l).1=0):∃ Q,dz (W.bz r k l).2 (V.bz r k l).2 Q:=by
 obtain ⟨Q,B⟩:=A.room hw ws (1+l.length);obtain ⟨Q,B⟩:=B.symm.room hv vs (1+l.length);unfold Wd.bz at h0 h1 ⊢;by_cases c0:(W.room (1+l.length)).1=0
 ·by_cases c1:(V.room (1+l.length)).1=0
  ·rw [if_pos c0,if_pos c1];dsimp only;have e:l.map (V.room (1+l.length)).2.rt=l.map (W.room (1+l.length)).2.rt:=by
    refine Zf λa _=>?_;exact B.symm.wJ a
   rw [e];refine ⟨_,B.symm.put r k λv hv h3=>?_⟩;obtain ⟨a,-,rfl⟩:=Zi.1 hv;exact B.symm.AG h3
  ·rw [if_neg c1] at h1;exact absurd h1 c1
 ·rw [if_neg c0] at h0;exact absurd h0 c0
theorem dz.DY (A:dz W V P) (ws:W.bC) {k:Int} (h:¬ W.ah k<0):(W.th (W.ah k)).k≠5:=by
 rcases ws.k _ (A.lv _ (A.mK h)).1 with e | e <;> rw [e] <;> decide
theorem dz.bP (A:dz W V P) (x:St):V.bP x=W.bP x:=by
 unfold Wd.bP;rw [A.ah];by_cases h:W.ah x.a<0
 ·rw [if_pos (.inl h),if_pos (.inl h)]
 ·rw [(A.lv _ (A.mK h)).2.2.1,(A.lv _ (A.mK h)).2.2.2]
theorem dz.step (A:dz W V P) (hw:W.ok) (hv:V.ok) (ws:W.bC) (vs:V.bC) {x:St} (h6:x.k≠6) (h7:x.k≠7) (h8:x.k≠8) (h15:x.k≠15) (h16:x.k≠16) (hc:bu x=0) (c0:(W.step x).1≠3) (c1:(V.step x).1≠3) :
  (V.step x).1=(W.step x).1/\∃ Q,dz (W.step x).2 (V.step x).2 Q:=by
 by_cases h1:x.k=1
 ·have hs:∀ U:Wd,U.step x=(0,U.bF x.r (1,x.n)):=λU=>by unfold Wd.step;simp [h1]
  rw [hs] at c0;rw [hs] at c1;rw [hs W,hs V];exact ⟨rfl,P,A.bF _ λh=>absurd h (by simp)⟩
 by_cases h2:x.k=2
 ·have hs:∀ U:Wd,U.step x=(0,U.bF x.r (0,0)):=λU=>by unfold Wd.step;simp [h2]
  rw [hs] at c0;rw [hs] at c1;rw [hs W,hs V];exact ⟨rfl,P,A.bF _ λh=>absurd h (by simp)⟩
 by_cases h3:x.k=3
 ·have hs:∀ U:Wd,U.step x=(0,U.bF x.r (U.rt x.a)):=λU=>by unfold Wd.step;simp [h3]
  rw [hs] at c0;rw [hs] at c1;rw [hs W,hs V];rw [A.wJ];exact ⟨rfl,P,A.bF _ A.AG⟩
 by_cases h4:x.k=4
 ·have hs:∀ U:Wd,U.step x=U.bz x.r 1 [x.a,x.b]:=λU=>by unfold Wd.step;simp [h4]
  rw [hs] at c0;rw [hs] at c1;rw [hs W,hs V];have e0:=(W.l9 x.r 1 [x.a,x.b]).resolve_right c0;have e1:=(V.l9 x.r 1 [x.a,x.b]).resolve_right c1;exact ⟨e1.trans e0.symm,A.bz hw hv ws vs e0 e1⟩
 by_cases h5:x.k=5
 ·have hs:∀ U:Wd,U.step x=U.bz x.r 2 (List.replicate x.n.toNat x.a):=λU=>by unfold Wd.step;simp [h5]
  rw [hs] at c0;rw [hs] at c1;rw [hs W,hs V];have e0:=(W.l9 x.r 2 (List.replicate x.n.toNat x.a)).resolve_right c0;have e1:=(V.l9 x.r 2 (List.replicate x.n.toNat x.a)).resolve_right c1;exact ⟨e1.trans e0.symm,A.bz hw hv ws vs e0 e1⟩
 by_cases h9:x.k=9
 ·have hs:∀ U:Wd,U.step x=U.eZ x:=λU=>by unfold Wd.step;simp [h9]
  rw [hs] at c0;rw [hs] at c1;rw [hs W,hs V];have r0:W.eZ x=(2,W):=by unfold Wd.eZ;exact if_pos (.inr (ws.guard hw x.b))
  have r1:V.eZ x=(2,V):=by unfold Wd.eZ;exact if_pos (.inr (vs.guard hv x.b))
  rw [r0,r1];exact ⟨rfl,P,A⟩
 by_cases h10:x.k=10
 ·have hs:∀ U:Wd,U.step x=U.pop x:=λU=>by unfold Wd.step;simp [h10]
  rw [hs] at c0;rw [hs] at c1;rw [hs W,hs V];have r0:W.pop x=(2,W):=by unfold Wd.pop;exact if_pos (ws.guard hw x.a)
  have r1:V.pop x=(2,V):=by unfold Wd.pop;exact if_pos (vs.guard hv x.a)
  rw [r0,r1];exact ⟨rfl,P,A⟩
 by_cases h11:x.k=11
 ·have hs:∀ U:Wd,U.step x=U.get x:=λU=>by unfold Wd.step;simp [h11]
  rw [hs] at c0;rw [hs] at c1;rw [hs W,hs V];unfold Wd.get;rw [A.bP];by_cases hf:W.bP x=0
  ·rw [if_pos hf,if_pos hf];have f:=Wd.iY hf;have hp:=A.mK f.1;rw [A.ah,(A.lv _ hp).2.2.2];refine ⟨rfl,P,A.bF _ λh=>A.sh _ hp _ ?_ h⟩;rw [Ld,Le (by have:=f.2.2;omega)];exact Ze _
  ·rw [if_neg hf,if_neg hf];exact ⟨rfl,P,A⟩
 by_cases h12:x.k=12
 ·have hs:∀ U:Wd,U.step x=U.set x:=λU=>by unfold Wd.step;simp [h12]
  rw [hs] at c0;rw [hs] at c1;rw [hs W,hs V];unfold Wd.set;rw [A.bP];by_cases hf:W.bP x=0
  ·rw [if_pos hf,if_pos hf];have hp:=A.mK (Wd.iY hf).1;rw [A.ah,(A.lv _ hp).2.2.2,A.wJ];refine ⟨rfl,P,A.cK hp λv hv h3=>?_⟩;rcases mem_set hv with h | rfl
   ·exact A.sh _ hp v h h3
   ·exact A.AG h3
  ·rw [if_neg hf,if_neg hf];exact ⟨rfl,P,A⟩
 by_cases h13:x.k=13
 ·have hs:∀ U:Wd,U.step x=U.len x:=λU=>by unfold Wd.step;simp [h13]
  rw [hs] at c0;rw [hs] at c1;rw [hs W,hs V];unfold Wd.len;rw [A.ah];by_cases h:W.ah x.a<0
  ·rw [if_pos (.inl h),if_pos (.inl h)];exact ⟨rfl,P,A⟩
  ·have hp:=A.lv _ (A.mK h);have k5:=A.DY ws h;rw [hp.2.2.1,hp.2.2.2,if_neg (λhh=>hh.elim h k5),if_neg (λhh=>hh.elim h k5)];exact ⟨rfl,P,A.bF _ λh=>absurd h (by simp)⟩
 by_cases h14:x.k=14
 ·have hs:∀ U:Wd,U.step x=U.same x:=λU=>by unfold Wd.step;simp [h14]
  rw [hs] at c0;rw [hs] at c1;rw [hs W,hs V];unfold Wd.same;rw [A.wJ,A.wJ];exact ⟨rfl,P,A.bF _ λh=>absurd h (by simp)⟩
 exfalso;unfold bu aP at hc;simp [h1,h2,h3,h4,h5,h6,h7,h8,h9,h10,h11,h12,h13,h14,h15,h16] at hc
theorem dz.do (A:dz W V P) (hw:W.ok) (hv:V.ok) (ws:W.bC) (vs:V.bC) {x:St} (h6:x.k≠6) (h7:x.k≠7) (h8:x.k≠8) (h15:x.k≠15) (h16:x.k≠16) (c0:(W.do x).1≠3) (c1:(V.do x).1≠3) :
  (V.do x).1=(W.do x).1/\∃ Q,dz (W.do x).2 (V.do x).2 Q:=by
 unfold Wd.do at *
 by_cases hc:bu x=0
 ·rw [if_pos hc] at c0;rw [if_pos hc] at c1;rw [if_pos hc,if_pos hc];exact A.step hw hv ws vs h6 h7 h8 h15 h16 hc c0 c1
 ·rw [if_neg hc,if_neg hc];exact ⟨rfl,P,A⟩
theorem dz.view (A:dz W V P) (ws:W.bC) (vs:V.bC):V.view=W.view:=by
 show gB V.gr V.roots=gB W.gr W.roots
 rw [A.rt];refine pI (P:=P) (λi hi=>?_) (λi hi v hv h3=>?_) A.P0
 ·have a:=A.lv i hi;rw [Wd.jq vs a.2.1,Wd.jq ws a.1,a.2.2.1,a.2.2.2]
 ·rw [Wd.jq ws (A.lv i hi).1] at hv;exact A.sh i hi v hv h3
end
end
section
open Go.RowKit Go.ChangeShapes Go.WideShapes Go.ChangeAt Go.Joins
section
variable {H:Type} {enc:TypeId × Value->H} {P:Program} {w:World} {base:Nat} {spare:Nat->Bool} {held:Bool}
theorem yE {t e:TypeId} {ao:Option Addr} {m cap:Nat} {d:DataW H} {p:List MemPlace} (ht:P.underlying t=some (.slice e)) (h:DataW.Trod enc P w base spare held t (.slice ao m cap) d p):m<=cap/\cap<=maxLen:=by
 obtain ⟨fuel,hf⟩:=h;rcases Go.Deep.open_slice ht hf with ⟨hcs,_⟩ | ⟨a,l,c,m',n,D,Pl,hcs,_,hl,hm,hmm,_,hi⟩
 ·simp [Value.cells] at hcs;obtain ⟨rfl,rfl,rfl⟩:=hcs;exact ⟨Zb _,Zc _⟩
 ·simp [Value.cells] at hcs;obtain ⟨rfl,rfl,rfl⟩:=hcs;exact ⟨hl,hm⟩
theorem yF {r:Reach} {b0:Nat} {t e:TypeId} {C:Nat} {v:Value} {d:DataW H} {p:List MemPlace} (ht:P.underlying t=some (.slice e)) (hC:P.cellsOf e=C) (hpos:0<C) (he:Flat enc P w base spare held e)
  (hv:Value.okWide P w r b0 t v) (h:DataW.Trod enc P w base spare held t v d p) :
  ∃ (ao:Option Addr) (cap m:Nat) (l:List Int),v=.slice ao m cap/\Rd w ao (l.map (Value.int .i64))/\l.length=m*C/\m<=maxLen/\m<=cap/\∀ x ∈ l,-9223372036854775808<=x/\x<=9223372036854775807:=by
 obtain ⟨ao,cap,m,l,rfl,h1,h2,h3,h4⟩:=uK ht hC hpos he hv h;exact ⟨ao,cap,m,l,rfl,h1,h2,h3,(yE ht h).1,h4⟩
theorem Ef {r:Reach} {b0:Nat} {t e:TypeId} {v:Value} {d:DataW H} {p:List MemPlace} (ht:P.underlying t=some (.slice e)) (he:P.underlying e=some .bool) (hC:P.cellsOf e=1)
  (hv:Value.okWide P w r b0 t v) (h:DataW.Trod enc P w base spare held t v d p) :
  ∃ (ao:Option Addr) (cap:Nat) (l:List Bool),v=.slice ao l.length cap/\Rd w ao (l.map Value.bool)/\l.length<=maxLen:=by
 obtain ⟨a0,len0,cap0,rfl⟩:=okWide_slice ht hv;obtain ⟨fuel,hf⟩:=h;rcases Go.Deep.open_slice ht hf with ⟨hcs,_⟩ | ⟨a,l,c,m,n,D,Pl,hcs,_,hl,hm,hmm,_,hi⟩
 ·simp [Value.cells] at hcs;obtain ⟨rfl,rfl,rfl⟩:=hcs;exact ⟨none,0,[],rfl,Rd.nil _ _,Zc _⟩
 ·simp [Value.cells] at hcs;obtain ⟨rfl,rfl,rfl⟩:=hcs;have hle:len0<=m:=by rw [hmm];split <;> omega
  have key:∀ j,j<len0->∃ b,w.cell? (a.add j)=some (.bool b):=by
   intro j hj;obtain ⟨cs',h1,h2⟩:=hi j (by omega);obtain ⟨b,rfl,_⟩:=DataW.trod_bool he h2;obtain ⟨_,_,hat⟩:=World.cells?_some h1;have:=hat 0 (by rw [hC];decide);rw [Go.Deep.add_add,hC,Nat.mul_one,Nat.add_zero] at this;exact ⟨b,this⟩
  have hf:∀ j, ∃ b,j<len0->w.cell? (a.add j)=some (.bool b):=λj=>by
   by_cases hj:j<len0
   ·obtain ⟨b,hb⟩:=key j hj;exact ⟨b,λ_=>hb⟩
   ·exact ⟨false,λh=>absurd h hj⟩
  refine ⟨some a,cap0,(List.range len0).map λj=>(hf j).choose,by simp,?_,by simp;exact Za hl hm⟩;refine Rd.uI λj u hu=>?_;rw [List.map_map,Zw,Option.map_eq_some_iff] at hu;obtain ⟨j',hj',rfl⟩:=hu;have hjl:=(Zj.1 hj').1;have:j=j':=by
   rw [Le hjl] at hj';simpa using hj'
  subst this;exact (hf j).choose_spec (by simpa using hjl)
end
end
end Go.Proofs.YtjifdalflepcoadGreat
