/-
  Parts of the proof, merged: what the functions do, and plain laws.
-/
import Derived.Deep.CutBlock
import Derived.Laws.Tables
import Derived.Maps.Own
import Derived.Maps.OwnSet
import Derived.Test.YtjifdalflepcoacGreatTWRP0
set_option maxHeartbeats 16000000
set_option maxRecDepth 100000
set_option linter.unusedVariables false
set_option linter.unusedSimpArgs false
namespace Go.Proofs.YtjifdalflepcoacGreat
section
open Go.RowKit
theorem yj (p:Nat) (rv wv:Value) (ah wait:List (Int × Int)) (x:Int) (w:World) (h:aZ w p rv wv ah wait) (h2:wait.length≤1000000) (hf:¬ findG x wait<wait.length) :
  Calls Tryz.prog 146 #[.pointer (some ⟨p,0,none⟩), .int .i64 x] w fun e w'=>e=.returned (.tuple #[.int .i64 0, .bool false])∧aa (fun _=>False) w w':=by
 obtain ⟨wo,wc,rfl,hrd,_,_⟩:=h.hw.rd;have hka:=(Kz w).alloc (.cells #[.int .i64 x] 2);have H:=Hz (h.ab hka (fun _ _ h=>h));have c1:=H.out.hp.cell 1;simp only [Lz,aC] at c1;have HR:=Hz (hrd.ab hka (fun _ _ _ h=>h));have HE:=Hz (show kV x wait=-1 by unfold kV;rw [if_neg hf]);have hbx:(w.alloc (.cells #[.int .i64 x] 2)).cell? ⟨w.heap.size,0,none⟩=some (.int .i64 x):=by simp
 have HBX:=Hz hbx;clear h hrd hka hf hbx;go_enter Tryz.func146,Tryz.ntmps146;go_wp2_with fail;refine (jO wo wc w.heap.size x wait _ HR.out HBX.out (by omega) (by simp)).mono ?_;rintro e w1 ⟨rfl,hk⟩;rw [HE.out];go_wp2_with fail;go_ret2;exact ⟨rfl,((aa.refl _ _).alloc _).trans hk⟩
theorem Sl.laid {w:World} {e size:Nat} {v:Value} {n:Nat} {xs:List Value} (h:Sl w e size v n xs) (hn:0<n) :
  ∃ g o cap cur,v=.slice (some ⟨g,o,none⟩) n cap∧aj w g cur e∧n≤cap∧cap≤maxLen∧o+cap*size≤cur.length∧(cur.drop o).take (n*size)=xs:=by
 rcases h.2 with ⟨_,h0⟩ | h
 ·omega
 ·exact h
theorem yk (p:Nat) (rv wv:Value) (ah wait:List (Int × Int)) (x:Int) (i m:Nat) (w:World) (h:aZ w p rv wv ah wait) (h2:wait.length≤1000000) (hf:findG x wait=i) (hm:wait.length=i+1+m) :
  Calls Tryz.prog 146 #[.pointer (some ⟨p,0,none⟩), .int .i64 x] w fun e w'=>e=.returned (.tuple #[.int .i64 (wait.getD i (0,0)).2, .bool true])∧sQ w p rv wv w' ah (wait.eraseIdx i):=by
 have HW:=Hz h;have hka:=(Kz w).alloc (.cells #[.int .i64 x] 2);have h1:=h.ab hka (fun _ _ h=>h);obtain ⟨g,o,cap,cur,rfl,hb,hnc,hcm,hoc,hx⟩:=h1.hw.laid (by omega);obtain ⟨_,_,e,hrd,_,_⟩:=h1.hw.rd;cases e;have H:=Hz h1;have c1:=H.out.hp.cell 1;simp only [Lz,aC] at c1;have HR:=Hz hrd;have HE:=Hz (show kV x wait=(i:Int) by unfold kV;rw [hf,if_pos (by omega)]);have hbx:(w.alloc (.cells #[.int .i64 x] 2)).cell? ⟨w.heap.size,0,none⟩=some (.int .i64 x):=by simp
 have HBX:=Hz hbx;have HM:=Hz hm;have hcm':cap≤9223372036854775807:=by simpa [maxLen] using hcm
 have HX:=Hz hx;have HB:=Hz hb;have hlo:i+1+m≤wait.length:=by omega
 have h2':i+1+m≤1000000:=by omega
 have hlt:i<wait.length:=by omega
 clear h hrd hf hbx hm h1 hka hx hb hcm;go_enter Tryz.func146,Tryz.ntmps146;go_wp2_with fail;refine (jO (some ⟨g,o,none⟩) cap w.heap.size x wait _ HR.out HBX.out (by omega) (by simp)).mono ?_;rintro e w1 ⟨rfl,hk⟩;rw [HE.out];have HK1:=Hz (((aa.refl (aF p rv (.slice (some ⟨g,o,none⟩) wait.length cap)) w).alloc (.cells #[.int .i64 x] 2)).trans (hk.mono fun _ _ h=>h.elim));have H1:=Hz (H.out.ab hk (fun _ _ h=>h));have HB1:=Hz (hk.aq HB.out (fun h=>h));obtain ⟨g',o',e',_,d0,d1⟩:=((HR.out.ab hk (fun _ _ _ h=>h))).fP i (by omega);cases e';clear hk c1;have c1:=H1.out.hp.cell 1;simp only [Lz,aC] at c1;have ht:(i:Int)<((wait.length:Nat):Int):=by omega
 generalize hv:wait.getD i (0,0)=v at *;have HV:=Hz hv;clear hv;go_wp2_with fail;rw [HM.out];refine (sR g o cap i m wait cur _ HB1.out HM.out (by omega) hcm' hoc HX.out).mono ?_;rintro e w2 ⟨rfl,hs2,hk2⟩;have hpg:p≠g:=fun e=>by subst e;exact (HB1.out.ne H1.out.hp (by decide)) rfl
 have HP2:=Hz (hk2.aq H1.out.hp hpg);have HR2:=Hz (H1.out.hr.ab hk2 (by rintro b hb rfl;exact H1.out.ap b ⟨hb,rfl⟩));have HK2:Hid (aa (aF p rv (.slice (some ⟨g,o,none⟩) wait.length cap)) w w2):=HK1.out.trans (hk2.mono (by rintro k _ rfl;exact .inr (.inr rfl)));have HS2:=Hz hs2;have e1:=HP2.out.cell 1;have f1:=HP2.out.free 1;simp only [Lz,aC] at e1;clear hs2 hk2 c1 d0 d1;go_wp2_with fail;go_ret2;have hlen:(wait.eraseIdx i).length=i+m:=by rw [List.length_eraseIdx_of_lt hlt,HM.out];omega
 refine ⟨by rw [HV.out];rfl,rv, .slice (some ⟨g,o,none⟩) (i+m) cap,⟨by simpa using HP2.out.aG 1 _,HR2.out.ab ((aa.refl (·=p) w2).setCell (p:=⟨p,1,none⟩) (.inl rfl) _) ?_,?_,?_⟩,HK2.out.setCell (p:=⟨p,1,none⟩) (.inl (.inl rfl)) _,?_⟩
 ·rintro b hb rfl;exact HW.out.pr hb
 ·rw [hlen];exact HS2.out.ab ((aa.refl (·=p) w2).setCell (p:=⟨p,1,none⟩) (.inl rfl) _) (by rintro b hb rfl;simp [ak,Value.ownBlock] at hb;exact hpg hb.symm)
 ·rintro k ⟨a1,a2⟩;exact HW.out.ap k ⟨a1,a2⟩
 ·rintro k (a | a | a)
  ·exact .inl (.inl a)
  ·exact .inl (.inr (.inl a))
  ·exact .inl (.inr (.inr a))
theorem qm:(Tryz.prog.info? 2).map (fun i=>(i.zero,i.size,i.bytes))=some (some (.int .i64 0),1,8):=by kernel_rfl
def gD (x:Int) (l:List (Int × Int)):List Int:=(l.filter fun e=>e.1 == x).map (·.2)
theorem sS {x:Int} {l:List (Int × Int)} {k:Nat} (h:k<l.length):gD x (l.take (k+1))=gD x (l.take k) ++ if ((l.getD k (0,0)).1 == x)=true then [(l.getD k (0,0)).2] else []:=by
 unfold gD;rw [List.take_succ_eq_append_getElem h,List.filter_append,List.map_append];congr 1;have hg:l.getD k (0,0)=l[k]:=by simp [List.getD,h]
 rw [hg];cases hc:(l[k].1 == x) <;> simp [hc]
theorem qn (x:Int) (l:List (Int × Int)):(gD x l).length≤l.length:=by
 unfold gD;rw [List.length_map];exact List.length_filter_le _ _
def sT (w:World) (e:Ending) (w':World) (l:List Int):Prop:=
 ∃ ao cap,e=.returned (.slice ao l.length cap)∧Sl w' 2 1 (.slice ao l.length cap) l.length (l.map (Value.int .i64))∧aa (fun _=>False) w w'∧∀ k,ak (.slice ao l.length cap) k→w.heap.size≤k
theorem CG (p:Nat) (rv wv:Value) (ah wait:List (Int × Int)) (x:Int) (w:World) (h:aZ w p rv wv ah wait) (h2:wait.length≤1000000) :
  Calls Tryz.prog 157 #[.pointer (some ⟨p,0,none⟩), .int .i64 x] w fun e w'=>sT w e w' (gD x wait):=by
 obtain ⟨i0,hi,hz0,hz1,hz2⟩:=info_parts qm;have Hi:=Hz hi;have Hz0:=Hz hz0;have Hz1:=Hz hz1;have Hz2:=Hz hz2;clear hi hz0 hz1 hz2;obtain ⟨wo,wc,rfl,hrd,_,_⟩:=h.hw.rd;have c1:=h.hp.cell 1;simp only [Lz,aC] at c1;have H:=Hz h;have HR:=Hz hrd;clear h hrd;go_enter Tryz.func157,Tryz.ntmps157;go_wp2_with fail;go_loopw [5,13] (fun v i wr=>∃ k:Nat,k≤wait.length∧i=.int .i64 k∧Sl wr 2 1 v (gD x (wait.take k)).length ((gD x (wait.take k)).map (Value.int .i64))∧aa (fun _=>False) w wr∧∀ k,ak v k→w.heap.size≤k) (fun _ i _=>wait.length-(intOf i).toNat)
 case atStart=>exact ⟨0,Nat.zero_le _,rfl,by simpa [gD] using Sl.nil w 2 1,aa.refl _ _,by intro k hk;simp [ak,Value.ownBlock] at hk⟩
 case round=>
  obtain ⟨k,hk,rfl,hs,hkk,how⟩:=hrel;have HK:=Hz hkk;have HS:=Hz hs;have HO:=Hz how;clear hkk hs how;have hal:(gD x (wait.take k)).length≤k:=Nat.le_trans (qn _ _) (List.length_take_le _ _);by_cases hlt:k<wait.length
  ·obtain ⟨g,o,rfl,_,d0,d1⟩:=((HR.out.ab HK.out (fun _ _ _ h=>h))).fP k hlt;have HST:=Hz (sS (x:=x) hlt);generalize wait.getD k (0,0)=v at *;cases hv:(v.1 == x)
   ·go_wp2_with fail;go_roundw
    case rel=>exact ⟨k+1,by omega,by go_num,by rw [HST.out,hv];simpa using HS.out.ab ((Kz wr).alloc _) (fun _ _ h=>h),HK.out.alloc _,HO.out⟩
    case measure=>simp [intOf];omega
   ·go_wp2_with (at_builtin;refine da rfl (.tmp 21) (.tmp 24) 50 rfl 2 i0 (.int .i64 0) 1 8 Tryz.underlying50 Hi.out Hz0.out Hz1.out Hz2.out rfl (by decide) _ (gD x (wait.take k)).length ((gD x (wait.take k)).map (Value.int .i64)) rfl ?ha ⟨wr.heap.size+1,0,none⟩ 1 1 [.int .i64 v.2] rfl rfl ?hb ?hc ?hd ?he ?hf)
    case ha=>exact HS.out.ab (((Kz wr).alloc _).alloc _) (fun _ _ h=>h)
    case hb=>
     have:=bX (wr.alloc (Obj.cells #[.int .i64 v.1, .int .i64 v.2] 101)) 2 #[.int .i64 v.2];simpa using this
    case hc=>intro u hu;simp at hu;subst hu;rfl
    case hd=>unfold maxLen;omega
    case he=>omega
    case hf=>
     intro v2 w2 hs2 hk2 ho2;have HK2:=Hz (((HK.out.alloc (Obj.cells #[.int .i64 v.1, .int .i64 v.2] 101)).alloc (Obj.cells #[.int .i64 v.2] 2)).then hk2 (fun j hj=>.inr (HO.out j hj)));have HO2:Hid (∀ j,ak v2 j→w.heap.size≤j):=fun j hj=>by
      rcases ho2 j hj with h | h
      ·exact HO.out j h
      ·have:=HK.out.size;first | omega | (simp at h;omega)
     have HS2:=Hz hs2;clear hs2 hk2 ho2;go_wp2_with fail;go_roundw
     case rel=>exact ⟨k+1,by omega,by go_num,by rw [HST.out,if_pos hv];simpa using HS2.out,HK2.out,HO2.out⟩
     case measure=>simp [intOf];omega
  ·obtain rfl:k=wait.length:=by omega
   go_wp2_with fail;go_ret;have hs:=HS.out;rw [List.take_length] at hs;obtain ⟨ao,cap,rfl,_,_,_⟩:=hs.rd;exact ⟨ao,cap,rfl,hs,HK.out,HO.out⟩
def zP (w:World) (e:Ending) (w':World) (l:List (Int × Int)):Prop:=
 ∃ ao cap,e=.returned (.slice ao l.length cap)∧Sl w' 101 2 (.slice ao l.length cap) l.length (aE l)∧aa (fun _=>False) w w'∧∀ k,ak (.slice ao l.length cap) k→w.heap.size≤k
theorem oM (v:Value) (l:List (Int × Int)) (w:World) (h:Sl w 101 2 v l.length (aE l)) (hl:l.length≤1000000) :
  Calls Tryz.prog 132 #[v] w fun e w'=>zP w e w' l:=by
 obtain ⟨i0,hi,hz0,hz1,hz2⟩:=info_parts iq;have Hi:=Hz hi;have Hz0:=Hz hz0;have Hz1:=Hz hz1;have Hz2:=Hz hz2;clear hi hz0 hz1 hz2;have hxl:=h.1;rcases h.2 with ⟨rfl,hn⟩ | ⟨g,o,cap,cur,rfl,hb,hnc,hcm,hoc,hx⟩
 ·have hl0:l=[]:=List.eq_nil_of_length_eq_zero hn;subst hl0;have hne:=fun (wx:World)=>Lib.run_eql_slice_nil (P:=Tryz.prog) wx 131 101 none 0 0 0 0 Tryz.underlying131;go_enter Tryz.func132,Tryz.ntmps132;go_wp2_with fail;go_ret;exact ⟨none,0,rfl,Sl.nil _ _ _,aa.refl _ _,by intro k hk;simp [ak,Value.ownBlock] at hk⟩
 ·have hne:=fun (wx:World)=>Lib.run_eql_slice_nil (P:=Tryz.prog) wx 131 101 (some ⟨g,o,none⟩) l.length cap 0 0 Tryz.underlying131;have HX:=Hz hx;have HB:=Hz hb;clear hx hb h hxl;go_enter Tryz.func132,Tryz.ntmps132;go_wp2_with (at_builtin;refine da rfl (.tmp 5) (.tmp 6) 131 rfl 101 i0 (.agg #[.int .i64 0, .int .i64 0]) 2 16 Tryz.underlying131 Hi.out Hz0.out Hz1.out Hz2.out rfl (by decide) _ 0 [] rfl ?ha ⟨g,o,none⟩ l.length cap (aE l) rfl ?hl ?hb ?hc ?hd ?he ?hf)
  case ha=>exact ⟨rfl, .inr ⟨w.heap.size,0,0,[],rfl,aj.newAt _ rfl rfl,Nat.le_refl _,Nat.zero_le _,by simp,by simp⟩⟩
  case hl=>exact cD l
  case hb=>
   intro j u hu;have hj:=(List.getElem?_eq_some_iff.1 hu).1;rw [cD] at hj;rw [eY,(HB.out.alloc _).cell,←hu,←HX.out,List.getElem?_take,if_pos hj,List.getElem?_drop]
  case hc=>intro u hu;exact pB hu
  case hd=>unfold maxLen;omega
  case he=>omega
  case hf=>
   intro v2 w2 hs2 hk2 ho2;go_wp2_with fail;go_ret;obtain ⟨ao,c2,rfl,_,_,_⟩:=hs2.rd;refine ⟨ao,c2,rfl,hs2,((Kz w).alloc _).then hk2 (fun j hj=>by simp [ak,Value.ownBlock] at hj;exact .inr (by omega)),fun j hj=>?_⟩;rcases ho2 j hj with h | h
   ·simp [ak,Value.ownBlock] at h;omega
   ·first | omega | (simp at h;omega)
def uT (w:World) (e:Ending) (w':World) (ah wait:List (Int × Int)):Prop:=
 ∃ p' rv' wv',e=.returned (.pointer (some ⟨p',0,none⟩))∧aZ w' p' rv' wv' ah wait∧aa (fun _=>False) w w'∧∀ k,aF p' rv' wv' k→w.heap.size≤k
theorem AZ (p:Nat) (rv wv:Value) (ah wait:List (Int × Int)) (w:World) (h:aZ w p rv wv ah wait) (h1:ah.length≤1000000) (h2:wait.length≤1000000) :
  Calls Tryz.prog 68 #[.pointer (some ⟨p,0,none⟩)] w fun e w'=>uT w e w' ah wait:=by
 obtain ⟨ro,rc,rfl,_,_,_⟩:=h.hr.rd;obtain ⟨wo,wc,rfl,_,_,_⟩:=h.hw.rd;have c0:=h.hp.cell 0;have c1:=h.hp.cell 1;simp only [Lz,aC] at c0 c1;have H:=Hz h;clear h;go_enter Tryz.func68,Tryz.ntmps68;go_wp2_with fail;refine ct [(0,0),(1,0),(2,0),(5,0),(6,0),(7,0),(3,0),(8,0),(4,1),(9,1),(10,0),(11,1),(12,0)] (fun w'=>w'.cell? ⟨p,0,none⟩=some (.slice ro ah.length rc)∧w'.cell? ⟨p,1,none⟩=some (.slice wo wait.length wc)) (by kernel_rfl) (by kernel_rfl) ⟨c0,c1⟩ ?_
 iterate 8 (refine bj rfl rfl _ (fun w' hG=>by obtain ⟨g0,g1⟩:=hG;go_simp;exact bu.mk _ _) (fun K hK=>?_);go_simp;refine hK _ ?_;clear hK K)
 refine bx rfl rfl (fun K hK=>?_);unfold aw;go_simp;refine (oM _ ah _ (H.out.hr.ab ((Kz w).drew) (fun _ _ h=>h)) h1).mono ?_;rintro e w1 ⟨ao,ac,rfl,hs,hk,ho⟩;have HK1:=Hz (((Kz w).drew).trans hk);have H1:=Hz (H.out.ab HK1.out (fun _ _ h=>h));have HS:=Hz hs;have HO:=Hz ho;have HSL:Hid (∀ k,ak (.slice ao ah.length ac) k→k<w1.heap.size):=fun k hk=>(HS.out.own hk).1;clear hs hk ho;refine hK _ _ ⟨H1.out.hp.cell 0,H1.out.hp.cell 1⟩ ?_;clear hK K;refine bx rfl rfl (fun K hK=>?_);unfold aw;go_simp;refine (oM _ wait _ H1.out.hw h2).mono ?_;rintro e w2 ⟨bo,bc,rfl,hs,hk,ho⟩;have HK2:=Hz (HK1.out.trans hk);have H2:=Hz (H1.out.ab hk (fun _ _ h=>h));have HS1:=Hz (HS.out.ab hk (fun _ _ h=>h));have HS2:=Hz hs;have HO2:=Hz ho;have hsz:=HK1.out.size;clear hs hk ho HS;refine hK _ _ ⟨H2.out.hp.cell 0,H2.out.hp.cell 1⟩ ?_;clear hK K
 iterate 1 (refine bj rfl rfl _ (fun w' hG=>by obtain ⟨g0,g1⟩:=hG;go_simp;exact bu.mk _ _) (fun K hK=>?_);go_simp;refine hK _ ?_;clear hK K)
 refine bx rfl rfl (fun K hK=>?_);unfold aw;go_simp;refine hK _ _ ?_ ?_
 ·have:=H2.out.hp.alloc (Obj.cells #[Value.slice ao ah.length ac,Value.slice bo wait.length bc] 133);exact ⟨this.cell 0,this.cell 1⟩
 clear hK K
 iterate 1 (refine bj rfl rfl _ (fun w' hG=>by obtain ⟨g0,g1⟩:=hG;go_simp;exact bu.mk _ _) (fun K hK=>?_);go_simp;refine hK _ ?_;clear hK K)
 refine dv ?_;go_wp2_with fail;go_ret;refine ⟨w2.heap.size, .slice ao ah.length ac, .slice bo wait.length bc,rfl,⟨.newAt _ rfl rfl,HS1.out.ab ((Kz w2).alloc _) (fun _ _ h=>h),HS2.out.ab ((Kz w2).alloc _) (fun _ _ h=>h),?_⟩,HK2.out.alloc _,?_⟩
 ·rintro k ⟨a1,a2⟩;have:=HO2.out k a2;have:=HSL.out k a1;omega
 ·rintro k (a | a | a)
  ·subst a;exact HK2.out.size
  ·exact HO.out k a
  ·exact Nat.le_trans hsz (HO2.out k a)
end
section
abbrev Vl:=Int × Int
abbrev Nd:=Int × List Vl
abbrev Gr:=Int→Nd
abbrev VS:=List Int × List Nd
def gY (n:Nat):Vl:=(3,(n:Int))
def fldM (f:Vl→VS→Vl × VS):List Vl→VS→List Vl × VS
 | [],s=>([],s)
 | v :: l,s=>((f v s).1 :: (fldM f l (f v s).2).1,(fldM f l (f v s).2).2)
def valM (G:Gr):Nat→Vl→VS→Vl × VS
 | 0,v,s=>if v.1=3 then (gY (s.1.idxOf v.2),s) else (v,s)
 | n+1,v,s=>
  if v.1=3 then
   if v.2 ∈ s.1 then (gY (s.1.idxOf v.2),s)
   else
    let r:=fldM (valM G n) (G v.2).2 (s.1 ++ [v.2],s.2 ++ [((G v.2).1,[])])
    (gY s.1.length,(r.2.1,r.2.2.set s.1.length ((G v.2).1,r.1)))
  else (v,s)
theorem dB (G:Gr) (n:Nat) {v:Vl} (s:VS) (h:v.1≠3):valM G n v s=(v,s):=by
 cases n <;> simp [valM,h]
theorem fL (G:Gr) (n:Nat) {v:Vl} {s:VS} (h:v.1=3) (hm:v.2 ∈ s.1):valM G n v s=(gY (s.1.idxOf v.2),s):=by
 cases n <;> simp [valM,h,hm]
theorem eJ (G:Gr) (n:Nat) {v:Vl} {s:VS} (h:v.1=3) (hm:¬ v.2 ∈ s.1):valM G (n+1) v s =
  (gY s.1.length,((fldM (valM G n) (G v.2).2 (s.1 ++ [v.2],s.2 ++ [((G v.2).1,[])])).2.1,
   (fldM (valM G n) (G v.2).2 (s.1 ++ [v.2],s.2 ++ [((G v.2).1,[])])).2.2.set s.1.length ((G v.2).1,(fldM (valM G n) (G v.2).2 (s.1 ++ [v.2],s.2 ++ [((G v.2).1,[])])).1))):=by
 simp [valM,h,hm]
theorem mE (f:Vl→VS→Vl × VS):∀ (a b:List Vl) (s:VS),fldM f (a ++ b) s=((fldM f a s).1 ++ (fldM f b (fldM f a s).2).1,(fldM f b (fldM f a s).2).2)
 | [],b,s=>rfl
 | v :: a,b,s=>by simp [fldM,mE f a b]
theorem mF (f:Vl→VS→Vl × VS):∀ (a:List Vl) (s:VS),(fldM f a s).1.length=a.length
 | [],_=>rfl
 | v :: a,s=>by simp [fldM,mF f a]
def deep:Nat:=5000
def ky (G:Gr) (roots:List Vl):List Vl × List Nd:=((fldM (valM G deep) roots ([],[])).1,(fldM (valM G deep) roots ([],[])).2.2)
def fj (φ:Int→Int) (v:Vl):Vl:=if v.1=3 then (3,φ v.2) else v
theorem pC (φ:Int→Int) (v:Vl):(fj φ v).1=v.1:=by unfold fj;split <;> simp_all
structure zo (G H:Gr) (P:Int→Prop) (φ:Int→Int):Prop where
 inj:∀ i j,P i→P j→φ i=φ j→i=j
 same:∀ i,P i→H (φ i)=((G i).1,(G i).2.map (fj φ))
 shut:∀ i,P i→∀ v ∈ (G i).2,v.1=3→P v.2
theorem nQ {φ:Int→Int} {P:Int→Prop} (inj:∀ i j,P i→P j→φ i=φ j→i=j) {x:Int} (hx:P x):∀ (l:List Int),(∀ i ∈ l,P i)→(l.map φ).idxOf (φ x)=l.idxOf x∧(φ x ∈ l.map φ↔x ∈ l)
 | [],_=>by simp
 | a :: l,h=>by
  obtain ⟨h1,h2⟩:=nQ inj hx l (fun i hi=>h i (by simp [hi]));have ha:=h a (by simp);by_cases e:a=x
  ·subst e;simp
  ·have e':φ a≠φ x:=fun e'=>e (inj _ _ ha hx e');refine ⟨?_,?_⟩
   ·have b1:(φ a == φ x)=false:=by simpa using e'
    have b2:(a == x)=false:=by simpa using e
    rw [List.map_cons,List.idxOf_cons,List.idxOf_cons,h1,b1,b2]
   ·rw [List.map_cons,List.mem_cons,List.mem_cons,h2];simp [Ne.symm e,Ne.symm e']
theorem ym {G H:Gr} {P:Int→Prop} {φ:Int→Int} (I:zo G H P φ):∀ (n:Nat) (v:Vl) (s:VS),(v.1=3→P v.2)→(∀ i ∈ s.1,P i) →
  valM H n (fj φ v) (s.1.map φ,s.2)=((valM G n v s).1,((valM G n v s).2.1.map φ,(valM G n v s).2.2))∧∀ i ∈ (valM G n v s).2.1,P i:=by
 intro n
 induction n with
 | zero=>
  intro v s hv hs;by_cases h3:v.1=3
  ·have:=nQ I.inj (hv h3) s.1 hs;simp only [valM,h3,fj,if_true,this.1];exact ⟨trivial,hs⟩
  ·have e:fj φ v=v:=by unfold fj;rw [if_neg h3]
   rw [dB G _ _ h3,e,dB H _ _ h3];exact ⟨rfl,hs⟩
 | succ n ih=>
  intro v s hv hs;by_cases h3:v.1=3
  ·have hx:=hv h3;have hi:=nQ I.inj hx s.1 hs;by_cases hm:v.2 ∈ s.1
   ·rw [fL G _ h3 hm,fL H _ (by rw [pC];exact h3) (by simp only [fj,h3,if_true];exact hi.2.2 hm)];simp only [fj,h3,if_true,hi.1];exact ⟨trivial,hs⟩
   ·have fl:∀ (l:List Vl) (s:VS),(∀ u ∈ l,u.1=3→P u.2)→(∀ i ∈ s.1,P i) →
      fldM (valM H n) (l.map (fj φ)) (s.1.map φ,s.2)=((fldM (valM G n) l s).1,((fldM (valM G n) l s).2.1.map φ,(fldM (valM G n) l s).2.2))∧∀ i ∈ (fldM (valM G n) l s).2.1,P i:=by
     intro l
     induction l with
     | nil=>intro s _ hs;exact ⟨rfl,hs⟩
     | cons u l ihl=>
      intro s hl hs;obtain ⟨h1,h2⟩:=ih u s (hl u (by simp)) hs;obtain ⟨h4,h5⟩:=ihl (valM G n u s).2 (fun u hu=>hl u (by simp [hu])) h2;simp only [List.map_cons,fldM,h1];rw [h4];exact ⟨rfl,h5⟩
    have hs':∀ i ∈ s.1 ++ [v.2],P i:=by
     intro i hi';rcases List.mem_append.1 hi' with h | h
     ·exact hs i h
     ·rw [List.mem_singleton.1 h];exact hx
    obtain ⟨h1,h2⟩:=fl (G v.2).2 (s.1 ++ [v.2],s.2 ++ [((G v.2).1,[])]) (fun u hu=>I.shut _ hx u hu) hs';have hmr:¬ (fj φ v).2 ∈ s.1.map φ:=by simp only [fj,h3,if_true];exact fun h=>hm (hi.2.1 h)
    have hr2:(fj φ v).2=φ v.2:=by simp [fj,h3]
    rw [eJ G n h3 hm,eJ H n (s:=(s.1.map φ,s.2)) (by rw [pC];exact h3) hmr,hr2,I.same _ hx];simp only [List.map_append,List.map_cons,List.map_nil] at h1;dsimp only;rw [h1];simp only [List.length_map];exact ⟨trivial,h2⟩
  ·rw [dB G _ _ h3,dB H _ _ (by rw [pC];exact h3)];have:fj φ v=v:=by unfold fj;rw [if_neg h3]
   rw [this];exact ⟨rfl,hs⟩
theorem sU {G H:Gr} {P:Int→Prop} {φ:Int→Int} (I:zo G H P φ) (n:Nat):∀ (l:List Vl) (s:VS),(∀ u ∈ l,u.1=3→P u.2)→(∀ i ∈ s.1,P i) →
  fldM (valM H n) (l.map (fj φ)) (s.1.map φ,s.2)=((fldM (valM G n) l s).1,((fldM (valM G n) l s).2.1.map φ,(fldM (valM G n) l s).2.2))∧∀ i ∈ (fldM (valM G n) l s).2.1,P i
 | [],s,_,hs=>⟨rfl,hs⟩
 | u :: l,s,hl,hs=>by
  obtain ⟨h1,h2⟩:=ym I n u s (hl u (by simp)) hs;obtain ⟨h4,h5⟩:=sU I n l (valM G n u s).2 (fun u hu=>hl u (by simp [hu])) h2;simp only [List.map_cons,fldM,h1];rw [h4];exact ⟨rfl,h5⟩
theorem wS {G H:Gr} {P:Int→Prop} {φ:Int→Int} (I:zo G H P φ) {roots:List Vl} (hr:∀ u ∈ roots,u.1=3→P u.2):ky H (roots.map (fj φ))=ky G roots:=by
 have:=(sU I deep roots ([],[]) hr (by simp)).1;unfold ky;simp only [List.map_nil] at this;rw [this]
def dA (U met:List Int):Nat:=(U.filter fun x=>!met.contains x).length
end
section
theorem kW {p q:Int→Bool} (h:∀ x,p x=true→q x=true):∀ U:List Int,(U.filter p).length≤(U.filter q).length
 | []=>Nat.le_refl _
 | a :: U=>by
  have ih:=kW h U;simp only [List.filter_cons];split
  ·rename_i h1;rw [if_pos (h a h1)];simpa using ih
  ·split
   ·simp;omega
   ·exact ih
theorem nR {p q:Int→Bool} {x:Int} (h:∀ x,p x=true→q x=true) (h1:p x=false) (h2:q x=true):∀ U:List Int,x ∈ U→(U.filter p).length<(U.filter q).length
 | [],hx=>by cases hx
 | a :: U,hx=>by
  have hle:=kW h U;simp only [List.filter_cons];rcases List.mem_cons.1 hx with rfl | hx
  ·rw [if_neg (by rw [h1];decide),if_pos h2];simp;omega
  ·have ih:=nR h h1 h2 U hx;split
   ·rename_i h3;rw [if_pos (h a h3)];simpa using ih
   ·split
    ·simp;omega
    ·exact ih
theorem rk (U a b:List Int):dA U (a ++ b)≤dA U a:=
 kW (fun x hx=>by simp at hx ⊢;exact hx.1) U
theorem kX {U met:List Int} {x:Int} (hx:x ∈ U) (hm:¬ x ∈ met):dA U (met ++ [x])<dA U met:=
 nR (fun y hy=>by simp at hy ⊢;exact hy.1) (x:=x) (by simp) (by simpa using hm) U hx
theorem pD {U met:List Int} (h:dA U met=0) {x:Int} (hx:x ∈ U):x ∈ met:=by
 by_cases hm:x ∈ met
 ·exact hm
 ·have:=kX hx hm;omega
theorem rm (U:List Int):dA U []≤U.length:=List.length_filter_le _ _
theorem kY {f:Vl→VS→Vl × VS} (hf:∀ v s, ∃ m,(f v s).2.1=s.1 ++ m):∀ (l:List Vl) (s:VS), ∃ m,(fldM f l s).2.1=s.1 ++ m
 | [],s=>⟨[],by simp [fldM]⟩
 | v :: l,s=>by
  obtain ⟨m,h⟩:=hf v s;obtain ⟨m',h'⟩:=kY hf l (f v s).2;exact ⟨m ++ m',by simp only [fldM];rw [h',h];simp⟩
theorem kZ (G:Gr):∀ (n:Nat) (v:Vl) (s:VS), ∃ m,(valM G n v s).2.1=s.1 ++ m:=by
 intro n
 induction n with
 | zero=>intro v s;refine ⟨[],?_⟩;simp only [valM];split <;> simp
 | succ n ih=>
  intro v s;by_cases h3:v.1=3
  ·by_cases hm:v.2 ∈ s.1
   ·exact ⟨[],by rw [fL G _ h3 hm];simp⟩
   ·obtain ⟨m,h⟩:=kY ih (G v.2).2 (s.1 ++ [v.2],s.2 ++ [((G v.2).1,[])]);exact ⟨[v.2] ++ m,by rw [eJ G n h3 hm];dsimp only;rw [h];simp⟩
  ·exact ⟨[],by rw [dB G _ _ h3];simp⟩
structure uU (G:Gr) (U:List Int):Prop where
 shut:∀ i ∈ U, ∀ v ∈ (G i).2,v.1=3→v.2 ∈ U
theorem qo {f:Vl→VS→Vl × VS} (hf:∀ v s,s.2.length=s.1.length→(f v s).2.2.length=(f v s).2.1.length):∀ (l:List Vl) (s:VS),s.2.length=s.1.length→(fldM f l s).2.2.length=(fldM f l s).2.1.length
 | [],s,h=>h
 | v :: l,s,h=>qo hf l _ (hf v s h)
theorem qp (G:Gr):∀ (n:Nat) (v:Vl) (s:VS),s.2.length=s.1.length→(valM G n v s).2.2.length=(valM G n v s).2.1.length:=by
 intro n
 induction n with
 | zero=>intro v s h;simp only [valM];split <;> exact h
 | succ n ih=>
  intro v s h;by_cases h3:v.1=3
  ·by_cases hm:v.2 ∈ s.1
   ·rw [fL G _ h3 hm];exact h
   ·rw [eJ G n h3 hm];simp only [List.length_set];exact qo ih _ _ (by simp [h])
  ·rw [dB G _ _ h3];exact h
theorem ir {f:Vl→VS→Vl × VS} {U:List Int} (hf:∀ v s,(v.1=3→v.2 ∈ U)→(f v s).2.1.length+dA U (f v s).2.1≤s.1.length+dA U s.1) :
  ∀ (l:List Vl) (s:VS),(∀ v ∈ l,v.1=3→v.2 ∈ U)→(fldM f l s).2.1.length+dA U (fldM f l s).2.1≤s.1.length+dA U s.1
 | [],s,_=>Nat.le_refl _
 | v :: l,s,hl=>Nat.le_trans (ir hf l _ (fun u hu=>hl u (by simp [hu]))) (hf v s (hl v (by simp)))
theorem kz {G:Gr} {U:List Int} (I:uU G U):∀ (n:Nat) (v:Vl) (s:VS),(v.1=3→v.2 ∈ U)→(valM G n v s).2.1.length+dA U (valM G n v s).2.1≤s.1.length+dA U s.1:=by
 intro n
 induction n with
 | zero=>intro v s _;simp only [valM];split <;> exact Nat.le_refl _
 | succ n ih=>
  intro v s hv;by_cases h3:v.1=3
  ·by_cases hm:v.2 ∈ s.1
   ·rw [fL G _ h3 hm];exact Nat.le_refl _
   ·rw [eJ G n h3 hm];have:=ir (f:=valM G n) ih (G v.2).2 (s.1 ++ [v.2],s.2 ++ [((G v.2).1,[])]) (I.shut _ (hv h3));have hp:=kX (hv h3) hm;simp only [List.length_append,List.length_cons,List.length_nil] at this;dsimp only;omega
  ·rw [dB G _ _ h3];exact Nat.le_refl _
theorem mG {f:Vl→VS→Vl × VS} (hl:∀ v s,s.2.length=s.1.length→(f v s).2.2.length=(f v s).2.1.length) (hp:∀ v s, ∃ m,(f v s).2.1=s.1 ++ m)
  (hf:∀ v s,s.2.length=s.1.length→∀ i,i<s.1.length→(f v s).2.2[i]? = s.2[i]?):∀ (l:List Vl) (s:VS),s.2.length=s.1.length→∀ i,i<s.1.length→(fldM f l s).2.2[i]? = s.2[i]?
 | [],s,_,i,_=>rfl
 | v :: l,s,h,i,hi=>by
  obtain ⟨m,hm⟩:=hp v s;have:=mG hl hp hf l (f v s).2 (hl v s h) i (by rw [hm];simp;omega);simp only [fldM];rw [this,hf v s h i hi]
theorem vI (G:Gr):∀ (n:Nat) (v:Vl) (s:VS),s.2.length=s.1.length→∀ i,i<s.1.length→(valM G n v s).2.2[i]? = s.2[i]? := by
 intro n
 induction n with
 | zero=>intro v s _ i _;simp only [valM];split <;> rfl
 | succ n ih=>
  intro v s h i hi;by_cases h3:v.1=3
  ·by_cases hm:v.2 ∈ s.1
   ·rw [fL G _ h3 hm]
   ·rw [eJ G n h3 hm];dsimp only;rw [List.getElem?_set_ne (by omega)];have:=mG (qp G n) (kZ G n) ih (G v.2).2 (s.1 ++ [v.2],s.2 ++ [((G v.2).1,[])]) (by simp [h]) i (by simp;omega);rw [this];dsimp only;rw [List.getElem?_append_left (by omega)]
  ·rw [dB G _ _ h3]
end
section
structure Wo where
 ar:Ar
 cd:List Bool
 rt:List Int
 rg:List (Int × Int)
 wt:List (Int × Int)
def rn (e:Int × Int):Prop:=a9 e.1∧a9 e.2
structure Wo.ok (O:Wo):Prop where
 ha:O.ar.ok
 h12:O.rt.length=12
 hR:∀ x ∈ O.rt,a9 x
 hg:∀ e ∈ O.rg,rn e
 hw:∀ e ∈ O.wt,rn e
 hq:O.rg.length+O.wt.length≤24
 hc:O.cd.length≤1000
def Wo.new (n o:Int):Wo:=⟨Ar.new n o,List.replicate (gC o) false,List.replicate 12 2,[],[]⟩
def Ar.aV (A:Ar) (x:Int):Int × Int × Int × Int:=if x%4=1∧(A.ai (x/4)).2.2=0 then (x/4,(A.ai (x/4)).1,(A.ai (x/4)).2.1,0) else (0,0,0,2)
def Ar.get (A:Ar) (x i:Int):Int × Int:=
 if (A.aV x).2.2.2≠0∨(A.aV x).2.1=5 then (0,2) else if i<0∨(A.aV x).2.2.1≤i then (0,1) else (A.load (x/4+1+i),0)
def Wo.set (O:Wo) (x i y:Int):Int × Wo:=
 if (O.ar.get x i).2≠0 then ((O.ar.get x i).2,O)
 else (0, { O with ar:=O.ar.store (x/4+1+i) y,cd:=if y%4=1∧(O.ar.store (x/4+1+i) y).az (y/4)=true∧(O.ar.store (x/4+1+i) y).aI (x/4)=true then gR O.ar.nur O.cd (x/4) else O.cd })
theorem Wo.zQ {O:Wo} {x i y:Int} (hc:¬ (O.ar.get x i).2=0):O.set x i y=((O.ar.get x i).2,O):=if_pos hc
theorem Wo.yn {O:Wo} {x i y:Int} (hc:(O.ar.get x i).2=0):O.set x i y=(0, { O with ar:=O.ar.store (x/4+1+i) y,cd:=if y%4=1∧(O.ar.store (x/4+1+i) y).az (y/4)=true∧(O.ar.store (x/4+1+i) y).aI (x/4)=true then gR O.ar.nur O.cd (x/4) else O.cd }):=
 if_neg (fun h=>h hc)
def dt (x:Int):Vl:=if x%4=1 then (3,x/4) else ((fm x).1,(fm x).2.1)
def fx (wt:List (Int × Int)) (g:Int):List Int:=(wt.filter fun e=>e.1 == g).map (·.2)
def Ar.fields (A:Ar) (at_:Int):List Int:=(List.range (A.ai at_).2.1.toNat).map fun (j:Nat)=>A.load (at_+1+(j:Int))
def Wo.gr (O:Wo):Gr:=fun i=>((O.ar.ai i).1,(O.ar.fields i).map dt ++ if (O.ar.ai i).1=5 then (fx O.wt (4*i+1)).map dt else [])
def Wo.view (O:Wo):List Vl × List Nd:=ky O.gr (O.rt.map dt)
def Wo.univ (O:Wo):List Int:=((0 :: O.ar.ws) ++ O.rt ++ O.wt.map (·.2)).map (· / 4)
theorem Ar.yo {A:Ar} (h:A.ok) (i:Int):A.load i=0∨A.load i ∈ A.ws:=by
 unfold Ar.load;split
 ·rename_i hu;have:=h.jk hu;right;rw [Ld,Le (by omega)];exact List.getElem_mem _
 ·exact .inl rfl
theorem Wo.rP {O:Wo} (h:O.ok) (i:Int):O.ar.load i/4 ∈ O.univ:=by
 unfold Wo.univ;rcases Ar.yo h.ha i with e | e
 ·rw [e];exact List.mem_map.2 ⟨0,by simp,rfl⟩
 ·exact List.mem_map.2 ⟨_,by simp [e],rfl⟩
theorem Wo.rQ {O:Wo} {x:Int} (h:x ∈ O.rt):x/4 ∈ O.univ:=List.mem_map.2 ⟨x,by simp [h],rfl⟩
theorem Wo.rR {O:Wo} {x g:Int} (h:x ∈ fx O.wt g):x/4 ∈ O.univ:=by
 unfold fx at h;obtain ⟨e,he,rfl⟩:=List.mem_map.1 h;exact List.mem_map.2 ⟨e.2,by simp only [List.mem_append,List.mem_map];exact .inr ⟨e,(List.mem_filter.1 he).1,rfl⟩,rfl⟩
theorem mH {x:Int} (h:(dt x).1=3):x%4=1∧(dt x).2=x/4:=by
 unfold dt at *;by_cases h1:x%4=1
 ·rw [if_pos h1];exact ⟨h1,rfl⟩
 ·rw [if_neg h1] at h;dsimp only at h;unfold fm at h;exfalso
  repeat' split at h
  all_goals (dsimp only at h;omega)
theorem Wo.rS {O:Wo} (h:O.ok):uU O.gr O.univ:=by
 refine ⟨fun i _ v hv h3=>?_⟩;unfold Wo.gr at hv;dsimp only at hv;rcases List.mem_append.1 hv with h1 | h1
 ·obtain ⟨x,hx,rfl⟩:=List.mem_map.1 h1;rw [(mH h3).2];unfold Ar.fields at hx;obtain ⟨j,_,rfl⟩:=List.mem_map.1 hx;exact Wo.rP h _
 ·split at h1
  ·obtain ⟨x,hx,rfl⟩:=List.mem_map.1 h1;rw [(mH h3).2];exact Wo.rR hx
  ·cases h1
theorem Wo.zR {O:Wo} (h:O.ok):O.univ.length≤1400:=by
 have h1:=h.ha.h4;have h2:=h.h12;have h3:=h.hq;unfold Wo.univ;simp;omega
theorem Ar.lH (A:Ar) (i x:Int):(A.store i x).ws.length=A.ws.length:=by unfold Ar.store;split <;> simp
theorem Ar.cU (A:Ar) (i x:Int):(A.store i x).nur=A.nur:=by unfold Ar.store;split <;> rfl
theorem Ar.fy (A:Ar) (i x:Int):(A.store i x).yng=A.yng:=by unfold Ar.store;split <;> rfl
theorem Ar.dG (A:Ar) (i x:Int):(A.store i x).grn=A.grn:=by unfold Ar.store;split <;> rfl
end
section
open Go.RowKit
structure WH where
 p:Nat
 pa:Nat
 g:Nat
 pc:Nat
 cb:Nat
 ps:Nat
 rv:Value
 wv:Value
 ro:Value
def WH.Own (h:WH) (k:Nat):Prop:=k=h.p∨(k=h.pa∨k=h.g)∨(k=h.pc∨k=h.cb)∨aF h.ps h.rv h.wv k∨ak h.ro k
structure bh (w:World) (h:WH) (O:Wo):Prop where
 hp:aj w h.p [.pointer (some ⟨h.pa,0,none⟩), .pointer (some ⟨h.pc,0,none⟩), .pointer (some ⟨h.ps,0,none⟩),h.ro] 52
 ha:bC w h.pa h.g O.ar
 hc:cP w h.pc h.cb O.ar.nur O.cd
 hs:aZ w h.ps h.rv h.wv O.rg O.wt
 hr:Sl w 2 1 h.ro O.rt.length (O.rt.map (Value.int .i64))
 ap:¬ ak h.ro h.g
 ok:O.ok
section
variable {w w':World} {h:WH} {O:Wo}
theorem bh.a5 (H:bh w h O) {k:Nat} (hk:h.Own k):k<w.heap.size:=by
 rcases hk with rfl | (rfl | rfl) | (rfl | rfl) | hk | hk
 ·exact H.hp.lt
 ·exact H.ha.hp.lt
 ·exact H.ha.hg.lt
 ·exact H.hc.hp.lt
 ·exact H.hc.hq.lt
 ·exact H.hs.jN hk
 ·exact (H.hr.own hk).1
theorem bh.ab {S:Nat→Prop} (H:bh w h O) (k:aa S w w') (hn:∀ b,h.Own b→¬ S b):bh w' h O:=
 ⟨k.aq H.hp (hn _ (.inl rfl)),H.ha.ab k (hn _ (.inr (.inl (.inl rfl)))) (hn _ (.inr (.inl (.inr rfl)))),H.hc.ab k (hn _ (.inr (.inr (.inl (.inl rfl))))) (hn _ (.inr (.inr (.inl (.inr rfl))))),
  H.hs.ab k (fun b hb=>hn b (.inr (.inr (.inr (.inl hb))))),H.hr.ab k (fun b hb=>hn b (.inr (.inr (.inr (.inr hb))))),H.ap,H.ok⟩
theorem aZ.cF {w:World} {p b:Nat} {rv wv:Value} {ah wait:List (Int × Int)} (h:aZ w p rv wv ah wait) (hb:aF p rv wv b):∃ c T,aj w b c T∧(T=133∨T=101):=by
 rcases hb with rfl | hb | hb
 ·exact ⟨_,_,h.hp, .inl rfl⟩
 ·obtain ⟨_,c,hc⟩:=h.hr.own hb;exact ⟨_,_,hc, .inr rfl⟩
 ·obtain ⟨_,c,hc⟩:=h.hw.own hb;exact ⟨_,_,hc, .inr rfl⟩
theorem bh.uV (H:bh w h O) {b:Nat} {c:List Value} {T:TypeId} (hb:aj w b c T) (h1:T≠133) (h2:T≠101):¬ aF h.ps h.rv h.wv b:=fun hf=>by
 obtain ⟨c',T',hc,hT⟩:=H.hs.cF hf;rcases hT with rfl | rfl
 ·exact hb.ne hc h1 rfl
 ·exact hb.ne hc h2 rfl
theorem bh.kB (H:bh w h O) {b:Nat} {c:List Value} {T:TypeId} (hb:aj w b c T) (h1:T≠2):¬ ak h.ro b:=fun hf=>by
 obtain ⟨_,c',hc⟩:=H.hr.own hf;exact hb.ne hc h1 rfl
theorem bh.bT (H:bh w h O) {A:Ar} (t:aT w h.pa h.g w' A) (hn:A.nur=O.ar.nur):bh w' h { O with ar:=A }:=by
 have k:=t.k;have n1:∀ {b:Nat} {c:List Value} {T:TypeId},aj w b c T→T≠141→T≠2→¬ (b=h.pa∨b=h.g):=fun hb h1 h2 e=>by
  rcases e with e | e
  ·exact hb.ne H.ha.hp h1 e
  ·exact hb.ne H.ha.hg h2 e
 refine ⟨k.aq H.hp (n1 H.hp (by decide) (by decide)),t.at_,?_,H.hs.ab k (fun b hb=>?_),H.hr.ab k (fun b hb=>?_),H.ap, { H.ok with ha:=t.at_.ok }⟩
 ·show cP w' h.pc h.cb A.nur O.cd
  rw [hn];exact H.hc.ab k (n1 H.hc.hp (by decide) (by decide)) (n1 H.hc.hq (by decide) (by decide))
 ·obtain ⟨c,T,hc,hT⟩:=H.hs.cF hb;rcases hT with rfl | rfl
  ·exact n1 hc (by decide) (by decide)
  ·exact n1 hc (by decide) (by decide)
 ·rintro (rfl | rfl)
  ·exact H.kB H.ha.hp (by decide) hb
  ·exact H.ap hb
theorem bh.cards (H:bh w h O) {l:List Bool} (t:cP w' h.pc h.cb O.ar.nur l) (hl:l.length≤1000) (k:aa (·=h.cb) w w'):bh w' h { O with cd:=l }:=by
 have n1:∀ {b:Nat} {c:List Value} {T:TypeId},aj w b c T→T≠4→¬ (b=h.cb):=fun hb h1 e=>hb.ne H.hc.hq h1 e;refine ⟨k.aq H.hp (n1 H.hp (by decide)),H.ha.ab k (n1 H.ha.hp (by decide)) (n1 H.ha.hg (by decide)),t,H.hs.ab k (fun b hb=>?_),H.hr.ab k (fun b hb=>?_),H.ap, { H.ok with hc:=hl }⟩
 ·obtain ⟨c,T,hc,hT⟩:=H.hs.cF hb;rcases hT with rfl | rfl
  ·exact n1 hc (by decide)
  ·exact n1 hc (by decide)
 ·rintro rfl;exact H.kB H.hc.hq (by decide) hb
theorem bh.dY (H:bh w h O):w.cell? ⟨h.p,0,none⟩=some (.pointer (some ⟨h.pa,0,none⟩))∧w.cell? ⟨h.p,1,none⟩=some (.pointer (some ⟨h.pc,0,none⟩))∧w.cell? ⟨h.p,2,none⟩=some (.pointer (some ⟨h.ps,0,none⟩))∧w.cell? ⟨h.p,3,none⟩=some h.ro:=
 ⟨H.hp.cell 0,H.hp.cell 1,H.hp.cell 2,H.hp.cell 3⟩
def fQ (w:World) (h:WH) (w':World) (O:Wo):Prop:=
 ∃ h',bh w' h' O∧h'.p=h.p∧aa h.Own w w'∧∀ k,h'.Own k→h.Own k∨w.heap.size≤k
theorem bh.iW (H:bh w h O) {A:Ar} (t:aT w h.pa h.g w' A) (hn:A.nur=O.ar.nur):fQ w h w' { O with ar:=A }:=
 ⟨h,H.bT t hn,rfl,t.k.mono (fun k _ hk=>.inr (.inl hk)),fun k hk=>.inl hk⟩
theorem fQ.same (H:bh w h O) (k:aa (fun _=>False) w w'):fQ w h w' O:=
 ⟨h,H.ab k (fun _ _ h=>h),rfl,k.mono (fun _ _ h=>h.elim),fun k hk=>.inl hk⟩
theorem mI {A:Ar} {x:Int} (h:¬ (x%4=1∧(A.ai (x/4)).2.2=0)):A.aV x=(0,0,0,2):=if_neg h
theorem lX {A:Ar} {x:Int} (h:x%4=1∧(A.ai (x/4)).2.2=0):A.aV x=(x/4,(A.ai (x/4)).1,(A.ai (x/4)).2.1,0):=if_pos h
theorem lg {fn:Func} {t u v x:Tmp} (h:fn.results=#[.tmp t, .tmp u, .tmp v, .tmp x]) (tmps:Array Value) (P:Program) (w:World) :
  (results fn tmps).run P w=.ok (.tuple #[tmps.getD t undef,tmps.getD u undef,tmps.getD v undef,tmps.getD x undef]) w:=by
 simp [results,h]
theorem pE {a b c d:Int} {y:Int × Int × Int × Int} (h:y=(a,b,c,d)) :
  Ending.returned (.tuple #[.int .i64 a, .int .i64 b, .int .i64 c, .int .i64 d])=Ending.returned (.tuple #[.int .i64 y.1, .int .i64 y.2.1, .int .i64 y.2.2.1, .int .i64 y.2.2.2]):=by subst h;rfl
theorem uW (x:Int) (H:bh w h O) :
  Calls Tryz.prog 116 #[.pointer (some ⟨h.p,0,none⟩), .int .i64 x] w fun e w'=>
   e=.returned (.tuple #[.int .i64 (O.ar.aV x).1, .int .i64 (O.ar.aV x).2.1, .int .i64 (O.ar.aV x).2.2.1, .int .i64 (O.ar.aV x).2.2.2])∧w=w':=by
 have HH:=Hz H;obtain ⟨c0,-,-,-⟩:=H.dY;have pl:=H.hp.lt;have HA:=Hz H.ha;clear H;by_cases hx:x%4=1
 ·by_cases hc:(O.ar.ai (x/4)).2.2=0
  ·have HE:=Hz (lX ⟨hx,hc⟩);obtain ⟨⟨k,n,c⟩,hT⟩:∃ t,O.ar.ai (x/4)=t:=⟨_,rfl⟩;rw [hT] at hc HE;dsimp only at hc HE;subst hc;have HT:=Hz hT;have HX:=Hz hx;clear hT hx;go_enter Tryz.func116,Tryz.ntmps116;go_wp2_with fail;refine (dz x _ HX.out).mono ?_;rintro e w1 ⟨rfl,rfl⟩;go_wp2_with fail;refine (gJ (x/4) _ HA.out).mono ?_;rintro e w1 ⟨rfl,rfl⟩;rw [HT.out];dsimp only;go_wp2_with fail
   ((try simp only [Exit.inBlock,Exit.then]);refine bodyPost_ret (lg rfl _ _ _) rfl ?_)
   exact ⟨pE HE.out,rfl⟩
  ·have HE:=Hz (mI (A:=O.ar) (x:=x) (fun h=>hc h.2));obtain ⟨⟨k,n,c⟩,hT⟩:∃ t,O.ar.ai (x/4)=t:=⟨_,rfl⟩;rw [hT] at hc;dsimp only at hc;have hcb:(c != 0)=true:=by simpa using hc
   have HT:=Hz hT;have HX:=Hz hx;clear hT hx hc;go_enter Tryz.func116,Tryz.ntmps116;go_wp2_with fail;refine (dz x _ HX.out).mono ?_;rintro e w1 ⟨rfl,rfl⟩;go_wp2_with fail;refine (gJ (x/4) _ HA.out).mono ?_;rintro e w1 ⟨rfl,rfl⟩;rw [HT.out];dsimp only;go_wp2_with fail
   ((try simp only [Exit.inBlock,Exit.then]);refine bodyPost_ret (lg rfl _ _ _) rfl ?_)
   exact ⟨pE HE.out,rfl⟩
 ·have HE:=Hz (mI (A:=O.ar) (x:=x) (fun h=>hx h.1));have HX:=Hz hx;clear hx;go_enter Tryz.func116,Tryz.ntmps116;go_wp2_with fail;refine (lF x _ HX.out).mono ?_;rintro e w1 ⟨rfl,rfl⟩;go_wp2_with fail
  ((try simp only [Exit.inBlock,Exit.then]);refine bodyPost_ret (lg rfl _ _ _) rfl ?_)
  exact ⟨pE HE.out,rfl⟩
theorem sV (x:Int) (H:bh w h O) :
  Calls Tryz.prog 50 #[.pointer (some ⟨h.p,0,none⟩), .int .i64 x] w fun e w'=>
   e=.returned (.tuple #[.int .i64 (O.ar.aV x).2.1, .int .i64 (O.ar.aV x).2.2.1, .int .i64 (O.ar.aV x).2.2.2])∧w=w':=by
 go_enter Tryz.func50,Tryz.ntmps50;go_wp2_with fail;refine (uW x H).mono ?_;rintro e w1 ⟨rfl,rfl⟩;go_wp2_with fail
 go_ret3
 exact ⟨rfl,rfl⟩
theorem yp {A:Ar} {x i:Int} (h:(A.aV x).2.2.2≠0∨(A.aV x).2.1=5):A.get x i=(0,2):=if_pos h
theorem wT {A:Ar} {x i:Int} (h:¬ ((A.aV x).2.2.2≠0∨(A.aV x).2.1=5)) (h2:i<0∨(A.aV x).2.2.1≤i):A.get x i=(0,1):=by unfold Ar.get;rw [if_neg h,if_pos h2]
theorem A0 {A:Ar} {x i:Int} (h:¬ ((A.aV x).2.2.2≠0∨(A.aV x).2.1=5)) (h2:¬ (i<0∨(A.aV x).2.2.1≤i)):A.get x i=(A.load (x/4+1+i),0):=by unfold Ar.get;rw [if_neg h,if_neg h2]
theorem rp (A:Ar) (x:Int):0≤(A.aV x).2.2.1∧(A.aV x).2.2.1≤12:=by
 unfold Ar.aV;split
 ·exact A.aO _
 ·decide
theorem nH {A:Ar} (hk:A.ok) {x:Int} (h:(A.aV x).2.2.2=0):x%4=1∧(A.ai (x/4)).2.2=0∧0≤x/4∧x/4<A.ws.length∧(A.aV x).1=x/4:=by
 by_cases hc:x%4=1∧(A.ai (x/4)).2.2=0
 ·have:=hk.jk (A.nO hc.2);refine ⟨hc.1,hc.2,this.1,this.2,?_⟩;rw [lX hc]
 ·rw [mI hc] at h;simp at h
theorem qq (x i:Int) (H:bh w h O) :
  Calls Tryz.prog 48 #[.pointer (some ⟨h.p,0,none⟩), .int .i64 x, .int .i64 i] w fun e w'=>
   e=.returned (.tuple #[.int .i64 (O.ar.get x i).1, .int .i64 (O.ar.get x i).2])∧w=w':=by
 have HH:=Hz H;obtain ⟨c0,-,-,-⟩:=H.dY;have pl:=H.hp.lt;have HA:=Hz H.ha;have hb:=rp O.ar x;have hpl:=fun e=>nH H.ok.ha (x:=x) e;have h4:=H.ok.ha.h4;have gk:=fun e=>yp (A:=O.ar) (x:=x) (i:=i) e;have gr:=fun e1 e2=>wT (A:=O.ar) (x:=x) (i:=i) e1 e2;have go:=fun e1 e2=>A0 (A:=O.ar) (x:=x) (i:=i) e1 e2;have HTc:=Hz (uW x H);obtain ⟨⟨p,k,n,c⟩,hT⟩:∃ t,O.ar.aV x=t:=⟨_,rfl⟩;rw [hT] at hb hpl gk gr go HTc;dsimp only at hb hpl gk gr go HTc;clear H hT;by_cases hc:c=0
 ·obtain ⟨-,-,p0,p1,rfl⟩:=hpl hc;subst hc;by_cases hk:k=5
  ·have HG:=Hz (gk (.inr hk));subst hk;clear gk gr go hpl;go_enter Tryz.func48,Tryz.ntmps48;go_wp2_with fail;refine HTc.out.mono ?_;rintro e w1 ⟨rfl,rfl⟩;go_wp2_with fail;go_ret2;exact ⟨by rw [HG.out];rfl,rfl⟩
  ·have h1:¬ ((0:Int)≠0∨k=5):=fun h=>by rcases h with h | h;exact h rfl;exact hk h
   have hkb:(k == 5)=false:=by simpa using hk
   by_cases hi:i<0∨n≤i
   ·have HG:=Hz (gr h1 hi);clear gk gr go hpl h1 hk;by_cases hi0:i<0
    ·have hd:decide (i<0)=true:=by simpa using hi0
     clear hi;go_enter Tryz.func48,Tryz.ntmps48;go_wp2_with fail;refine HTc.out.mono ?_;rintro e w1 ⟨rfl,rfl⟩;go_wp2_with fail;go_ret2;exact ⟨by rw [HG.out];rfl,rfl⟩
    ·have hd:decide (i<0)=false:=by simpa using hi0
     have hd2:decide (n≤i)=true:=by simp;omega
     clear hi;go_enter Tryz.func48,Tryz.ntmps48;go_wp2_with fail;refine HTc.out.mono ?_;rintro e w1 ⟨rfl,rfl⟩;go_wp2_with fail;go_ret2;exact ⟨by rw [HG.out];rfl,rfl⟩
   ·have HG:=Hz (go h1 hi);have hd:decide (i<0)=false:=by simp;omega
    have hd2:decide (n≤i)=false:=by simp;omega
    have hi0:0≤i:=by omega
    have hi1:i<n:=by omega
    clear gk gr go hpl h1 hk hi;go_enter Tryz.func48,Tryz.ntmps48;go_wp2_with fail;refine HTc.out.mono ?_;rintro e w1 ⟨rfl,rfl⟩;go_wp2_with fail;refine (eM (x/4+1+i) _ HA.out).mono ?_;rintro e w1 ⟨rfl,rfl⟩;go_wp2_with fail;go_ret2;exact ⟨by rw [HG.out];rfl,rfl⟩
 ·have HG:=Hz (gk (.inl hc));have hcb:(c != 0)=true:=by simpa using hc
  clear gk gr go hpl hc;go_enter Tryz.func48,Tryz.ntmps48;go_wp2_with fail;refine HTc.out.mono ?_;rintro e w1 ⟨rfl,rfl⟩;go_wp2_with fail;go_ret2;exact ⟨by rw [HG.out];rfl,rfl⟩
end
end
section
open Go.RowKit
section
variable {w w':World} {h:WH} {O:Wo}
theorem Wo.wU {x i y:Int} (hc:(O.ar.get x i).2≠0):O.set x i y=((O.ar.get x i).2,O):=if_pos hc
theorem Wo.uX {x i y:Int} (hc:(O.ar.get x i).2=0):O.set x i y=(0, { O with ar:=O.ar.store (x/4+1+i) y,cd:=if y%4=1∧(O.ar.store (x/4+1+i) y).az (y/4)=true∧(O.ar.store (x/4+1+i) y).aI (x/4)=true then gR O.ar.nur O.cd (x/4) else O.cd }):=
 if_neg (fun h=>h hc)
theorem rT {A:Ar} (hk:A.ok) {x i:Int} (h:(A.get x i).2=0):x%4=1∧(A.ai (x/4)).2.2=0∧0≤x/4∧x/4<A.ws.length∧0≤i∧i<(A.ai (x/4)).2.1∧(A.ai (x/4)).1≠5:=by
 unfold Ar.get at h;split at h
 ·simp at h
 ·rename_i h1;split at h
  ·simp at h
  ·rename_i h2;have hc:(A.aV x).2.2.2=0:=Classical.not_not.1 fun e=>h1 (.inl e);obtain ⟨p1,p2,p3,p4,p5⟩:=nH hk hc;rw [lX ⟨p1,p2⟩] at h1 h2;exact ⟨p1,p2,p3,p4,by omega,by dsimp only at h2;omega,fun e=>h1 (.inr e)⟩
theorem CX (x i y:Int) (H:bh w h O) (hy:a9 y) :
  Calls Tryz.prog 47 #[.pointer (some ⟨h.p,0,none⟩), .int .i64 x, .int .i64 i, .int .i64 y] w fun e w'=>
   e=.returned (.int .i64 (O.set x i y).1)∧fQ w h w' (O.set x i y).2:=by
 have HH:=Hz H;have HY:=Hz hy;have pl:=H.hp.lt;have h4:=H.ok.ha.h4;have HN:=Hz (show 0≤(O.ar.nur:Int)∧(O.ar.nur:Int)≤1000000 by have:=H.ok.ha.h1;have:=H.ok.ha.h2;have:=H.ok.ha.h3;omega);by_cases hc:(O.ar.get x i).2=0
 ·have HE:=Hz (Wo.uX (y:=y) hc);obtain ⟨p1,-,p2,p3,p4,p5,-⟩:=rT H.ok.ha hc;have p6:=(O.ar.aO (x/4)).2;have p7:i<12:=by omega
  have P1:=Hz p1;have HC:=Hz hc;clear H hy hc p1 p5 p6;go_enter Tryz.func47,Tryz.ntmps47;go_wp2_with fail;refine (qq x i HH.out).mono ?_;rintro e w1 ⟨rfl,rfl⟩;rw [HC.out];go_wp2_with fail;refine (dz x _ P1.out).mono ?_;rintro e w1 ⟨rfl,rfl⟩;obtain ⟨c0,-,-,-⟩:=HH.out.dY;go_wp2_with fail;refine (gI (x/4+1+i) y _ HH.out.ha HY.out).mono ?_;rintro e w1 ⟨rfl,ht⟩;have HT:=Hz ht.k;have HW:=Hz (HH.out.bT ht (O.ar.cU _ _));have HTO:=Hz (HH.out.iW ht (O.ar.cU _ _));clear c0 pl ht;generalize hA:O.ar.store (x/4+1+i) y=A at *;have HA:=Hz hA;clear hA;obtain ⟨c0,c1,-,-⟩:=HW.out.dY;have pl:=HW.out.hp.lt;by_cases hy4:y%4=1
  ·have HY4:=Hz hy4;cases hyo:A.az (y/4)
   ·have HF:=Hz (show ¬ (y%4=1∧A.az (y/4)=true∧A.aI (x/4)=true) by rw [hyo];exact fun h=>by cases h.2.1);clear hy4;go_wp2_with fail;refine (dz y _ HY4.out).mono ?_;rintro e w2 ⟨rfl,rfl⟩;go_wp2_with fail;refine (cO (y/4) _ HW.out.ha).mono ?_;rintro e w2 ⟨rfl,rfl⟩;rw [hyo];go_wp2_with fail;go_ret;refine ⟨by rw [HE.out];rfl,?_⟩;rw [HE.out,if_neg HF.out];exact HTO.out
   ·cases hol:A.aI (x/4)
    ·have HF:=Hz (show ¬ (y%4=1∧A.az (y/4)=true∧A.aI (x/4)=true) by rw [hol];exact fun h=>by cases h.2.2);clear hy4;go_wp2_with fail;refine (dz y _ HY4.out).mono ?_;rintro e w2 ⟨rfl,rfl⟩;go_wp2_with fail;refine (cO (y/4) _ HW.out.ha).mono ?_;rintro e w2 ⟨rfl,rfl⟩;rw [hyo];go_wp2_with fail;refine (iG (x/4) _ HW.out.ha).mono ?_;rintro e w2 ⟨rfl,rfl⟩;rw [hol];go_wp2_with fail;go_ret;refine ⟨by rw [HE.out];rfl,?_⟩;rw [HE.out,if_neg HF.out];exact HTO.out
    ·have HF:=Hz (show (y%4=1∧A.az (y/4)=true∧A.aI (x/4)=true) from ⟨hy4,hyo,hol⟩);clear hy4;go_wp2_with fail;refine (dz y _ HY4.out).mono ?_;rintro e w2 ⟨rfl,rfl⟩;go_wp2_with fail;refine (cO (y/4) _ HW.out.ha).mono ?_;rintro e w2 ⟨rfl,rfl⟩;rw [hyo];go_wp2_with fail;refine (iG (x/4) _ HW.out.ha).mono ?_;rintro e w2 ⟨rfl,rfl⟩;rw [hol];go_wp2_with fail;have hcc:=HW.out.hc;have hcl:=HW.out.ok.hc;have hnn:A.nur=O.ar.nur:=by rw [←HA.out];exact O.ar.cU _ _
     refine (wP h.pc h.cb A.nur (x/4) O.cd _ hcc (by rw [hnn];exact HN.out.1) (by rw [hnn];exact HN.out.2) (by omega) (by omega) (by simpa using Nat.le_trans hcl (by decide))).mono ?_;rintro e w2 ⟨rfl,hc2,hk2⟩;have HTO2:=Hz (show fQ w h w2 { O with ar:=A,cd:=gR O.ar.nur O.cd (x/4) } by
      have:=HW.out.cards hc2 (by rw [gX];exact hcl) hk2;refine ⟨h,?_,rfl,(HT.out.mono (fun k _ hk=>.inr (.inl hk))).then hk2 (fun k hk=>.inl (by subst hk;exact .inr (.inr (.inl (.inr rfl))))),fun k hk=>.inl hk⟩;rw [hnn] at this
      exact this)
     clear hcc hcl hnn hc2 hk2;go_wp2_with fail;go_ret;refine ⟨by rw [HE.out];rfl,?_⟩;rw [HE.out,if_pos HF.out];exact HTO2.out
  ·have HY4:=Hz hy4;have HF:=Hz (show ¬ (y%4=1∧A.az (y/4)=true∧A.aI (x/4)=true) from fun h=>hy4 h.1);clear hy4;go_wp2_with fail;refine (lF y _ HY4.out).mono ?_;rintro e w2 ⟨rfl,rfl⟩;go_wp2_with fail;go_ret;refine ⟨by rw [HE.out];rfl,?_⟩;rw [HE.out,if_neg HF.out];exact HTO.out
 ·have HE:=Hz (Wo.wU (y:=y) hc);have HTC:=Hz (qq x i H);obtain ⟨⟨a,c⟩,hT⟩:∃ t,O.ar.get x i=t:=⟨_,rfl⟩;rw [hT] at hc HE HTC;dsimp only at hc HE HTC;have hcb:(c != 0)=true:=by simpa using hc
  clear H hc hT;go_enter Tryz.func47,Tryz.ntmps47;go_wp2_with fail;refine HTC.out.mono ?_;rintro e w1 ⟨rfl,rfl⟩;go_wp2_with fail;go_ret;refine ⟨by rw [HE.out];rfl,?_⟩;rw [HE.out];exact fQ.same HH.out (aa.refl _ _)
end
def zS (w:World) (n o:Int) (e:Ending) (w':World):Prop:=
 ∃ h,e=.returned (.tuple #[.pointer (some ⟨h.p,0,none⟩), .agg #[.int .i64 0, .int .i64 0]])∧bh w' h (Wo.new n o)∧aa (fun _=>False) w w'∧∀ k,h.Own k→w.heap.size≤k
theorem Wo.jX {n o:Int} (h:Ar.fits n o=true):(Wo.new n o).ok:=by
 have h':=h;simp [Ar.fits] at h';refine ⟨Ar.jX h,by simp [Wo.new],fun x hx=>?_,fun e he=>by simp [Wo.new] at he,fun e he=>by simp [Wo.new] at he,by simp [Wo.new],?_⟩
 ·simp [Wo.new] at hx;subst hx;unfold a9;omega
 ·simp [Wo.new,gC];omega
structure mJ (w:World) (h:WH) (n o:Int) (wr:World) (k:Nat) (v:Value):Prop where
 hp:aj wr h.p [.pointer (some ⟨h.pa,0,none⟩), .pointer (some ⟨h.pc,0,none⟩), .pointer (some ⟨h.ps,0,none⟩),v] 52
 ha:bC wr h.pa h.g (Ar.new n o)
 hc:cP wr h.pc h.cb n (List.replicate (gC o) false)
 hs:aZ wr h.ps (.slice none 0 0) (.slice none 0 0) [] []
 hr:Sl wr 2 1 v k (List.replicate k (.int .i64 2))
 hk:aa (fun _=>False) w wr
 o1:w.heap.size≤h.p
 o2:w.heap.size≤h.pa
 o3:w.heap.size≤h.g
 o4:w.heap.size≤h.pc
 o5:w.heap.size≤h.cb
 o6:w.heap.size≤h.ps
 o7:∀ b,ak v b→w.heap.size≤b
 ap:¬ ak v h.g
 hz:aj wr w.heap.size [.int .i64 0, .int .i64 0] 28
theorem mJ.app {w wr wa w2:World} {h:WH} {n o:Int} {k:Nat} {v v2:Value} (H:mJ w h n o wr k v) (ka:aa (fun _=>False) wr wa) (hs2:Sl w2 2 1 v2 (k+1) (List.replicate k (.int .i64 2) ++ [.int .i64 2])) (hk2:aa (ak v) wa w2) (ho2:∀ b,ak v2 b→ak v b∨wa.heap.size≤b) :
  mJ w h n o (w2.setCell ⟨h.p,3,none⟩ v2) (k+1) v2:=by
 have own:=fun b (hb:ak v b)=>(H.hr.ab ka (fun _ _ h=>h)).own hb;have ne1:∀ {b:Nat} {c:List Value} {T:TypeId},aj wr b c T→T≠2→¬ ak v b:=fun hb hT hv=>by
  obtain ⟨_,c',hc⟩:=own _ hv;exact (ka.aq hb (fun h=>h)).ne hc hT rfl
 have lt1:∀ {b:Nat} {c:List Value} {T:TypeId},aj wr b c T→b<wa.heap.size:=fun hb=>(ka.aq hb (fun h=>h)).lt;have k2:=(ka.mono (T:=ak v) (fun _ _ h=>h.elim)).trans hk2;have hsz:=H.hk.size;have hpl:=H.hp.lt;have kc:=fun {S:Nat→Prop} (k:aa S wr w2)=>k;have hp2:=k2.aq H.hp (ne1 H.hp (by decide));have set:=(aa.refl (·=h.p) w2).setCell (p:=⟨h.p,3,none⟩) (.inl rfl) v2;have nep:∀ {b:Nat} {c:List Value} {T:TypeId},aj w2 b c T→T≠52→¬ b=h.p:=fun hb hT=>hb.ne hp2 hT;have ha2:=H.ha.ab k2 (ne1 H.ha.hp (by decide)) H.ap;have hc2:=H.hc.ab k2 (ne1 H.hc.hp (by decide)) (ne1 H.hc.hq (by decide));have fsd:∀ b,aF h.ps (.slice none 0 0) (.slice none 0 0) b→b=h.ps:=fun b hb=>by
  rcases hb with h | h | h
  ·exact h
  ·exact (ck h).elim
  ·exact (ck h).elim
 have hs3:=H.hs.ab k2 (fun b hb=>by rw [fsd b hb];exact ne1 H.hs.hp (by decide));refine ⟨by simpa using hp2.aG 3 v2,ha2.ab set (nep ha2.hp (by decide)) (nep ha2.hg (by decide)),hc2.ab set (nep hc2.hp (by decide)) (nep hc2.hq (by decide)),hs3.ab set (fun b hb=>by rw [fsd b hb];exact nep hs3.hp (by decide)),?_,?_,H.o1,H.o2,H.o3,H.o4,H.o5,H.o6,?_,?_,?_⟩
 ·rw [←List.replicate_succ'] at hs2;exact hs2.ab set (fun b hb e=>by
   obtain ⟨_,c',hc⟩:=hs2.own hb
   exact nep hc (by decide) e)
 ·exact (H.hk.then k2 (fun b hb=>.inr (H.o7 b hb))).setCell (.inr H.o1) _
 ·intro b hb;rcases ho2 b hb with h1 | h1
  ·exact H.o7 b h1
  ·have:=ka.size;omega
 ·intro hb;rcases ho2 _ hb with h1 | h1
  ·exact H.ap h1
  ·have:=lt1 H.ha.hg;omega
 ·have hz2:=k2.aq H.hz (ne1 H.hz (by decide));exact set.aq hz2 (nep hz2 (by decide))
theorem mJ.done {w wr:World} {h:WH} {n o:Int} {v:Value} (H:mJ w h n o wr 12 v) (hf:Ar.fits n o=true):bh wr { h with ro:=v,rv:=.slice none 0 0,wv:=.slice none 0 0 } (Wo.new n o) ∧
  ∀ k,({ h with ro:=v,rv:=.slice none 0 0,wv:=.slice none 0 0 }:WH).Own k→w.heap.size≤k:=by
 have hn:((Ar.new n o).nur:Int)=n:=by simp [Ar.fits] at hf;simp [Ar.new];omega
 refine ⟨⟨H.hp,H.ha,?_,H.hs,?_,H.ap,Wo.jX hf⟩,?_⟩
 ·show cP wr h.pc h.cb ((Ar.new n o).nur:Int) _
  rw [hn];exact H.hc
 ·have e:(Wo.new n o).rt=List.replicate 12 2:=rfl;rw [e];simpa using H.hr
 ·rintro k (rfl | (rfl | rfl) | (rfl | rfl) | (rfl | h1 | h1) | h1)
  ·exact H.o1
  ·exact H.o2
  ·exact H.o3
  ·exact H.o4
  ·exact H.o5
  ·exact H.o6
  ·exact (ck h1).elim
  ·exact (ck h1).elim
  ·exact H.o7 k h1
theorem zT (n o:Int) (w:World) (h:Ar.fits n o=false) :
  Calls Tryz.prog 44 #[.int .i64 n, .int .i64 o] w fun e w'=>e=.returned (.tuple #[.pointer none, .agg #[.int .i64 1, .int .i64 (-1)]])∧aa (fun _=>False) w w':=by
 go_enter Tryz.func44,Tryz.ntmps44;go_wp2_with fail;refine (zN n o _ h).mono ?_;rintro e w1 ⟨rfl,hk⟩;have HK:=Hz (((Kz w).alloc (.cells #[.int .i64 0, .int .i64 0] 28)).trans hk);go_wp2_with fail;have HB:=Hz (aj.newAt (w:=w1) (b:=w1.heap.size) (T:=28) #[.int .i64 1, .int .i64 (-1)] rfl rfl);have h0:=HB.out.cell 0;have h1:=HB.out.cell 1;have hl:=HB.out.lt;have k0:aj (w.alloc (.cells #[.int .i64 0, .int .i64 0] 28)) w.heap.size [.int .i64 0, .int .i64 0] 28:=aj.newAt _ rfl rfl;have k1:=(hk.aq k0 (fun h=>h)).alloc (.cells #[.int .i64 1, .int .i64 (-1)] 28);have l0:=k1.cell 0;have l1:=k1.cell 1;have ll:=k1.lt;have f0:=k1.free 0;have f1:=k1.free 1;simp only [Lz,aC] at h0 h1 l0 l1;have HKA:=Hz (HK.out.alloc (.cells #[.int .i64 1, .int .i64 (-1)] 28));clear hk k0 k1;generalize w1.alloc (.cells #[.int .i64 1, .int .i64 (-1)] 28)=wa at *;refine a8 (.free 1 (.pure 0 (.run 2 (.swi [] (.fin))))) [2] (Fz h0 (Fa h1)) ?_
 iterate 2 refine Wz ?_
 refine aA rfl rfl rfl (fun K hK=>?_);unfold aw;go_simp;refine hK _ _ ?_;clear hK K;refine aB (fun _=>True) trivial (av ?_);go_wp2_with fail;refine bodyPost_ret (v:=.tuple #[.pointer none, .agg #[.int .i64 1, .int .i64 (-1)]]) (by simp [results,Tryz.results44,go_sem,l0,l1]) rfl ⟨rfl,(HKA.out.drew.setCell (p:=⟨w.heap.size,0,none⟩) (.inr (Nat.le_refl _)) _).setCell (p:=⟨w.heap.size,1,none⟩) (.inr (Nat.le_refl _)) _⟩
theorem yq (n o:Int) (w:World) (h:Ar.fits n o=true) :
  Calls Tryz.prog 44 #[.int .i64 n, .int .i64 o] w fun e w'=>zS w n o e w':=by
 have HF:=Hz h;have ho:o≤1000000∧-9223372036854775808≤o:=by simp [Ar.fits] at h;omega
 obtain ⟨i0,hi,hz0,hz1,hz2⟩:=info_parts py;have Hi:=Hz hi;have Hz0:=Hz hz0;have Hz1:=Hz hz1;have Hz2:=Hz hz2;clear hi hz0 hz1 hz2;clear h;go_enter Tryz.func44,Tryz.ntmps44;go_wp2_with fail;refine (yf n o _ HF.out).mono ?_;rintro e w1 ⟨pa,g,rfl,hA,hk,hpa,hg⟩;have HA:=Hz hA;have HK:=Hz (((Kz w).alloc (.cells #[.int .i64 0, .int .i64 0] 28)).trans hk);have HZ:=Hz (hk.aq (show aj (w.alloc (.cells #[.int .i64 0, .int .i64 0] 28)) w.heap.size [.int .i64 0, .int .i64 0] 28 from aj.newAt _ rfl rfl) (fun h=>h));have hsz:=hk.size;simp at hsz hpa hg;have HPA:=Hz hpa;have HG:=Hz hg;clear hA hk hpa hg;go_wp2_with fail;refine (Cd n o _ ho.1 ho.2).mono ?_;rintro e w2 ⟨rfl,hC,hz,hk⟩;have hka:=(Kz w1).alloc (.cells #[.int .i64 0, .int .i64 0] 28);have HC:=Hz hC;have HK2:=Hz (HK.out.trans (hka.trans hk));have HA2:=Hz (HA.out.ab (hka.trans hk) (fun h=>h) (fun h=>h));have HZ2:=Hz ((hka.trans hk).aq HZ.out (fun h=>h));have hsz2:=hk.size;simp at hsz2;clear hC hk hz hka;go_wp2_with fail;have HN:=Hz (show mJ w ⟨w2.heap.size+1,pa,g,w1.heap.size+1+1,w1.heap.size+1,w2.heap.size, .slice none 0 0, .slice none 0 0, .slice none 0 0⟩ n o ((w2.alloc (.cells #[.slice none 0 0, .slice none 0 0] 133)).alloc (.cells #[.pointer (some ⟨pa,0,none⟩), .pointer (some ⟨w1.heap.size+1+1,0,none⟩), .pointer (some ⟨w2.heap.size,0,none⟩), .slice none 0 0] 52)) 0 (.slice none 0 0) by
  have k1:=(Kz w2).alloc (.cells #[.slice none 0 0, .slice none 0 0] 133);have k2:=(Kz (w2.alloc (.cells #[.slice none 0 0, .slice none 0 0] 133))).alloc (.cells #[.pointer (some ⟨pa,0,none⟩), .pointer (some ⟨w1.heap.size+1+1,0,none⟩), .pointer (some ⟨w2.heap.size,0,none⟩), .slice none 0 0] 52);have k12:=k1.trans k2;have hc:=HC.out;simp only [World.size_alloc] at hc;have s0:w.heap.size≤w1.heap.size:=by omega
  refine ⟨aj.newAt _ (by simp) rfl,HA2.out.ab k12 (fun h=>h) (fun h=>h),hc.ab k12 (fun h=>h) (fun h=>h),?_,Sl.nil _ _ _,HK2.out.trans k12,?_,?_,?_,?_,?_,?_,fun b hb=>(ck hb).elim,fun hb=>ck hb,k12.aq HZ2.out (fun h=>h)⟩
  ·refine ⟨(aj.newAt _ rfl rfl).alloc _,Sl.nil _ _ _,Sl.nil _ _ _,fun k hk=>ck hk.1⟩
  all_goals (have h1:=HPA.out;have h2:=HG.out;dsimp only;omega))
 clear HC HK2 HA2;generalize (w2.alloc (.cells #[.slice none 0 0, .slice none 0 0] 133)).alloc (.cells #[.pointer (some ⟨pa,0,none⟩), .pointer (some ⟨w1.heap.size+1+1,0,none⟩), .pointer (some ⟨w2.heap.size,0,none⟩), .slice none 0 0] 52)=wb at *;go_loopw [27] (fun i wr=>∃ (k:Nat) (v:Value),k≤12∧i=.int .i64 k∧mJ w ⟨w2.heap.size+1,pa,g,w1.heap.size+1+1,w1.heap.size+1,w2.heap.size, .slice none 0 0, .slice none 0 0, .slice none 0 0⟩ n o wr k v) (fun i _=>12-(intOf i).toNat)
 case atStart=>exact ⟨0,_,Nat.zero_le _,rfl,HN.out⟩
 case round=>
  clear HN;obtain ⟨k,v,hk,rfl,hI⟩:=hrel;have HI:=Hz hI;clear hI;by_cases hlt:k<12
  ·have c3:=HI.out.hp.cell 3;have pl:=HI.out.hp.lt;have f3:=HI.out.hp.free 3;simp only [Lz,aC] at c3;obtain ⟨ao,cap,rfl,-,-,-⟩:=HI.out.hr.rd;go_wp2_with fail;refine a8 (.free 0 (.free 1 (.free 2 (.free 3 (.pure 4 (.run 5 (.run 6 (.run 7 (.swi [10] (.free 8 (.free 9 (.run 10 (.swi [] (.fin)))))))))))))) [7,8,9,10] (Fa c3) ?_
   iterate 5 refine Wz ?_
   refine aM rfl rfl (fun K hK=>?_);unfold aw;go_simp;refine (vF _).mono ?_;rintro e w3 ⟨rfl,rfl⟩;refine hK _ _ (fun h=>h) ?_;clear hK K;refine aM rfl rfl (fun K hK=>?_);unfold aw;go_simp;have hkb:aa (fun _=>False) wr ((wr.drew).alloc (.cells #[.int .i64 2] 2)):=(Kz wr).drew.alloc (.cells #[.int .i64 2] 2);refine hK _ _ (fun _=>(hkb.aq HI.out.hp (fun h=>h)).cell 3) ?_;clear hK K;refine aA rfl rfl rfl (fun K hK=>?_);refine dF (.tmp 33) (.tmp 35) 50 rfl 2 i0 (.int .i64 0) 1 8 Tryz.underlying50 Hi.out Hz0.out Hz1.out Hz2.out rfl (by decide) _ k (List.replicate k (.int .i64 2)) rfl (HI.out.hr.ab hkb (fun _ _ h=>h)) ⟨wr.heap.size,0,none⟩ 1 1 [.int .i64 2] rfl rfl (bX wr.drew 2 #[.int .i64 2]) (by intro u hu;simp at hu;subst hu;rfl) (by unfold maxLen;omega) (by omega) ?_;intro v3 w3 hs3 hk3 ho3;have HI3:=Hz (HI.out.app hkb hs3 hk3 ho3);have hp3:=hk3.aq (hkb.aq HI.out.hp (fun h=>h)) (fun hv=>by obtain ⟨_,c',hc⟩:=(HI.out.hr.ab hkb (fun _ _ h=>h)).own hv;exact (hkb.aq HI.out.hp (fun h=>h)).ne hc (by decide) rfl);have x0:=hp3.cell 3;have xf:=hp3.free 3;have xl:=hp3.lt;simp only [Lz,aC] at x0;refine hK _ _ ?_;clear hK K hkb hs3 hk3 ho3 hp3 c3 pl f3;refine aB (fun _=>True) trivial ?_;obtain ⟨vo3,vc3,rfl,-,-,-⟩:=HI3.out.hr.rd
   iterate 2 refine Wz ?_
   refine aA rfl rfl rfl (fun K hK=>?_);unfold aw;go_simp;refine hK _ _ ?_;clear hK K;refine aB (fun _=>True) trivial (av ?_);clear x0 xf xl;go_wp2_with fail;go_roundw
   case rel=>exact ⟨k+1,_,by omega,by go_num,HI3.out⟩
   case measure=>simp [intOf];omega
  ·obtain rfl:k=12:=by omega
   have z0:=HI.out.hz.cell 0;have z1:=HI.out.hz.cell 1;have zl:=HI.out.hz.lt;have zf:=HI.out.hz.free 0;have zg:=HI.out.hz.free 1;simp only [Lz,aC] at z0 z1;have HD:=Hz (HI.out.done HF.out);have HKI:=Hz HI.out.hk;go_wp2_with fail;refine bodyPost_ret (v:=.tuple #[.pointer (some ⟨w2.heap.size+1,0,none⟩), .agg #[.int .i64 0, .int .i64 0]]) (by simp [results,Tryz.results44,go_sem,z0,z1]) rfl ⟨_,rfl,?_,(HKI.out.setCell (p:=⟨w.heap.size,0,none⟩) (.inr (Nat.le_refl _)) _).setCell (p:=⟨w.heap.size,1,none⟩) (.inr (Nat.le_refl _)) _,HD.out.2⟩;have hD:=HD.out.1;have ke:=((aa.refl (·=w.heap.size) wr).setCell (p:=⟨w.heap.size,0,none⟩) (.inl rfl) (.int .i64 0)).setCell (p:=⟨w.heap.size,1,none⟩) (.inl rfl) (.int .i64 0);exact hD.ab ke (fun b hb e=>by
    subst e;have hzz:=HI.out.hz;rcases hb with e | (e | e) | (e | e) | e | e
    ·exact hzz.ne hD.hp (by decide) e
    ·exact hzz.ne hD.ha.hp (by decide) e
    ·exact hzz.ne hD.ha.hg (by decide) e
    ·exact hzz.ne hD.hc.hp (by decide) e
    ·exact hzz.ne hD.hc.hq (by decide) e
    ·exact hD.uV hzz (by decide) (by decide) e
    ·exact hD.kB hzz (by decide) e)
end
section
open Go.RowKit
def cy {α:Type} (c:Nat) (R:α→List Value→Prop):List α→List Value→Prop
 | [],cs=>cs=[]
 | a :: l,cs=>∃ r rest,cs=r ++ rest∧r.length=c∧R a r∧cy c R l rest
section
variable {α:Type} {c:Nat} {R Q:α→List Value→Prop}
theorem cy.length:∀ {l:List α} {cs:List Value},cy c R l cs→cs.length=l.length*c
 | [],cs,h=>by cases h;simp
 | a :: l,cs,h=>by
  obtain ⟨r,rest,rfl,h1,_,h2⟩:=h;rw [List.length_append,h1,cy.length h2,List.length_cons,Nat.succ_mul];omega
theorem cy.mono {l:List α} (hq:∀ a ∈ l, ∀ r,R a r→Q a r):∀ {cs:List Value},cy c R l cs→cy c Q l cs:=by
 induction l with
 | nil=>intro cs h;exact h
 | cons a l ih=>
  intro cs h;obtain ⟨r,rest,rfl,h1,h2,h3⟩:=h;exact ⟨r,rest,rfl,h1,hq a (by simp) r h2,ih (fun b hb=>hq b (by simp [hb])) h3⟩
theorem cy.app:∀ {l:List α} {cs:List Value} {a:α} {r:List Value},cy c R l cs→r.length=c→R a r→cy c R (l ++ [a]) (cs ++ r)
 | [],cs,a,r,h,h1,h2=>by cases h;exact ⟨r,[],by simp,h1,h2,rfl⟩
 | b :: l,cs,a,r,h,h1,h2=>by
  obtain ⟨r',rest,rfl,h3,h4,h5⟩:=h;exact ⟨r',rest ++ r,by simp,h3,h4,cy.app h5 h1 h2⟩
theorem cy.get:∀ {l:List α} {cs:List Value} {i:Nat} (h:i<l.length),cy c R l cs→∃ r,(cs.drop (i*c)).take c=r∧r.length=c∧R l[i] r
 | a :: l,cs,0,_,h=>by
  obtain ⟨r,rest,rfl,h1,h2,_⟩:=h;exact ⟨r,by simp [←h1],h1,h2⟩
 | a :: l,cs,i+1,hi,h=>by
  obtain ⟨r,rest,rfl,h1,_,h2⟩:=h;obtain ⟨r',e,h3,h4⟩:=cy.get (i:=i) (by simpa using hi) h2;refine ⟨r',?_,h3,h4⟩;rw [←e,Nat.succ_mul,Nat.add_comm,←h1,←List.drop_drop,List.drop_left]
theorem cy.cell {l:List α} {cs:List Value} {i:Nat} (h:i<l.length) (hr:cy c R l cs):∃ r,r.length=c∧R l[i] r∧∀ j,j<c→cs[i*c+j]? = r[j]? := by
 obtain ⟨r,e,h1,h2⟩:=cy.get h hr;refine ⟨r,h1,h2,fun j hj=>?_⟩;rw [←e,List.getElem?_take,if_pos hj,List.getElem?_drop]
theorem cy.set:∀ {l:List α} {cs:List Value} {i:Nat} {a:α} {r:List Value} (_:i<l.length),cy c R l cs→r.length=c→R a r →
  cy c R (l.set i a) (cs.take (i*c) ++ r ++ cs.drop (i*c+c))
 | b :: l,cs,0,a,r,_,h,h1,h2=>by
  obtain ⟨r',rest,rfl,h3,_,h5⟩:=h;refine ⟨r,rest,?_,h1,h2,h5⟩;simp [←h3]
 | b :: l,cs,i+1,a,r,hi,h,h1,h2=>by
  obtain ⟨r',rest,rfl,h3,h4,h5⟩:=h;refine ⟨r',_,?_,h3,h4,cy.set (i:=i) (by simpa using hi) h5 h1 h2⟩;have e:(i+1)*c=r'.length+i*c:=by rw [Nat.succ_mul,h3];omega
  rw [e,List.take_append,List.take_of_length_le (by omega),show r'.length+i*c-r'.length=i*c by omega,show r'.length+i*c+c=r'.length+(i*c+c) by omega,←List.drop_drop,List.drop_left];simp
theorem cy.setCell {l:List α} {cs:List Value} {i j:Nat} {a:α} {u:Value} (h:i<l.length) (hj:j<c) (hr:cy c R l cs) (hR:∀ r,r.length=c→R l[i] r→R a (r.set j u)) :
  cy c R (l.set i a) (cs.set (i*c+j) u):=by
 obtain ⟨r,e,h1,h2⟩:=cy.get h hr;have hlen:=cy.length hr;have hm:i*c+c≤l.length*c:=by rw [←Nat.succ_mul];exact Nat.mul_le_mul_right _ h
 have:=cy.set (a:=a) (r:=r.set j u) h hr (by simpa using h1) (hR r h1 h2);have e2:cs.set (i*c+j) u=cs.take (i*c) ++ r.set j u ++ cs.drop (i*c+c):=by
  apply List.ext_getElem?;intro k;rw [List.getElem?_set];by_cases k1:k<i*c
  ·rw [if_neg (by omega),List.append_assoc,List.getElem?_append_left (by simp;omega),List.getElem?_take,if_pos k1]
  ·by_cases k2:k<i*c+c
   ·rw [List.append_assoc,List.getElem?_append_right (by simp;omega),List.length_take,List.getElem?_append_left (by simp;omega),List.getElem?_set,Nat.min_eq_left (by omega)];by_cases e3:i*c+j=k
    ·rw [if_pos e3,if_pos (by omega),if_pos (by omega),if_pos (by omega)]
    ·rw [if_neg e3,if_neg (by omega),←e,List.getElem?_take,if_pos (by omega),List.getElem?_drop];congr 1;omega
   ·rw [if_neg (by omega),List.getElem?_append_right (by simp;omega),List.getElem?_drop];congr 1;simp;omega
 rw [e2];exact this
end
end
section
open Go.RowKit Go.Maps
theorem Rd.int64 {w:World} {ao:Option Addr} {l:List Int} (h:Rd w ao (l.map (Value.int .i64))) (i:Nat) (hi:i<l.length) :
  ∃ g o,ao=some ⟨g,o,none⟩∧g<w.heap.size∧w.cell? ⟨g,o+i,none⟩=some (.int .i64 (l.getD i 0)):=by
 obtain ⟨g,o,rfl,hg,hc⟩:=h (by intro e;simp at e;subst e;simp at hi);refine ⟨g,o,rfl,hg,?_⟩;rw [hc i (by simpa using hi)];simp [List.getD,hi]
theorem Sl.set {w:World} {e size:Nat} {g o n cap j:Nat} {xs:List Value} {u:Value} (h:Sl w e size (.slice (some ⟨g,o,none⟩) n cap) n xs) (hj:j<n*size) :
  Sl (w.setCell ⟨g,o+j,none⟩ u) e size (.slice (some ⟨g,o,none⟩) n cap) n (xs.set j u):=by
 obtain ⟨hl,⟨h1,_⟩ | ⟨g',o',cap',cur,e1,hb,h1,h2,h3,h4⟩⟩:=h
 ·cases h1
 ·cases e1;refine ⟨by simpa using hl, .inr ⟨g,o,cap,_,rfl,hb.aG _ _,h1,h2,by simpa using h3,?_⟩⟩;rw [←h4];apply List.ext_getElem?;intro k;simp only [List.getElem?_take,List.getElem?_drop,List.getElem?_set,List.length_take,List.length_drop];by_cases hk:k<n*size
  ·rw [if_pos hk,if_pos hk];by_cases e:j=k
   ·subst e;have:n*size≤cap*size:=Nat.mul_le_mul_right _ h1;rw [if_pos rfl,if_pos rfl,if_pos (by omega),if_pos (by omega)]
   ·rw [if_neg (by omega),if_neg e]
  ·rw [if_neg hk,if_neg (by omega)];rw [if_neg hk]
def fR (w:World) (F:Nat→Prop) (nd:Nd) (r:List Value):Prop:=
 ∃ ao cap,r=[.int .i64 nd.1, .slice ao nd.2.length cap]∧Rd w ao (aE nd.2)∧(∀ a,ao=some a→F a.block)∧nd.2.length≤maxLen
theorem fR.ab {w w':World} {F S:Nat→Prop} {nd:Nd} {r:List Value} (h:fR w F nd r) (k:aa S w w') (hn:∀ b,F b→b<w.heap.size→¬ S b):fR w' F nd r:=by
 obtain ⟨ao,cap,e,hr,hf,hc⟩:=h;exact ⟨ao,cap,e,hr.ab k (fun a ha hb=>hn _ (hf a ha) hb),hf,hc⟩
theorem fR.more {w:World} {F F':Nat→Prop} {nd:Nd} {r:List Value} (h:fR w F nd r) (hF:∀ b,F b→F' b):fR w F' nd r:=by
 obtain ⟨ao,cap,e,hr,hf,hc⟩:=h;exact ⟨ao,cap,e,hr,fun a ha=>hF _ (hf a ha),hc⟩
def dw (w:World) (nv:Value) (F:Nat→Prop) (l:List Nd):Prop:=∃ cs,Sl w 139 2 nv l.length cs∧cy 2 (fR w F) l cs
theorem dw.ab {w w':World} {F S:Nat→Prop} {nv:Value} {l:List Nd} (h:dw w nv F l) (k:aa S w w') (hn:∀ b,F b→b<w.heap.size→¬ S b) (hv:∀ b,ak nv b→¬ S b):dw w' nv F l:=by
 obtain ⟨cs,h1,h2⟩:=h;exact ⟨cs,h1.ab k hv,h2.mono (fun a _ r hr=>hr.ab k hn)⟩
theorem dw.nil (w:World) (F:Nat→Prop):dw w (.slice none 0 0) F []:=⟨[],Sl.nil _ _ _,rfl⟩
def eN (w:World) (b:Nat) (met:List Int):Prop:=
 ∃ n D,w.ownsMap (H:=Unit) Tryz.prog 3 (plainElem Tryz.prog 3) b n D∧n≤met.length ∧
  ∀ x:Int,-9223372036854775808≤x→x≤9223372036854775807→Maps.has D (.int .i64 x)=decide (x ∈ met)∧(x ∈ met→D.atKey (.int .i64 x) (.lit (.int .i64 0))=.lit (.int .i64 (met.idxOf x:Nat)))
theorem eN.lt {w:World} {b:Nat} {met:List Int} (h:eN w b met):b<w.heap.size:=by
 obtain ⟨n,D,h,_⟩:=h;exact h.lt
theorem eN.ne {w:World} {b:Nat} {met:List Int} (h:eN w b met) {k:Nat} {c:List Value} {T:TypeId} (hk:aj w k c T):k≠b:=by
 rintro rfl;obtain ⟨n,D,⟨es,clock,hb,_⟩,_⟩:=h;unfold aj at hk;rw [hb] at hk;cases hk
theorem eN.ab {w w':World} {b:Nat} {met:List Int} {S:Nat→Prop} (h:eN w b met) (k:aa S w w') (hn:¬ S b):eN w' b met:=by
 obtain ⟨n,D,⟨es,clock,hb,hr⟩,h2⟩:=h;exact ⟨n,D,⟨es,clock,(k.block b (Array.getElem?_eq_some_iff.1 hb).1 hn).trans hb,hr⟩,h2⟩
theorem eN.made (w:World):eN (w.alloc (.map #[] 0)) w.heap.size []:=
 ⟨0, .map [],World.ownsMap_made _ _ _ _,Nat.le_refl _,fun x _ _=>⟨rfl,fun h=>by cases h⟩⟩
theorem uh {w w':World} {b:Nat} (h:w.grownBy w' (some b)):aa (·=b) w w':=
 ⟨h.os,h.tape,h.output,h.size,fun k hk hn=>h.block k hk (fun e=>hn (by cases e;rfl))⟩
theorem eN.push {w w':World} {b n:Nat} {met:List Int} {x:Int} {D:DataW Unit} (hown:w.ownsMap (H:=Unit) Tryz.prog 3 (plainElem Tryz.prog 3) b n D) (hn:n≤met.length)
  (hD:∀ x:Int,-9223372036854775808≤x→x≤9223372036854775807→Maps.has D (.int .i64 x)=decide (x ∈ met)∧(x ∈ met→D.atKey (.int .i64 x) (.lit (.int .i64 0))=.lit (.int .i64 (met.idxOf x:Nat))))
  (hm:¬ x ∈ met) (h1:w'.ownsMap Tryz.prog 3 (plainElem Tryz.prog 3) b (n+1) (D.put (.int .i64 x) (.lit (.int .i64 (met.length:Nat))))):eN w' b (met ++ [x]):=by
 refine ⟨n+1,_,h1,by simp;omega,fun y y1 y2=>?_⟩;have hM:=hown.isMap;by_cases e:y=x
 ·subst e;refine ⟨by rw [has_put_same hM (show WideAt.IsKeyLit (.int .i64 y) from trivial)];simp,fun _=>?_⟩;rw [atKey_put_same hM (show WideAt.IsKeyLit (.int .i64 y) from trivial),List.idxOf_append,if_neg hm];simp
 ·have hne:(Lit.int .i64 y)≠(Lit.int .i64 x):=fun h=>e (by cases h;rfl);have:=hD y y1 y2;refine ⟨by rw [has_put_other hne,this.1];simp [e],fun hy=>?_⟩;have hy':y ∈ met:=by simpa [e] using hy
  rw [atKey_put_other hne,this.2 hy',List.idxOf_append,if_pos hy']
end
section
open Go.RowKit Go.Maps
theorem rq:Keyed Tryz.prog 3:=int_keyed Tryz.underlying3
theorem sW (w:World):(zeroValue 3).run Tryz.prog w=.ok (.int .i64 0) w:=by kernel_rfl
section
variable {w w':World} {h:WH} {O:Wo}
theorem bh.bB (H:bh w h O) {k:Nat} (hk:h.Own k):∃ c T,aj w k c T∧(T=52∨T=141∨T=2∨T=168∨T=4∨T=133∨T=101):=by
 rcases hk with rfl | (rfl | rfl) | (rfl | rfl) | hk | hk
 ·exact ⟨_,_,H.hp, .inl rfl⟩
 ·exact ⟨_,_,H.ha.hp, .inr (.inl rfl)⟩
 ·exact ⟨_,_,H.ha.hg, .inr (.inr (.inl rfl))⟩
 ·exact ⟨_,_,H.hc.hp, .inr (.inr (.inr (.inl rfl)))⟩
 ·exact ⟨_,_,H.hc.hq, .inr (.inr (.inr (.inr (.inl rfl))))⟩
 ·obtain ⟨c,T,hc,hT⟩:=H.hs.cF hk;rcases hT with rfl | rfl
  ·exact ⟨_,_,hc, .inr (.inr (.inr (.inr (.inr (.inl rfl)))))⟩
  ·exact ⟨_,_,hc, .inr (.inr (.inr (.inr (.inr (.inr rfl)))))⟩
 ·obtain ⟨_,c,hc⟩:=H.hr.own hk;exact ⟨_,_,hc, .inr (.inr (.inl rfl))⟩
structure eZ (w:World) (q:Nat) (h:WH) (O:Wo) (b:Nat) (rv nv:Value) (F:Nat→Prop) (s:VS):Prop where
 hq:aj w q [.pointer (some ⟨h.p,0,none⟩), .map (some b),rv,nv] 118
 hw:bh w h O
 hm:eN w b s.1
 hn:dw w nv F s.2
 hl:s.2.length=s.1.length
 hF:∀ k,F k→k<w.heap.size∧¬ (k=q∨k=b∨ak nv k)
def lY (q b:Nat) (nv:Value) (k:Nat):Prop:=k=q∨k=b∨ak nv k
theorem dw.own {F:Nat→Prop} {nv:Value} {l:List Nd} (h:dw w nv F l) {k:Nat} (hk:ak nv k):k<w.heap.size∧∃ c,aj w k c 139:=by
 obtain ⟨cs,hs,_⟩:=h;exact hs.own hk
variable {q b:Nat} {rv nv:Value} {F:Nat→Prop} {s:VS}
theorem eZ.eO (V:eZ w q h O b rv nv F s) {k:Nat} (hk:h.Own k):¬ lY q b nv k:=by
 obtain ⟨c,T,hc,hT⟩:=V.hw.bB hk;have hne:T≠118∧T≠139:=by rcases hT with rfl | rfl | rfl | rfl | rfl | rfl | rfl <;> exact ⟨by decide,by decide⟩
 rintro (rfl | rfl | hk2)
 ·exact hc.ne V.hq hne.1 rfl
 ·exact V.hm.ne hc rfl
 ·obtain ⟨_,c',hc'⟩:=V.hn.own hk2;exact hc.ne hc' hne.2 rfl
theorem eZ.lt (V:eZ w q h O b rv nv F s) {k:Nat} (hk:lY q b nv k):k<w.heap.size:=by
 rcases hk with rfl | rfl | hk
 ·exact V.hq.lt
 ·exact V.hm.lt
 ·exact (V.hn.own hk).1
theorem eZ.kC (V:eZ w q h O b rv nv F s) {k:Nat} {c:List Value} {T:TypeId} (hc:aj w k c T) (h1:T≠118) (h2:T≠139):¬ lY q b nv k:=by
 rintro (rfl | rfl | hk2)
 ·exact hc.ne V.hq h1 rfl
 ·exact V.hm.ne hc rfl
 ·obtain ⟨_,c',hc'⟩:=V.hn.own hk2;exact hc.ne hc' h2 rfl
theorem eZ.ab {S:Nat→Prop} (V:eZ w q h O b rv nv F s) (k:aa S w w') (h1:∀ j,lY q b nv j→¬ S j) (h2:∀ j,h.Own j→¬ S j) (h3:∀ j,F j→¬ S j):eZ w' q h O b rv nv F s:=
 ⟨k.aq V.hq (h1 _ (.inl rfl)),V.hw.ab k h2,V.hm.ab k (h1 _ (.inr (.inl rfl))),V.hn.ab k (fun j hj _=>h3 j hj) (fun j hj=>h1 j (.inr (.inr hj))),V.hl,fun j hj=>⟨Nat.lt_of_lt_of_le (V.hF j hj).1 k.size,(V.hF j hj).2⟩⟩
theorem eZ.same (V:eZ w q h O b rv nv F s) (k:aa (fun _=>False) w w'):eZ w' q h O b rv nv F s:=V.ab k (fun _ _ h=>h) (fun _ _ h=>h) (fun _ _ h=>h)
def lZ (w:World) (q:Nat) (h:WH) (O:Wo) (b:Nat) (rv nv:Value) (F:Nat→Prop) (s':VS) (w':World):Prop:=
 ∃ nv' F',eZ w' q h O b rv nv' F' s'∧aa (lY q b nv) w w'∧(∀ k,ak nv' k→ak nv k∨w.heap.size≤k)∧∀ k,F' k→F k∨w.heap.size≤k
theorem lZ.refl (V:eZ w q h O b rv nv F s) (k:aa (fun _=>False) w w'):lZ w q h O b rv nv F s w':=
 ⟨nv,F,V.same k,k.mono (fun _ _ h=>h.elim),fun _ h=>.inl h,fun _ h=>.inl h⟩
def sX (w:World) (q:Nat) (h:WH) (O:Wo) (b:Nat) (rv nv:Value) (F:Nat→Prop) (r:Vl × VS) (e:Ending) (w':World):Prop:=
 e=.returned (.agg #[.int .i64 r.1.1, .int .i64 r.1.2])∧lZ w q h O b rv nv F r.2 w'
def zU (w:World) (q:Nat) (h:WH) (O:Wo) (b:Nat) (rv nv:Value) (F:Nat→Prop) (n:Nat) (s':VS) (e:Ending) (w':World):Prop:=
 e=.returned (.int .i64 n)∧lZ w q h O b rv nv F s' w'
theorem qs {x:Int} (h:x%4≠1):dt x=((fm x).1,(fm x).2.1):=if_neg h
theorem pF {x:Int} (h:x%4=1):dt x=(3,x/4):=if_pos h
theorem wV {x:Int} (h:x%4≠1):(dt x).1≠3:=by
 rw [qs h];dsimp only;unfold fm
 repeat' split
 all_goals (dsimp only;omega)
theorem rU (x:Int) (n:Nat) (V:eZ w q h O b rv nv F s) (hx:a9 x) (hm:x%4=1→x/4 ∈ s.1) (hl:s.1.length≤1000000) :
  Calls Tryz.prog 65 #[.pointer (some ⟨q,0,none⟩), .int .i64 x] w fun e w'=>sX w q h O b rv nv F (valM O.gr n (dt x) s) e w':=by
 have HV:=Hz V;by_cases h1:x%4=1
 ·have HE:=Hz (show valM O.gr n (dt x) s=(gY (s.1.idxOf (x/4)),s) by rw [pF h1];exact fL O.gr n rfl (hm h1));have H1:=Hz h1;have HM:=Hz (hm h1);have r1:-9223372036854775808≤x/4:=by have:=hx.1;omega
  have r2:x/4≤9223372036854775807:=by have:=hx.2;omega
  clear V h1 hm;go_enter Tryz.func65,Tryz.ntmps65;go_wp2_with fail;refine (dz x _ H1.out).mono ?_;rintro e w1 ⟨rfl,rfl⟩;have V1:=Hz (HV.out.same ((Kz w).alloc (.cells #[.int .i64 0, .int .i64 0] 96)));have c1:=V1.out.hq.cell 1;have cl:=V1.out.hq.lt;simp only [Lz,aC] at c1;obtain ⟨n0,D,hown,hn0,hD⟩:=V1.out.hm;have HD:=Hz (hD (x/4) r1 r2);clear hD;go_wp2_with (at_lookup;refine wpList_lookup_own_ok_int _ rfl _ _ 116 rfl 3 3 .i64 rq Tryz.underlying116 Tryz.underlying3 (sW _) b n0 D rfl hown _ _ rfl (keyOf_int_mk Tryz.underlying3 (WalkArith.wf_i64 (by constructor <;> omega))) ?_);intro c hat hwc;have hat2:=HD.out.2 HM.out;rw [hat] at hat2;obtain rfl:c=(s.1.idxOf (x/4):Nat):=by simpa using hat2
  rw [HD.out.1,decide_eq_true HM.out];clear hat hat2 hwc hown hn0;go_wp2_with fail;refine bodyPost_ret (v:=.agg #[.int .i64 3, .int .i64 (s.1.idxOf (x/4):Nat)]) (by simp [results,Tryz.results65,go_sem]) rfl ?_;refine ⟨by rw [HE.out];rfl,?_⟩;rw [HE.out];exact lZ.refl HV.out ((Kz w).alloc _)
 ·have HE:=Hz (show valM O.gr n (dt x) s=(((fm x).1,(fm x).2.1),s) by rw [dB O.gr n s (wV h1),qs h1]);have H1:=Hz h1;have HX:=Hz hx;clear V h1 hm hx;go_enter Tryz.func65,Tryz.ntmps65;go_wp2_with fail;refine (lF x _ H1.out).mono ?_;rintro e w1 ⟨rfl,rfl⟩;go_wp2_with fail;refine (yc x _ HX.out.1 HX.out.2).mono ?_;rintro e w1 ⟨rfl,hk⟩;have hka:=(Kz w).alloc (.cells #[.int .i64 0, .int .i64 0] 96);have HKA:=Hz (hka.trans hk);have l0:=(hk.aq (show aj (w.alloc (.cells #[.int .i64 0, .int .i64 0] 96)) w.heap.size [.int .i64 0, .int .i64 0] 96 from aj.newAt _ rfl rfl) (fun h=>h));have L0:=Hz l0;clear hka hk l0;obtain ⟨⟨dk,dn,dc⟩,hd⟩:∃ t,fm x=t:=⟨_,rfl⟩;rw [hd] at HE ⊢;clear hd;dsimp only at HE ⊢;have l0:=L0.out.cell 0;have l1:=L0.out.cell 1;have ll:=L0.out.lt;have f0:=L0.out.free 0;have f1:=L0.out.free 1;simp only [Lz,aC] at l0 l1;go_wp2_with fail;have bH:=((L0.out.aG 0 (.int .i64 dk)).aG 1 (.int .i64 dn)).alloc (.cells #[.int .i64 dk, .int .i64 dn] 96);have x0:=bH.cell 0;have x1:=bH.cell 1;simp only [List.set_cons_zero,List.set_cons_succ,Lz,aC] at x0 x1;refine bodyPost_ret (v:=.agg #[.int .i64 dk, .int .i64 dn]) (by simp [results,Tryz.results65,go_sem,x0,x1]) rfl ?_;refine ⟨by rw [HE.out],?_⟩;rw [HE.out];exact lZ.refl HV.out (((HKA.out.setCell (p:=⟨w.heap.size,0,none⟩) (.inr (Nat.le_refl _)) _).setCell (p:=⟨w.heap.size,1,none⟩) (.inr (Nat.le_refl _)) _).alloc _)
structure dR (w:World) (q:Nat) (h:WH) (O:Wo) (b:Nat) (rv nv:Value) (F:Nat→Prop) (s:VS) (lv:Value) (l:List Vl) (wr:World) (nv':Value) (F':Nat→Prop):Prop where
 V:eZ wr q h O b rv nv' F' s
 K:aa (lY q b nv) w wr
 o1:∀ k,ak nv' k→ak nv k∨w.heap.size≤k
 o2:∀ k,F' k→F k∨w.heap.size≤k
 L:Sl wr 96 2 lv l.length (aE l)
 o3:∀ k,ak lv k→w.heap.size≤k∧¬ F' k
theorem dR.kD {lv:Value} {l:List Vl} {wr:World} {nv':Value} {F':Nat→Prop} (I:dR w q h O b rv nv F s lv l wr nv' F') {k:Nat} (hk:ak lv k):¬ lY q b nv' k∧¬ h.Own k:=by
 obtain ⟨_,c,hc⟩:=I.L.own hk;constructor
 ·rintro (rfl | rfl | h1)
  ·exact hc.ne I.V.hq (by decide) rfl
  ·exact I.V.hm.ne hc rfl
  ·obtain ⟨_,c',hc'⟩:=I.V.hn.own h1;exact hc.ne hc' (by decide) rfl
 ·intro h1;obtain ⟨c',T,hc',hT⟩:=I.V.hw.bB h1;rcases hT with rfl | rfl | rfl | rfl | rfl | rfl | rfl <;> exact hc.ne hc' (by decide) rfl
theorem dR.told {lv:Value} {l:List Vl} {wr w2:World} {nv':Value} {F':Nat→Prop} {s2:VS} (I:dR w q h O b rv nv F s lv l wr nv' F') (t:lZ wr q h O b rv nv' F' s2 w2):∃ nv2 F2,dR w q h O b rv nv F s2 lv l w2 nv2 F2:=by
 obtain ⟨nv2,F2,V2,k2,p1,p2⟩:=t;refine ⟨nv2,F2,V2,I.K.then k2 (fun j hj=>?_),fun j hj=>?_,fun j hj=>?_,I.L.ab k2 (fun j hj=>(I.kD hj).1),fun j hj=>⟨(I.o3 j hj).1,fun hf=>?_⟩⟩
 ·rcases hj with rfl | rfl | hj
  ·exact .inl (.inl rfl)
  ·exact .inl (.inr (.inl rfl))
  ·rcases I.o1 j hj with h | h
   ·exact .inl (.inr (.inr h))
   ·exact .inr h
 ·rcases p1 j hj with h | h
  ·exact I.o1 j h
  ·exact .inr (Nat.le_trans I.K.size h)
 ·rcases p2 j hj with h | h
  ·exact I.o2 j h
  ·exact .inr (Nat.le_trans I.K.size h)
 ·rcases p2 j hf with h | h
  ·exact (I.o3 j hj).2 h
  ·have:=(I.L.own hj).1;omega
theorem dR.app {lv:Value} {l:List Vl} {wr wa w2:World} {nv' lv2:Value} {F':Nat→Prop} {v:Vl} (I:dR w q h O b rv nv F s lv l wr nv' F') (ka:aa (fun _=>False) wr wa)
  (hs:Sl w2 96 2 lv2 (l.length+1) (aE l ++ [.int .i64 v.1, .int .i64 v.2])) (hk:aa (ak lv) wa w2) (ho:∀ k,ak lv2 k→ak lv k∨wa.heap.size≤k):dR w q h O b rv nv F s lv2 (l ++ [v]) w2 nv' F':=by
 have k2:=(ka.mono (T:=ak lv) (fun _ _ h=>h.elim)).trans hk;refine ⟨I.V.ab k2 (fun j hj hl=>(I.kD hl).1 hj) (fun j hj hl=>(I.kD hl).2 hj) (fun j hj hl=>(I.o3 j hl).2 hj),I.K.then k2 (fun j hj=>.inr (I.o3 j hj).1),I.o1,I.o2,?_,fun j hj=>?_⟩
 ·have e:aE (l ++ [v])=aE l ++ [.int .i64 v.1, .int .i64 v.2]:=by simp [aE]
  rw [e,List.length_append];exact hs
 ·rcases ho j hj with h1 | h1
  ·exact I.o3 j h1
  ·have:=ka.size;have:=I.K.size;exact ⟨by omega,fun hf=>by have:=(I.V.hF j hf).1;omega⟩
theorem dR.same {lv:Value} {l:List Vl} {wr w2:World} {nv':Value} {F':Nat→Prop} (I:dR w q h O b rv nv F s lv l wr nv' F') (k:aa (fun _=>False) wr w2):dR w q h O b rv nv F s lv l w2 nv' F':=
 ⟨I.V.same k,I.K.trans (k.mono (fun _ _ h=>h.elim)),I.o1,I.o2,I.L.ab k (fun _ _ h=>h),I.o3⟩
theorem eZ.push {x:Int} {kd:Int} {wm wa w2:World} {nv2:Value} (V:eZ w q h O b rv nv F s) (hm:eN wm b (s.1 ++ [x])) (km:aa (·=b) w wm) (ka:aa (fun _=>False) wm wa)
  (cs:List Value) (hcs:cy 2 (fR w F) s.2 cs)
  (hs:Sl w2 139 2 nv2 (s.2.length+1) (cs ++ [.int .i64 kd, .slice none 0 0])) (hk:aa (ak nv) wa w2) (ho:∀ k,ak nv2 k→ak nv k∨wa.heap.size≤k) :
  lZ w q h O b rv nv F (s.1 ++ [x],s.2 ++ [(kd,[])]) (w2.setCell ⟨q,3,none⟩ nv2):=by
 have K1:aa (lY q b nv) w w2:=((km.mono (fun j _ hj=>.inr (.inl hj))).trans (ka.mono (fun _ _ h=>h.elim))).trans (hk.mono (fun j _ hj=>.inr (.inr hj)));have K2:=K1.setCell (p:=⟨q,3,none⟩) (.inl (.inl rfl)) nv2;have hsz:=km.size;have hsz2:=ka.size;have hsz3:=hk.size;have nq:¬ ak nv q:=fun hq=>by obtain ⟨_,c,hc⟩:=V.hn.own hq;exact V.hq.ne hc (by decide) rfl
 have nb:¬ ak nv b:=fun hq=>by obtain ⟨_,c,hc⟩:=V.hn.own hq;exact V.hm.ne hc rfl
 have qb:q≠b:=V.hm.ne V.hq;have hq2:=hk.aq (ka.aq (km.aq V.hq qb) (fun h=>h)) nq;have ne2:∀ k,ak nv2 k→k≠q:=fun k hk2 e=>by
  obtain ⟨_,c,hc⟩:=hs.own hk2;exact hc.ne hq2 (by decide) e
 have setk:=(aa.refl (·=q) w2).setCell (p:=⟨q,3,none⟩) (.inl rfl) nv2;refine ⟨nv2,F,⟨by simpa using hq2.aG 3 nv2,V.hw.ab K2 (fun j hj=>V.eO hj),?_,⟨_,by rw [List.length_append];exact hs.ab setk ne2,?_⟩,by simp [V.hl],fun j hj=>⟨?_,?_⟩⟩,K2,fun j hj=>?_,fun j hj=>.inl hj⟩
 ·exact (hm.ab (ka.mono (T:=ak nv) (fun _ _ h=>h.elim) |>.trans hk) nb).ab setk (Ne.symm qb)
 ·refine cy.app (hcs.mono (fun a _ r hr=>hr.ab K2 (fun j hj _=>(V.hF j hj).2))) rfl ?_;exact ⟨none,0,rfl,Rd.nil _ _,(fun a ha=>by cases ha),Nat.zero_le _⟩
 ·have:=(V.hF j hj).1;have:=K2.size;omega
 ·rintro (e | e | e)
  ·exact (V.hF j hj).2 (.inl e)
  ·exact (V.hF j hj).2 (.inr (.inl e))
  ·rcases ho j e with h1 | h1
   ·exact (V.hF j hj).2 (.inr (.inr h1))
   ·have:=(V.hF j hj).1;omega
 ·rcases ho j hj with h1 | h1
  ·exact .inl h1
  ·exact .inr (by omega)
theorem dR.done {lv:Value} {l:List Vl} {wr:World} {nv':Value} {F':Nat→Prop} {kd:Int} {n:Nat} {g o cap:Nat} {ao:Option Addr} {lc:Nat} (hlv:lv=.slice ao l.length lc) (I:dR w q h O b rv nv F s lv l wr nv' F')
  (hnv:nv'=.slice (some ⟨g,o,none⟩) s.2.length cap) (hn:s.2[n]? = some (kd,[])):lZ w q h O b rv nv F (s.1,s.2.set n (kd,l)) (wr.setCell ⟨g,o+n*2+1,none⟩ lv):=by
 subst hnv hlv;have hlt:n<s.2.length:=(List.getElem?_eq_some_iff.1 hn).1;have hgo:ak (.slice (some ⟨g,o,none⟩) s.2.length cap) g:=rfl;have hne:=fun k hk=>I.kD (k:=k) hk;have setk:=(aa.refl (·=g) wr).setCell (p:=⟨g,o+n*2+1,none⟩) (.inl rfl) (.slice ao l.length lc);have K2:aa (lY q b nv) w (wr.setCell ⟨g,o+n*2+1,none⟩ (.slice ao l.length lc)):=I.K.setCell (p:=⟨g,o+n*2+1,none⟩) (by
  rcases I.o1 g hgo with h1 | h1
  ·exact .inl (.inr (.inr h1))
  ·exact .inr h1) _
 obtain ⟨cs,hs,hr⟩:=I.V.hn;have hgq:¬ q=g:=fun e=>by
  obtain ⟨_,c,hc⟩:=hs.own hgo;exact I.V.hq.ne hc (by decide) e
 have hgb:¬ b=g:=fun e=>by
  obtain ⟨_,c,hc⟩:=hs.own hgo;exact I.V.hm.ne hc e.symm
 obtain ⟨ao',cap',e1,hrd,hcm,hnc⟩:=I.L.rd;cases e1;have hlF:∀ k,ak (.slice ao l.length lc) k→¬ k=g:=fun k hk e=>by
  subst e;exact (hne _ hk).1 (.inr (.inr hgo))
 refine ⟨.slice (some ⟨g,o,none⟩) s.2.length cap,fun k=>F' k∨ak (.slice ao l.length lc) k,⟨setk.aq I.V.hq hgq,I.V.hw.ab setk (fun j hj e=>?_),I.V.hm.ab setk hgb,?_,by simp [I.V.hl],fun j hj=>?_⟩,K2,I.o1,fun j hj=>?_⟩
 ·subst e;exact I.V.eO hj (.inr (.inr hgo))
 ·have hsl:(s.2.set n (kd,l)).length=s.2.length:=by simp
  refine ⟨cs.set (n*2+1) (.slice ao l.length lc),?_,?_⟩
  ·rw [hsl];exact hs.set (j:=n*2+1) (by omega)
  ·have hr':cy 2 (fR (wr.setCell ⟨g,o+n*2+1,none⟩ (.slice ao l.length lc)) (fun k=>F' k∨ak (.slice ao l.length lc) k)) s.2 cs:=
    hr.mono (fun a _ r h1=>(h1.ab setk (fun j hj _ e=>by subst e;exact (I.V.hF j hj).2 (.inr (.inr hgo)))).more (fun j hj=>.inl hj))
   refine cy.setCell hlt (by decide) hr' (fun r h2 h3=>?_);have e2:s.2[n]=(kd,[]):=by rw [Le hlt] at hn;exact Option.some.inj hn
   rw [e2] at h3;obtain ⟨_,_,rfl,-⟩:=h3;refine ⟨ao,lc,rfl,hrd.ab setk (fun a ha _ e=>?_),fun a ha=>.inr ?_,hcm⟩
   ·subst ha;exact hlF a.block rfl e
   ·subst ha;rfl
 ·rcases hj with hj | hj
  ·exact ⟨Nat.lt_of_lt_of_le (I.V.hF j hj).1 setk.size,(I.V.hF j hj).2⟩
  ·exact ⟨Nat.lt_of_lt_of_le (I.L.own hj).1 setk.size,(hne j hj).1⟩
 ·rcases hj with hj | hj
  ·exact I.o2 j hj
  ·exact .inr (I.o3 j hj).1
end
end
section
open Go.RowKit Go.Maps
theorem eh {T:TypeId} {z:Option Value} {s b:Nat} (h:(Tryz.prog.info? T).map (fun i=>(i.zero,i.size,i.bytes))=some (z,s,b)):∃ i,Tryz.prog.info? T=some i∧i.zero=z∧i.size=s∧i.bytes=b:=by
 cases hx:Tryz.prog.info? T with
 | none=>rw [hx] at h;cases h
 | some i=>rw [hx] at h;simp at h;exact ⟨i,rfl,h.1,h.2.1,h.2.2⟩
theorem rV:(Tryz.prog.info? 139).map (fun i=>(i.zero,i.size,i.bytes))=some (some (.agg #[.int .i64 0, .slice none 0 0]),2,32):=by kernel_rfl
theorem jA:(Tryz.prog.info? 96).map (fun i=>(i.zero,i.size,i.bytes))=some (some (.agg #[.int .i64 0, .int .i64 0]),2,16):=by kernel_rfl
section
variable {h:WH} {O:Wo} {q b:Nat} {rv:Value}
def vJ (h:WH) (O:Wo) (q b:Nat) (rv:Value) (n:Nat):Prop:=∀ (x:Int) (nv:Value) (F:Nat→Prop) (s:VS) (w:World),eZ w q h O b rv nv F s→a9 x→(x%4=1→x/4 ∈ O.univ)→dA O.univ s.1≤n→s.1.length+dA O.univ s.1≤5000 →
 Calls Tryz.prog 65 #[.pointer (some ⟨q,0,none⟩), .int .i64 x] w fun e w'=>sX w q h O b rv nv F (valM O.gr n (dt x) s) e w'
def NS (G:Gr) (n:Nat) (x:Int) (s:VS) (j:Nat):List Vl × VS:=fldM (valM G n) ((G x).2.take j) (s.1 ++ [x],s.2 ++ [((G x).1,[])])
theorem uY (G:Gr) (n:Nat) (x:Int) (s:VS):NS G n x s 0=([],(s.1 ++ [x],s.2 ++ [((G x).1,[])])):=rfl
theorem oN (G:Gr) (n:Nat) (x:Int) (s:VS) {j:Nat} {v:Vl} (h:(G x).2[j]? = some v):NS G n x s (j+1)=((NS G n x s j).1 ++ [(valM G n v (NS G n x s j).2).1],(valM G n v (NS G n x s j).2).2):=by
 unfold NS;rw [List.take_add_one,h,Option.toList_some,mE]
 rfl
theorem qt (G:Gr) (n:Nat) (x:Int) (s:VS) {j:Nat} (h:j≤(G x).2.length):(NS G n x s j).1.length=j:=by
 unfold NS;rw [mF,List.length_take];omega
theorem Ce {O:Wo} (hO:O.ok) {n:Nat} {x:Int} {s:VS} (hx:x ∈ O.univ) (j:Nat) (h:dA O.univ (s.1 ++ [x])≤n) (hc:(s.1 ++ [x]).length+dA O.univ (s.1 ++ [x])≤5000) :
  dA O.univ (NS O.gr n x s j).2.1≤n∧(NS O.gr n x s j).2.1.length+dA O.univ (NS O.gr n x s j).2.1≤5000:=by
 have I:=Wo.rS hO;unfold NS;obtain ⟨m,hm⟩:=kY (kZ O.gr n) ((O.gr x).2.take j) (s.1 ++ [x],s.2 ++ [((O.gr x).1,[])]);have h1:=rk O.univ (s.1 ++ [x]) m;have h2:=ir (f:=valM O.gr n) (U:=O.univ) (kz I n) ((O.gr x).2.take j) (s.1 ++ [x],s.2 ++ [((O.gr x).1,[])]) (fun v hv=>I.shut x hx v (List.mem_of_mem_take hv));rw [hm] at h2 ⊢;dsimp only at h2 ⊢;exact ⟨by omega,by omega⟩
theorem yt {O:Wo} {x:Int} {j:Nat} (h:j<(O.ar.ai x).2.1.toNat):(O.gr x).2[j]? = some (dt (O.ar.load (x+1+j))):=by
 unfold Wo.gr;dsimp only;rw [List.getElem?_append_left (by simp [Ar.fields];omega),List.getElem?_map];unfold Ar.fields;rw [List.getElem?_map,List.getElem?_range h]
 rfl
theorem zV {O:Wo} {x:Int} {j:Nat} (hk:(O.ar.ai x).1=5) (h:j<(fx O.wt (4*x+1)).length):(O.gr x).2[(O.ar.ai x).2.1.toNat+j]? = some (dt ((fx O.wt (4*x+1)).getD j 0)):=by
 have e:((O.ar.fields x).map dt).length=(O.ar.ai x).2.1.toNat:=by simp [Ar.fields]
 unfold Wo.gr;dsimp only;rw [if_pos hk,List.getElem?_append_right (by rw [e];omega),e,show (O.ar.ai x).2.1.toNat+j-(O.ar.ai x).2.1.toNat=j by omega,List.getElem?_map,Le h];simp [List.getD,h]
theorem A4 {O:Wo} {x:Int}:(O.gr x).2.length=(O.ar.ai x).2.1.toNat+if (O.ar.ai x).1=5 then (fx O.wt (4*x+1)).length else 0:=by
 unfold Wo.gr;simp only [List.length_append,List.length_map,Ar.fields,List.length_range];split <;> simp
theorem uZ (G:Gr) (n:Nat) (x:Int) (s:VS) (j:Nat) (hl:s.2.length=s.1.length):(NS G n x s j).2.2[s.1.length]? = some ((G x).1,[]):=by
 unfold NS;rw [mG (qp G n) (kZ G n) (vI G n) _ _ (by simp [hl]) s.1.length (by simp)];simp [←hl]
theorem ui {A:Ar} {x:Int} (h:(A.ai x).1=5):(A.ai x).2.1=0∧(A.ai x).2.2=0:=by
 unfold Ar.ai fq at *;split at h
 ·rename_i hf;rw [if_pos hf];dsimp only at h ⊢;rw [h] at hf;simp [bm] at hf;exact ⟨hf,rfl⟩
 ·cases h
theorem A5 (n:Nat) (ih:vJ h O q b rv n) (x:Int) (nv:Value) (F:Nat→Prop) (s:VS) (w:World) (V:eZ w q h O b rv nv F s) (x0:-2305843009213693952≤x) (x1:x≤2305843009213693951) (hx:x ∈ O.univ) (hm:¬ x ∈ s.1)
  (hu:dA O.univ s.1≤n+1) (hc:s.1.length+dA O.univ s.1≤5000) :
  Calls Tryz.prog 130 #[.pointer (some ⟨q,0,none⟩), .int .i64 x] w fun e w'=>zU w q h O b rv nv F s.1.length (valM O.gr (n+1) (3,x) s).2 e w':=by
 have HV:=Hz V;have HNEW:=Hz (eJ O.gr n (v:=(3,x)) rfl hm);have HM:=Hz hm;have HX:=Hz hx;have hp:=kX hx hm;have HU:=Hz (show dA O.univ (s.1 ++ [x])≤n by omega);have HC:=Hz (show (s.1 ++ [x]).length+dA O.univ (s.1 ++ [x])≤5000 by rw [List.length_append];simp;omega);have hl5:s.1.length≤5000:=by omega
 obtain ⟨ni,hi,hz0,hz1,hz2⟩:=eh rV;have Ni:=Hz hi;have Nz0:=Hz hz0;have Nz1:=Hz hz1;have Nz2:=Hz hz2;clear hi hz0 hz1 hz2;obtain ⟨vi,hi,hz0,hz1,hz2⟩:=eh jA;have Vi:=Hz hi;have Vz0:=Hz hz0;have Vz1:=Hz hz1;have Vz2:=Hz hz2;clear hi hz0 hz1 hz2;obtain ⟨cs,hsl,hcs⟩:=V.hn;obtain ⟨no,nc,rfl,-,hnm,-⟩:=hsl.rd;have HSL:=Hz hsl;have HCS:=Hz hcs;have HLL:=Hz V.hl;have hs5:s.2.length≤5000:=by rw [V.hl];exact hl5
 obtain ⟨n0,D,hown,hn0,hD⟩:=V.hm;have c3:=V.hq.cell 3;have cl:=V.hq.lt;have c1:=V.hq.cell 1;have c0:=V.hq.cell 0;simp only [Lz,aC] at c3 c1 c0;have HD:=Hz hD;clear V hm hp hu hc hsl hcs hD hnm;go_enter Tryz.func130,Tryz.ntmps130;go_wp2_with (at_mapUpdate;refine wpList_mapUpdate_own _ rfl _ _ _ 116 rfl 3 3 rq Tryz.underlying116 _ b n0 D rfl hown (by unfold maxLen;omega) _ _ _ rfl rfl (keyOf_int_mk Tryz.underlying3 (WalkArith.wf_i64 (by constructor <;> omega))) _ [] (plainElem_int Tryz.underlying3 (WalkArith.wf_i64 (by constructor <;> omega))) ?_);intro wm hown1 hgrow;have hsee:=eN.push (w:=w) (w':=wm) hown hn0 HD.out HM.out (by rw [←HLL.out];exact hown1);have KM:=Hz (uh hgrow);have HSEE:=Hz hsee;have Wm:=HV.out.hw.ab KM.out (fun j hj e=>HV.out.eO hj (.inr (.inl e)));have HWM:=Hz Wm;have hqm:=KM.out.aq HV.out.hq (HV.out.hm.ne HV.out.hq);have HQM:=Hz hqm;have c3:=hqm.cell 3;have cl:=hqm.lt;have c0:=hqm.cell 0;simp only [Lz,aC] at c3 c0;obtain ⟨d0,-,d2,-⟩:=Wm.dY;have dl:=Wm.hp.lt;clear hown hown1 hgrow hn0 hsee Wm hqm c1;go_wp2_with fail;refine (gJ x _ HWM.out.ha).mono ?_;rintro e w2 ⟨rfl,rfl⟩;obtain ⟨⟨kd,nf,kc⟩,hT⟩:∃ t,O.ar.ai x=t:=⟨_,rfl⟩;have HT:=Hz hT;have hnf:=O.ar.aO x;rw [hT] at hnf ⊢;dsimp only at hnf ⊢;clear hT;go_wp2_with (at_builtin;refine da rfl (.tmp 43) (.tmp 46) 39 rfl 139 ni (.agg #[.int .i64 0, .slice none 0 0]) 2 32 Tryz.underlying39 Ni.out Nz0.out Nz1.out Nz2.out rfl (by decide) _ s.2.length cs rfl ((HSL.out.ab KM.out (fun j hj e=>by subst e;obtain ⟨_,c,hc⟩:=HSL.out.own hj;exact HV.out.hm.ne hc rfl)).ab ((Kz wm).alloc _) (fun _ _ h=>h)) ⟨wm.heap.size,0,none⟩ 1 1 [.int .i64 kd, .slice none 0 0] rfl rfl (bX wm 139 #[.int .i64 kd, .slice none 0 0]) (by intro u hu;simp at hu;rcases hu with rfl | rfl <;> rfl) (by unfold maxLen;omega) (by omega) ?_);intro v2 w2 hs2 hk2 ho2;have hka:=(Kz wm).alloc (.cells #[.int .i64 kd, .slice none 0 0] 139);have HT2:=Hz (HV.out.push (x:=x) (kd:=kd) HSEE.out KM.out hka cs HCS.out hs2 hk2 (by simpa using ho2));have nq:¬ ak (.slice no s.2.length nc) q:=fun hq=>by obtain ⟨_,c,hc⟩:=HSL.out.own hq;exact HV.out.hq.ne hc (by decide) rfl
 have hq2:=hk2.aq (hka.aq HQM.out (fun h=>h)) nq;have x3:=hq2.cell 3;have xl:=hq2.lt;have xf:=hq2.free 3;simp only [Lz,aC] at x3;obtain ⟨vo2,vc2,rfl,-,-,-⟩:=hs2.rd;clear hs2 hk2 ho2 hka nq hq2 c3 c0 cl d0 d2 dl;go_wp2_with fail;have HI:=Hz (show ∃ nv1 F1,dR w q h O b rv (.slice no s.2.length nc) F (s.1 ++ [x],s.2 ++ [(kd,[])]) (.slice none 0 0) [] (w2.setCell ⟨q,3,none⟩ (.slice vo2 (s.2.length+1) vc2)) nv1 F1 by
  obtain ⟨nv1,F1,V1,k1,p1,p2⟩:=HT2.out
  exact ⟨nv1,F1,V1,k1,p1,p2,Sl.nil _ _ _,fun k hk=>(ck hk).elim⟩)
 clear HT2 x3 xl xf;generalize w2.setCell ⟨q,3,none⟩ (.slice vo2 (s.2.length+1) vc2)=w3 at *;have hkd:(O.gr x).1=kd:=by show (O.ar.ai x).1=kd;rw [HT.out]
 have HNF:=Hz (show ∀ j:Nat,(j:Int)<nf→(O.gr x).2[j]? = some (dt (O.ar.load (x+1+j))) from fun j hj=>yt (by rw [HT.out];dsimp only;omega));have HLEN:=Hz (show (O.gr x).2.length=nf.toNat+if kd=5 then (fx O.wt (4*x+1)).length else 0 by rw [A4,HT.out]);have HKP:=Hz (fun j=>uZ O.gr n x s j HLL.out);have HUN:=Hz (fun j=>Ce HV.out.hw.ok HX.out j HU.out HC.out);obtain ⟨f,rfl⟩:∃ f:Nat,nf=f:=⟨nf.toNat,by omega⟩;have HI0:=Hz (show ∃ nv1 F1,dR w q h O b rv (.slice no s.2.length nc) F (NS O.gr n x s 0).2 (.slice none 0 0) (NS O.gr n x s 0).1 w3 nv1 F1 by rw [uY,hkd];exact HI.out);have HKD:=Hz hkd;clear HI hkd;have ih':=Hz ih;go_loopw [9,52] (fun lv i wr=>∃ (j:Nat) (nv1:Value) (F1:Nat→Prop),j≤f∧i=.int .i64 j∧dR w q h O b rv (.slice no s.2.length nc) F (NS O.gr n x s j).2 lv (NS O.gr n x s j).1 wr nv1 F1) (fun _ i _=>f-(intOf i).toNat)
 case atStart=>
  obtain ⟨nv1,F1,hI⟩:=HI0.out;exact ⟨0,nv1,F1,Nat.zero_le _,rfl,hI⟩
 case round=>
  clear HI0;obtain ⟨j,nv1,F1,hj,rfl,hI⟩:=hrel;have HI:=Hz hI;by_cases hlt:j<f
  ·have HST:=Hz (oN O.gr n x s (HNF.out j (by omega)));have hjl:=qt O.gr n x s (j:=j) (by rw [HLEN.out];omega);have HJL:=Hz hjl;have c0:=hI.V.hq.cell 0;have cl:=hI.V.hq.lt;obtain ⟨d0,-,-,-⟩:=hI.V.hw.dY;have dl:=hI.V.hw.hp.lt;simp only [Lz,aC] at c0;obtain ⟨lo,lc,rfl,-,-,-⟩:=hI.L.rd;rw [hjl] at HI ⊢;clear hI hjl;go_wp2_with fail;refine (eM (x+1+j) _ HI.out.V.hw.ha).mono ?_;rintro e w4 ⟨rfl,rfl⟩;have HLR:=Hz (HV.out.hw.ok.ha.load (x+1+j));have HLU:=Hz (Wo.rP HV.out.hw.ok (x+1+j));generalize O.ar.load (x+1+j)=y at *;go_wp2_with fail;refine (ih'.out y nv1 F1 _ _ HI.out.V HLR.out (fun _=>HLU.out) (HUN.out j).1 (HUN.out j).2).mono ?_;rintro e w4 ⟨rfl,ht⟩;obtain ⟨nv2,F2,hI2⟩:=HI.out.told ht;obtain ⟨⟨⟨r1,r2⟩,sr⟩,hr⟩:∃ t,valM O.gr n (dt y) (NS O.gr n x s j).2=t:=⟨_,rfl⟩;rw [hr] at hI2 HST ⊢;dsimp only at hI2 HST ⊢;have HI2:=Hz hI2;have HL2:=Hz (show Sl w4 96 2 (.slice lo j lc) j (aE (NS O.gr n x s j).1) by have:=hI2.L;rw [HJL.out] at this;exact this);clear hI2 ht c0 cl d0 dl hr;go_wp2_with (at_builtin;refine da rfl (.tmp 55) (.tmp 70) 38 rfl 96 vi (.agg #[.int .i64 0, .int .i64 0]) 2 16 Tryz.underlying38 Vi.out Vz0.out Vz1.out Vz2.out rfl (by decide) _ j (aE (NS O.gr n x s j).1) rfl (HL2.out.ab ((Kz w4).alloc _) (fun _ _ h=>h)) ⟨w4.heap.size,0,none⟩ 1 1 [.int .i64 r1, .int .i64 r2] rfl rfl (bX w4 96 #[.int .i64 r1, .int .i64 r2]) (by intro u hu;simp at hu;rcases hu with rfl | rfl <;> rfl) (by unfold maxLen;omega) (by omega) ?_);intro v5 w5 hs5 hk5 ho5;have HI5:=Hz (HI2.out.app (v:=(r1,r2)) ((Kz w4).alloc _) (by rw [HJL.out];exact hs5) hk5 (by simpa using ho5));clear hs5 hk5 ho5;go_wp2_with fail;go_roundw
   case rel=>exact ⟨j+1,nv2,F2,by omega,by go_num,by rw [HST.out];exact HI5.out⟩
   case measure=>simp [intOf];omega
  ·obtain rfl:j=f:=by omega
   clear hlt hj;by_cases hk5:kd=5
   ·subst hk5;have hg:=ui (A:=O.ar) (x:=x) (by rw [HT.out]);rw [HT.out] at hg;dsimp only at hg;obtain rfl:j=0:=by omega
    obtain rfl:kc=0:=hg.2;have hux:=HV.out.hw.ok.ha.jk (O.ar.nO (i:=x) (by rw [HT.out]));have h4:=HV.out.hw.ok.ha.h4;rw [if_pos rfl] at HLEN;have HGW:=Hz (fun (j:Nat) (hj:j<(fx O.wt (4*x+1)).length)=>by have:=zV (O:=O) (x:=x) (by rw [HT.out]) hj;rw [HT.out] at this;exact this);have hwl:(fx O.wt (4*x+1)).length≤24:=by have h1:=qn (4*x+1) O.wt;have h2:=HV.out.hw.ok.hq;unfold fx;unfold gD at h1;omega
    have hgl:O.rg.length≤1000000:=by have h2:=HV.out.hw.ok.hq;omega
    have hwl2:O.wt.length≤1000000:=by have h2:=HV.out.hw.ok.hq;omega
    have c0:=hI.V.hq.cell 0;have cl:=hI.V.hq.lt;obtain ⟨-,-,d2,-⟩:=hI.V.hw.dY;have dl:=hI.V.hw.hp.lt;simp only [Lz,aC] at c0;clear hg hI;go_wp2_with fail;refine a8 (.free 0 (.free 1 (.free 2 (.free 7 (.free 11 (.pure 3 (.free 4 (.free 5 (.pure 6 (.run 8 (.run 9 (.swi [] (.free 10 (.fin)))))))))))))) [9,10] (Fz c0 (Fa d2)) ?_
    iterate 9 refine Wz ?_
    refine aM rfl rfl (fun K hK=>?_);unfold aw;go_simp;refine (zn x _ (by omega) (by omega)).mono ?_;rintro e w4 ⟨rfl,rfl⟩;refine hK _ _ (fun h=>h) ?_;clear hK K;refine aA rfl rfl rfl (fun K hK=>?_);unfold aw;go_simp;refine (CG h.ps _ _ _ _ (4*x+1) _ (HI.out.same (Kz wr).drew).V.hw.hs hwl2).mono ?_;rintro e w4 ⟨ao,ac,rfl,hs4,hk4,ho4⟩;have hI4:=HI.out.same ((Kz wr).drew.trans hk4);have HI4:=Hz hI4;have HS4:=Hz hs4;have HO4:Hid (∀ k,ak (.slice ao (gD (4*x+1) O.wt).length ac) k→wr.heap.size≤k):=fun k hk=>ho4 k hk;refine hK _ _ ?_;clear hK K hs4 hk4 ho4 hI4 c0 cl d2 dl;refine aB (fun _=>True) trivial ?_;refine Wz ?_;refine av ?_;have hLW:gD (4*x+1) O.wt=fx O.wt (4*x+1):=rfl;rw [hLW] at HS4 HO4 ⊢;have HRW:=Hz (show ∀ y ∈ fx O.wt (4*x+1),a9 y from fun y hy=>by
     unfold fx at hy;obtain ⟨e,he,rfl⟩:=List.mem_map.1 hy
     exact (HV.out.hw.ok.hw e (List.mem_filter.1 he).1).2)
    have HRU:=Hz (show ∀ y ∈ fx O.wt (4*x+1),y/4 ∈ O.univ from fun y hy=>Wo.rR hy);clear hLW;generalize fx O.wt (4*x+1)=L at *;simp only [Int.toNat_natCast,Nat.zero_add] at HLEN HGW;go_wp2_with fail;go_loopw [9,86] (fun lv i wx=>∃ (j:Nat) (nv1:Value) (F1:Nat→Prop),j≤L.length∧i=.int .i64 j∧dR w q h O b rv (.slice no s.2.length nc) F (NS O.gr n x s j).2 lv (NS O.gr n x s j).1 wx nv1 F1∧Sl wx 2 1 (.slice ao L.length ac) L.length (L.map (Value.int .i64))) (fun _ i _=>L.length-(intOf i).toNat)
    case atStart=>
     exact ⟨0,nv1,F1,Nat.zero_le _,rfl,HI4.out,HS4.out⟩
    case round=>
     clear HI HI4 HS4 HO4;rename_i nv0 F0 _ _ _;obtain ⟨j,nv1,F1,hj,rfl,hI,hsr⟩:=hrel;have HI:=Hz hI;have HSR:=Hz hsr;obtain ⟨_,_,e',hrd,-,-⟩:=hsr.rd;cases e';clear hsr;by_cases hlt:j<L.length
     ·have HST:=Hz (oN O.gr n x s (HGW.out j hlt));have hjl:=qt O.gr n x s (j:=j) (by rw [HLEN.out];omega);have HJL:=Hz hjl;obtain ⟨lo,lc,rfl,-,-,-⟩:=hI.L.rd;rw [hjl] at HI ⊢;obtain ⟨gg,go,rfl,ggl,g0⟩:=hrd.int64 j hlt;have HLR:=Hz (HRW.out (L.getD j 0) (by rw [Ld,Le hlt];exact List.getElem_mem hlt));have HLU:=Hz (HRU.out (L.getD j 0) (by rw [Ld,Le hlt];exact List.getElem_mem hlt));clear hI hjl hrd;generalize L.getD j 0=y at *;go_wp2_with fail;refine (ih'.out y nv1 F1 _ _ HI.out.V HLR.out (fun _=>HLU.out) (HUN.out j).1 (HUN.out j).2).mono ?_;rintro e w5 ⟨rfl,ht⟩;have HSR5:=Hz (HSR.out.ab ht.choose_spec.choose_spec.2.1 (fun k hk=>by obtain ⟨_,c,hc⟩:=HSR.out.own hk;exact HI.out.V.kC hc (by decide) (by decide)));obtain ⟨nv2,F2,hI2⟩:=HI.out.told ht;obtain ⟨⟨⟨r1,r2⟩,sr⟩,hr⟩:∃ t,valM O.gr n (dt y) (NS O.gr n x s j).2=t:=⟨_,rfl⟩;rw [hr] at hI2 HST ⊢;dsimp only at hI2 HST ⊢;have HI2:=Hz hI2;have HL2:=Hz (show Sl w5 96 2 (.slice lo j lc) j (aE (NS O.gr n x s j).1) by have:=hI2.L;rw [HJL.out] at this;exact this);clear hI2 ht g0 ggl hr;go_wp2_with (at_builtin;refine da rfl (.tmp 90) (.tmp 94) 38 rfl 96 vi (.agg #[.int .i64 0, .int .i64 0]) 2 16 Tryz.underlying38 Vi.out Vz0.out Vz1.out Vz2.out rfl (by decide) _ j (aE (NS O.gr n x s j).1) rfl (HL2.out.ab ((Kz w5).alloc _) (fun _ _ h=>h)) ⟨w5.heap.size,0,none⟩ 1 1 [.int .i64 r1, .int .i64 r2] rfl rfl (bX w5 96 #[.int .i64 r1, .int .i64 r2]) (by intro u hu;simp at hu;rcases hu with rfl | rfl <;> rfl) (by unfold maxLen;omega) (by omega) ?_);intro v6 w6 hs6 hk6 ho6;have HI6:=Hz (HI2.out.app (v:=(r1,r2)) ((Kz w5).alloc _) (by rw [HJL.out];exact hs6) hk6 (by simpa using ho6));have hka6:=(Kz w5).alloc (.cells #[.int .i64 r1, .int .i64 r2] 96);have HSR6:=Hz ((HSR5.out.ab hka6 (fun _ _ h=>h)).ab hk6 (fun k hk hk2=>by
       obtain ⟨_,c,hc⟩:=(HSR5.out.ab hka6 (fun _ _ h=>h)).own hk;obtain ⟨_,c',hc'⟩:=(HL2.out.ab hka6 (fun _ _ h=>h)).own hk2
       exact hc.ne hc' (by decide) rfl))
      clear hs6 hk6 ho6 hka6;go_wp2_with fail;go_roundw
      case rel=>exact ⟨j+1,nv2,F2,by omega,by go_num,by rw [HST.out];exact HI6.out,HSR6.out⟩
      case measure=>simp [intOf];omega
     ·obtain rfl:j=L.length:=by omega
      clear hlt hj;have HI9:=Hz hI;obtain ⟨cs9,hs9,hr9⟩:=hI.V.hn;have hlt9:s.1.length<(NS O.gr n x s L.length).2.2.length:=(List.getElem?_eq_some_iff.1 (HKP.out L.length)).1;obtain ⟨g,o,cap9,cur,rfl,hb9,h91,h92,h93,h94⟩:=hs9.laid (by omega);have c3:=hI.V.hq.cell 3;have cl:=hI.V.hq.lt;have g1:=hb9.cell (o+s.2.length*2+1);have gl:=hb9.lt;have gf:=hb9.free (o+s.2.length*2+1);have hs9l:s.2.length<(NS O.gr n x s L.length).2.2.length:=by rw [HLL.out];exact hlt9
      obtain ⟨u9,hu9⟩:∃ u,cur[o+s.2.length*2+1]? = some u:=⟨_,Le (by omega)⟩;simp only [Lz,aC] at c3;rw [hu9] at g1;obtain ⟨lo9,lc9,rfl,-,-,-⟩:=hI.L.rd;have hs9m:(NS O.gr n x s L.length).2.2.length≤cap9:=h91;clear hI hr9 hs9 hb9 h92 h93 h94 hlt9 h91 hu9;go_wp2_with fail;go_ret;have hd:=dR.done (kd:=5) (n:=s.1.length) rfl HI9.out rfl (by have hkp:=HKP.out L.length;rw [HKD.out] at hkp;exact hkp);refine ⟨cM (by rw [HLL.out]),?_⟩;rw [HNEW.out];have hfull:NS O.gr n x s L.length=fldM (valM O.gr n) (O.gr x).2 (s.1 ++ [x],s.2 ++ [((O.gr x).1,[])]):=by
       unfold NS;rw [List.take_of_length_le (by rw [HLEN.out];simp)]
      rw [←hfull,HKD.out];rw [←HLL.out] at hd ⊢;exact hd
   ·have hkb:(kd == 5)=false:=by simpa using hk5
    rw [if_neg hk5] at HLEN;clear hk5;have HI9:=Hz hI;obtain ⟨cs9,hs9,hr9⟩:=hI.V.hn;have hlt9:s.1.length<(NS O.gr n x s j).2.2.length:=(List.getElem?_eq_some_iff.1 (HKP.out j)).1;obtain ⟨g,o,cap9,cur,rfl,hb9,h91,h92,h93,h94⟩:=hs9.laid (by omega);have c3:=hI.V.hq.cell 3;have cl:=hI.V.hq.lt;have g1:=hb9.cell (o+s.2.length*2+1);have gl:=hb9.lt;have gf:=hb9.free (o+s.2.length*2+1);have hs9l:s.2.length<(NS O.gr n x s j).2.2.length:=by rw [HLL.out];exact hlt9
    obtain ⟨u9,hu9⟩:∃ u,cur[o+s.2.length*2+1]? = some u:=⟨_,Le (by omega)⟩;rw [hu9] at g1;simp only [Lz,aC] at c3;obtain ⟨lo9,lc9,rfl,-,-,-⟩:=hI.L.rd;have hs9m:(NS O.gr n x s j).2.2.length≤cap9:=h91;clear hI hr9 hs9 hb9 h92 h93 h94 hlt9 h91 hu9;go_wp2_with fail;go_ret;have hd:=dR.done (kd:=kd) (n:=s.1.length) rfl HI9.out rfl (by have hkp:=HKP.out j;rw [HKD.out] at hkp;exact hkp);refine ⟨cM (by rw [HLL.out]),?_⟩;rw [HNEW.out];have hfull:NS O.gr n x s j=fldM (valM O.gr n) (O.gr x).2 (s.1 ++ [x],s.2 ++ [((O.gr x).1,[])]):=by
     unfold NS;rw [List.take_of_length_le (by rw [HLEN.out];simp)]
    rw [←hfull,HKD.out];rw [←HLL.out] at hd ⊢;exact hd
end
end
section
open Go.RowKit Go.Maps
section
variable {h:WH} {O:Wo} {q b:Nat} {rv:Value}
theorem wW (n:Nat) (ih:vJ h O q b rv n) (x:Int) (nv:Value) (F:Nat→Prop) (s:VS) (w:World) (V:eZ w q h O b rv nv F s) (hx:a9 x) (h1:x%4=1) (hxu:x/4 ∈ O.univ) (hm:¬ x/4 ∈ s.1)
  (hu:dA O.univ s.1≤n+1) (hc:s.1.length+dA O.univ s.1≤5000) :
  Calls Tryz.prog 65 #[.pointer (some ⟨q,0,none⟩), .int .i64 x] w fun e w'=>sX w q h O b rv nv F (valM O.gr (n+1) (dt x) s) e w':=by
 have HV:=Hz V;have HE:=Hz (show (valM O.gr (n+1) (dt x) s).1=gY s.1.length by rw [pF h1,eJ O.gr n rfl hm]);have HVO:=Hz (pF h1);have H1:=Hz h1;have HM:=Hz hm;have HU:=Hz hu;have HC:=Hz hc;have HXU:=Hz hxu;have HIH:=Hz ih;have r0:-2305843009213693952≤x/4:=by have:=hx.1;omega
 have r2:x/4≤2305843009213693951:=by have:=hx.2;omega
 clear V h1 hm hu hc hxu ih;go_enter Tryz.func65,Tryz.ntmps65;go_wp2_with fail;refine (dz x _ H1.out).mono ?_;rintro e w1 ⟨rfl,rfl⟩;have hka:=(Kz w).alloc (.cells #[.int .i64 0, .int .i64 0] 96);have V1:=Hz (HV.out.same hka);have hal:aj (w.alloc (.cells #[.int .i64 0, .int .i64 0] 96)) w.heap.size [.int .i64 0, .int .i64 0] 96:=aj.newAt _ rfl rfl;have HAL:=Hz hal;have HKA:=Hz hka;have c1:=V1.out.hq.cell 1;have cl:=V1.out.hq.lt;simp only [Lz,aC] at c1;obtain ⟨n0,D,hown,hn0,hD⟩:=V1.out.hm;have HD:=Hz (hD (x/4) (by omega) (by omega));clear hD hka hal;go_wp2_with (at_lookup;refine wpList_lookup_own_ok_int _ rfl _ _ 116 rfl 3 3 .i64 rq Tryz.underlying116 Tryz.underlying3 (sW _) b n0 D rfl hown _ _ rfl (keyOf_int_mk Tryz.underlying3 (WalkArith.wf_i64 (by constructor <;> omega))) ?_);intro c hat hwc;rw [HD.out.1,decide_eq_false HM.out];clear hat hwc hown hn0 c1 cl;go_wp2_with fail;refine (A5 n HIH.out (x/4) nv F s _ V1.out r0 r2 HXU.out HM.out HU.out HC.out).mono ?_;rintro e w2 ⟨rfl,ht⟩;have bH:=ht.choose_spec.choose_spec.2.1.aq HAL.out (by
  intro hf;have:=HV.out.lt hf
  omega)
 have l0:=bH.cell 0;have l1:=bH.cell 1;have ll:=bH.lt;have f0:=bH.free 0;have f1:=bH.free 1;simp only [Lz,aC] at l0 l1;have HB2:=Hz bH;have HT:=Hz ht;clear bH ht;go_wp2_with fail;have dX:=(HB2.out.aG 0 (.int .i64 3)).aG 1 (.int .i64 s.1.length);have x0':=dX.cell 0;have x1':=dX.cell 1;simp only [List.set_cons_zero,List.set_cons_succ,Lz,aC] at x0' x1';refine bodyPost_ret (v:=.agg #[.int .i64 3, .int .i64 s.1.length]) (by simp [results,Tryz.results65,go_sem,x0',x1']) rfl ?_;refine ⟨by rw [HE.out];rfl,?_⟩;rw [HVO.out];have hsz:=HKA.out.size;have hsz1:(w.alloc (.cells #[.int .i64 0, .int .i64 0] 96)).heap.size=w.heap.size+1:=by simp
 obtain ⟨nv1,F1,V2,k2,p1,p2⟩:=HT.out;have ke:=((aa.refl (·=w.heap.size) w2).setCell (p:=⟨w.heap.size,0,none⟩) (.inl rfl) (.int .i64 3)).setCell (p:=⟨w.heap.size,1,none⟩) (.inl rfl) (.int .i64 s.1.length);refine ⟨nv1,F1,V2.ab ke (fun j hj e=>?_) (fun j hj e=>?_) (fun j hj e=>?_),(((HKA.out.mono (fun _ _ h=>h.elim)).trans k2).setCell (p:=⟨w.heap.size,0,none⟩) (.inr (Nat.le_refl _)) _).setCell (p:=⟨w.heap.size,1,none⟩) (.inr (Nat.le_refl _)) _,fun j hj=>?_,fun j hj=>?_⟩
 ·subst e;exact V2.kC HB2.out (by decide) (by decide) hj
 ·subst e;obtain ⟨c',T,hc',hT⟩:=V2.hw.bB hj;rcases hT with rfl | rfl | rfl | rfl | rfl | rfl | rfl <;> exact HB2.out.ne hc' (by decide) rfl
 ·subst e;rcases p2 _ hj with h1 | h1
  ·have:=(HV.out.hF _ h1).1;omega
  ·omega
 ·rcases p1 j hj with h1 | h1
  ·exact .inl h1
  ·exact .inr (by omega)
 ·rcases p2 j hj with h1 | h1
  ·exact .inl h1
  ·exact .inr (by omega)
theorem zW:∀ n:Nat,n≤5000→vJ h O q b rv n:=by
 intro n
 induction n with
 | zero=>
  intro _ x nv F s w V hx hxu hu hc;exact rU x 0 V hx (fun h1=>pD (Nat.le_zero.1 hu) (hxu h1)) (by omega)
 | succ n ih=>
  intro hn x nv F s w V hx hxu hu hc;by_cases hm:x%4=1→x/4 ∈ s.1
  ·exact rU x (n+1) V hx hm (by omega)
  ·obtain ⟨h1,h2⟩:=Classical.not_imp.1 hm;exact wW n (ih (by omega)) x nv F s w V hx h1 (hxu h1) h2 hu hc
def jP (w:World) (lo:Nat) (v:Value) (V:List Vl × List Nd):Prop:=
 ∃ ro rc no nc F,v=.agg #[.slice ro V.1.length rc, .slice no V.2.length nc]∧Sl w 96 2 (.slice ro V.1.length rc) V.1.length (aE V.1)∧dw w (.slice no V.2.length nc) F V.2 ∧
  ∀ k,(F k∨ak (.slice ro V.1.length rc) k∨ak (.slice no V.2.length nc) k)→lo≤k∧k<w.heap.size
theorem jP.ab {w w':World} {S:Nat→Prop} {lo:Nat} {v:Value} {V:List Vl × List Nd} (H:jP w lo v V) (k:aa S w w') (hn:∀ j,lo≤j→j<w.heap.size→¬ S j):jP w' lo v V:=by
 obtain ⟨ro,rc,no,nc,F,e,h1,h2,h3⟩:=H;refine ⟨ro,rc,no,nc,F,e,h1.ab k (fun j hj=>?_),h2.ab k (fun j hj _=>?_) (fun j hj=>?_),fun j hj=>⟨(h3 j hj).1,Nat.lt_of_lt_of_le (h3 j hj).2 k.size⟩⟩
 ·have:=h3 j (.inr (.inl hj));exact hn j this.1 this.2
 ·have:=h3 j (.inl hj);exact hn j this.1 this.2
 ·have:=h3 j (.inr (.inr hj));exact hn j this.1 this.2
structure iu (w:World) (q:Nat) (h:WH) (O:Wo) (b:Nat) (wr:World) (rv nv:Value) (F:Nat→Prop) (s:VS) (l:List Vl):Prop where
 V:eZ wr q h O b rv nv F s
 K:aa (fun _=>False) w wr
 o1:∀ k,ak nv k→w.heap.size≤k
 o2:∀ k,F k→w.heap.size<k
 L:Sl wr 96 2 rv l.length (aE l)
 o3:∀ k,ak rv k→w.heap.size≤k∧¬ F k
 oq:w.heap.size≤q
 ob:w.heap.size≤b
 B:aj wr w.heap.size [.slice none 0 0, .slice none 0 0] 41
theorem iu.mK {w wr:World} {rv nv:Value} {F:Nat→Prop} {s:VS} {l:List Vl} (I:iu w q h O b wr rv nv F s l) {k:Nat} (hk:ak rv k):¬ lY q b nv k∧¬ h.Own k:=by
 obtain ⟨_,c,hc⟩:=I.L.own hk;refine ⟨I.V.kC hc (by decide) (by decide),fun h1=>?_⟩;obtain ⟨c',T,hc',hT⟩:=I.V.hw.bB h1;rcases hT with rfl | rfl | rfl | rfl | rfl | rfl | rfl <;> exact hc.ne hc' (by decide) rfl
theorem iu.told {w wr w2:World} {rv nv:Value} {F:Nat→Prop} {s s2:VS} {l:List Vl} (I:iu w q h O b wr rv nv F s l) (t:lZ wr q h O b rv nv F s2 w2):∃ nv2 F2,iu w q h O b w2 rv nv2 F2 s2 l:=by
 obtain ⟨nv2,F2,V2,k2,p1,p2⟩:=t;have hz:=I.K.size;refine ⟨nv2,F2,V2,I.K.then k2 (fun j hj=>?_),fun j hj=>?_,fun j hj=>?_,I.L.ab k2 (fun j hj=>(I.mK hj).1),fun j hj=>⟨(I.o3 j hj).1,fun hf=>?_⟩,I.oq,I.ob,k2.aq I.B (I.V.kC I.B (by decide) (by decide))⟩
 ·rcases hj with rfl | rfl | hj
  ·exact .inr I.oq
  ·exact .inr I.ob
  ·exact .inr (I.o1 j hj)
 ·rcases p1 j hj with h | h
  ·exact I.o1 j h
  ·omega
 ·have hbl:=I.B.lt;rcases p2 j hj with h | h
  ·exact I.o2 j h
  ·omega
 ·rcases p2 j hf with h | h
  ·exact (I.o3 j hj).2 h
  ·have:=(I.L.own hj).1;omega
theorem iu.same {w wr w2:World} {rv nv:Value} {F:Nat→Prop} {s:VS} {l:List Vl} (I:iu w q h O b wr rv nv F s l) (k:aa (fun _=>False) wr w2):iu w q h O b w2 rv nv F s l:=
 ⟨I.V.same k,I.K.trans k,I.o1,I.o2,I.L.ab k (fun _ _ h=>h),I.o3,I.oq,I.ob,k.aq I.B (fun h=>h)⟩
theorem iu.app {w wr wa w2:World} {rv nv v2:Value} {F:Nat→Prop} {s:VS} {l:List Vl} {v:Vl} (I:iu w q h O b wr rv nv F s l) (ka:aa (fun _=>False) wr wa)
  (hs:Sl w2 96 2 v2 (l.length+1) (aE l ++ [.int .i64 v.1, .int .i64 v.2])) (hk:aa (ak rv) wa w2) (ho:∀ k,ak v2 k→ak rv k∨wa.heap.size≤k):iu w q h O b (w2.setCell ⟨q,2,none⟩ v2) v2 nv F s (l ++ [v]):=by
 have k2:=(ka.mono (T:=ak rv) (fun _ _ h=>h.elim)).trans hk;have hz:=ka.size;have hz2:=I.K.size;have nq:∀ {v:Value} {wx:World} {n:Nat} {xs:List Value},Sl wx 96 2 v n xs→aj wx q [.pointer (some ⟨h.p,0,none⟩), .map (some b),rv,nv] 118→¬ ak v q:=fun hs hq h=>by
  obtain ⟨_,c,hc⟩:=hs.own h;exact hc.ne hq (by decide) rfl
 have hq2:=k2.aq I.V.hq (nq I.L I.V.hq);have set:=(aa.refl (·=q) w2).setCell (p:=⟨q,2,none⟩) (.inl rfl) v2;have V2:=I.V.ab k2 (fun j hj hl=>(I.mK hl).1 hj) (fun j hj hl=>(I.mK hl).2 hj) (fun j hj hl=>(I.o3 j hl).2 hj);have sq:∀ j,ak v2 j→¬ j=q:=fun j hj e=>nq hs hq2 (e ▸ hj);have B2:=k2.aq I.B (fun hl=>by obtain ⟨_,c,hc⟩:=I.L.own hl;exact hc.ne I.B (by decide) rfl);refine ⟨⟨by simpa using hq2.aG 2 v2,V2.hw.ab set (fun j hj e=>by subst e;exact V2.eO hj (.inl rfl)),V2.hm.ab set (fun e=>V2.hm.ne V2.hq e.symm),V2.hn.ab set (fun j hj _ e=>(V2.hF j hj).2 (.inl e)) (fun j hj e=>?_),V2.hl,fun j hj=>⟨?_,(V2.hF j hj).2⟩⟩,
  (I.K.then k2 (fun j hj=>.inr (I.o3 j hj).1)).setCell (p:=⟨q,2,none⟩) (.inr I.oq) _,I.o1,I.o2,?_,fun j hj=>?_,I.oq,I.ob,set.aq B2 (B2.ne hq2 (by decide))⟩
 ·obtain ⟨_,c,hc⟩:=V2.hn.own hj;exact hc.ne hq2 (by decide) e
 ·have:=(V2.hF j hj).1;have:=set.size;omega
 ·have e:aE (l ++ [v])=aE l ++ [.int .i64 v.1, .int .i64 v.2]:=by simp [aE]
  rw [e,List.length_append];exact hs.ab set sq
 ·rcases ho j hj with h1 | h1
  ·exact I.o3 j h1
  ·exact ⟨by omega,fun hf=>by have:=(I.V.hF j hf).1;omega⟩
def TS (O:Wo) (k:Nat):List Vl × VS:=fldM (valM O.gr 5000) ((O.rt.map dt).take k) ([],[])
theorem zX {O:Wo} {k:Nat} (h:k<O.rt.length):TS O (k+1)=((TS O k).1 ++ [(valM O.gr 5000 (dt (O.rt.getD k 0)) (TS O k).2).1],(valM O.gr 5000 (dt (O.rt.getD k 0)) (TS O k).2).2):=by
 unfold TS;have e:(O.rt.map dt)[k]? = some (dt (O.rt.getD k 0)):=by rw [List.getElem?_map,Le h];simp [List.getD,h]
 rw [List.take_add_one,e,Option.toList_some,mE]
 rfl
theorem A6 {O:Wo} {k:Nat} (h:k≤O.rt.length):(TS O k).1.length=k:=by
 unfold TS;rw [mF,List.length_take,List.length_map];omega
theorem zp {O:Wo} (hO:O.ok) (k:Nat):dA O.univ (TS O k).2.1≤5000∧(TS O k).2.1.length+dA O.univ (TS O k).2.1≤5000:=by
 have I:=Wo.rS hO;unfold TS;have h1:=Wo.zR hO;have h2:=rm O.univ;have h3:=ir (f:=valM O.gr 5000) (U:=O.univ) (kz I 5000) ((O.rt.map dt).take k) ([],[]) (fun v hv h3=>by
  obtain ⟨x,hx,rfl⟩:=List.mem_map.1 (List.mem_of_mem_take hv)
  rw [(mH h3).2];exact Wo.rQ hx)
 simp only [List.length_nil] at h3;exact ⟨by omega,by omega⟩
def rr (w:World) (V:List Vl × List Nd) (e:Ending) (w':World):Prop:=∃ v,e=.returned v∧jP w' w.heap.size v V∧aa (fun _=>False) w w'
theorem ma (w:World) (H:bh w h O) :
  Calls Tryz.prog 17 #[.pointer (some ⟨h.p,0,none⟩)] w fun e w'=>rr w O.view e w':=by
 have HH:=Hz H;obtain ⟨vi,hi,hz0,hz1,hz2⟩:=eh jA;have Vi:=Hz hi;have Vz0:=Hz hz0;have Vz1:=Hz hz1;have Vz2:=Hz hz2;clear hi hz0 hz1 hz2;have hmm:=@run_makeMap Tryz.prog;have HMM:=Hz hmm;have h12:=H.ok.h12;obtain ⟨ro,rc,hro,-,-,-⟩:=H.hr.rd;have HRO:=Hz hro;have c3:=H.dY.2.2.2;have pl:=H.hp.lt;rw [hro,h12] at c3;have HRR:=Hz H.hr;rw [hro,h12] at HRR;clear H h12 hro;go_enter Tryz.func17,Tryz.ntmps17;go_upto_region 2 with fail
 have k1:=(((Kz w).alloc (.cells #[.slice none 0 0, .slice none 0 0] 41)).alloc (.map #[] 0)).alloc (.cells #[.pointer (some ⟨h.p,0,none⟩), .map (some (w.heap.size+1)), .slice none 0 0, .slice none 0 0] 118);have hb:aj (((w.alloc (.cells #[.slice none 0 0, .slice none 0 0] 41)).alloc (.map #[] 0)).alloc (.cells #[.pointer (some ⟨h.p,0,none⟩), .map (some (w.heap.size+1)), .slice none 0 0, .slice none 0 0] 118)) w.heap.size [.slice none 0 0, .slice none 0 0] 41:=((aj.newAt _ rfl rfl).alloc _).alloc _;have hsn:eN (((w.alloc (.cells #[.slice none 0 0, .slice none 0 0] 41)).alloc (.map #[] 0)).alloc (.cells #[.pointer (some ⟨h.p,0,none⟩), .map (some (w.heap.size+1)), .slice none 0 0, .slice none 0 0] 118)) (w.heap.size+1) []:=by
  have:=eN.made (w.alloc (.cells #[.slice none 0 0, .slice none 0 0] 41));simp only [World.size_alloc] at this;exact this.ab ((Kz _).alloc _) (fun h=>h)
 have hv:eZ (((w.alloc (.cells #[.slice none 0 0, .slice none 0 0] 41)).alloc (.map #[] 0)).alloc (.cells #[.pointer (some ⟨h.p,0,none⟩), .map (some (w.heap.size+1)), .slice none 0 0, .slice none 0 0] 118)) (w.heap.size+1+1) h O (w.heap.size+1) (.slice none 0 0) (.slice none 0 0) (fun _=>False) ([],[]):=
  ⟨aj.newAt _ (by simp) rfl,HH.out.ab k1 (fun _ _ h=>h),hsn,dw.nil _ _,rfl,fun _ h=>h.elim⟩
 have HK1:=Hz k1;have HB:=Hz hb;have HVW:=Hz hv;have HSZ:=Hz (show w.heap.size+3≤(((w.alloc (.cells #[.slice none 0 0, .slice none 0 0] 41)).alloc (.map #[] 0)).alloc (.cells #[.pointer (some ⟨h.p,0,none⟩), .map (some (w.heap.size+1)), .slice none 0 0, .slice none 0 0] 118)).heap.size by simp);have c3:=hv.hw.dY.2.2.2;have pl:=hv.hw.hp.lt;rw [HRO.out,HH.out.ok.h12] at c3;clear k1 hb hsn hv hmm;generalize ((w.alloc (.cells #[.slice none 0 0, .slice none 0 0] 41)).alloc (.map #[] 0)).alloc (.cells #[.pointer (some ⟨h.p,0,none⟩), .map (some (w.heap.size+1)), .slice none 0 0, .slice none 0 0] 118)=w1 at *;go_wp2_with fail;have HI0:=Hz (show iu w (w.heap.size+1+1) h O (w.heap.size+1) w1 (.slice none 0 0) (.slice none 0 0) (fun _=>False) (TS O 0).2 (TS O 0).1 from
  ⟨HVW.out,HK1.out,fun _ h=>(ck h).elim,fun _ h=>h.elim,Sl.nil _ _ _,fun _ h=>(ck h).elim,by omega,by omega,HB.out⟩)
 clear HVW HB HSZ HK1 c3 pl;go_loopw [16] (fun i wr=>∃ (k:Nat) (rv nv:Value) (F:Nat→Prop),k≤12∧i=.int .i64 k∧iu w (w.heap.size+1+1) h O (w.heap.size+1) wr rv nv F (TS O k).2 (TS O k).1) (fun i _=>12-(intOf i).toNat)
 case atStart=>exact ⟨0,_,_,_,Nat.zero_le _,rfl,HI0.out⟩
 case round=>
  clear HI0;obtain ⟨k,rv,nv,F,hk,rfl,hI⟩:=hrel;have HI:=Hz hI;have hkl:=A6 (O:=O) (k:=k) (by rw [HH.out.ok.h12];exact hk);have HKL:=Hz hkl;by_cases hlt:k<12
  ·have HST:=Hz (zX (O:=O) (k:=k) (by rw [HH.out.ok.h12];exact hlt));have hm:O.rt.getD k 0 ∈ O.rt:=by rw [Ld,Le (by rw [HH.out.ok.h12];exact hlt)];exact List.getElem_mem _
   have HLR:=Hz (HH.out.ok.hR _ hm);have HLU:=Hz (Wo.rQ hm);have hrd:=(HRR.ab hI.K (fun _ _ h=>h));obtain ⟨_,_,e',hrr,-,-⟩:=hrd.rd;cases e';obtain ⟨gg,go,rfl,ggl,g0⟩:=hrr.int64 k (by rw [HH.out.ok.h12];exact hlt);clear hI hkl hm hrd hrr;generalize O.rt.getD k 0=y at *;go_wp2_with fail;refine (zW 5000 (Nat.le_refl _) y nv F _ _ HI.out.V HLR.out (fun _=>HLU.out) (zp HH.out.ok k).1 (zp HH.out.ok k).2).mono ?_;rintro e w2 ⟨rfl,ht⟩;obtain ⟨nv2,F2,hI2⟩:=HI.out.told ht;obtain ⟨⟨⟨r1,r2⟩,sr⟩,hr⟩:∃ t,valM O.gr 5000 (dt y) (TS O k).2=t:=⟨_,rfl⟩;rw [hr] at hI2 HST ⊢;dsimp only at hI2 HST ⊢;clear hr ht g0 ggl;go_upto_region 6 with fail
   have hka:=(Kz w2).alloc (.cells #[.int .i64 r1, .int .i64 r2] 96);have hI3:=hI2.same hka;have hvb:aj (w2.alloc (.cells #[.int .i64 r1, .int .i64 r2] 96)) w2.heap.size [.int .i64 r1, .int .i64 r2] 96:=aj.newAt _ rfl rfl;have HI3:=Hz hI3;obtain ⟨lo,lc,rfl,-,-,-⟩:=hI3.L.rd;rw [HKL.out] at HI3;have c2:=hI3.V.hq.cell 2;have cl:=hI3.V.hq.lt;have v0:=hvb.cell 0;have v1:=hvb.cell 1;have vl:=hvb.lt;simp only [Lz,aC] at c2 v0 v1;rw [HKL.out] at c2;have HL3:=Hz (show Sl (w2.alloc (.cells #[.int .i64 r1, .int .i64 r2] 96)) 96 2 (.slice lo k lc) k (aE (TS O k).1) by have:=HI3.out.L;rw [HKL.out] at this;exact this);clear hka hI3 hI2 hvb HI;generalize w2.alloc (.cells #[.int .i64 r1, .int .i64 r2] 96)=wb at *;generalize w2.heap.size=bv at *;refine a8 (.free 0 (.free 1 (.free 2 (.free 3 (.free 4 (.pure 5 (.pure 6 (.run 7 (.run 8 (.swi [12] (.free 9 (.free 10 (.free 11 (.run 12 (.swi [] (.fin)))))))))))))))) [8,9,10,11,12] (Fz c2 (Fz v0 (Fa v1))) ?_
   iterate 7 refine Wz ?_
   refine aM rfl rfl (fun K hK=>?_);unfold aw;go_simp;have hkb:aa (fun _=>False) wb ((wb.drew).alloc (.cells #[.int .i64 r1, .int .i64 r2] 96)):=(Kz wb).drew.alloc (.cells #[.int .i64 r1, .int .i64 r2] 96);refine hK _ _ (fun hg=>?_) ?_
   ·refine ⟨?_,?_,?_⟩
    ·exact (World.cell?_of_block (w:=wb) (a:=⟨w.heap.size+1+1,2,none⟩) (hkb.block _ cl (fun h=>h))).trans c2
    ·exact (World.cell?_of_block (w:=wb) (a:=⟨bv,0,none⟩) (hkb.block _ vl (fun h=>h))).trans v0
    ·exact (World.cell?_of_block (w:=wb) (a:=⟨bv,1,none⟩) (hkb.block _ vl (fun h=>h))).trans v1
   clear hK K;refine aA rfl rfl rfl (fun K hK=>?_);refine dF (.tmp 28) (.tmp 30) 38 rfl 96 vi (.agg #[.int .i64 0, .int .i64 0]) 2 16 Tryz.underlying38 Vi.out Vz0.out Vz1.out Vz2.out rfl (by decide) _ k (aE (TS O k).1) rfl (HL3.out.ab hkb (fun _ _ h=>h)) ⟨wb.heap.size,0,none⟩ 1 1 [.int .i64 r1, .int .i64 r2] rfl rfl (bX wb.drew 96 #[.int .i64 r1, .int .i64 r2]) (by intro u hu;simp at hu;rcases hu with rfl | rfl <;> rfl) (by unfold maxLen;omega) (by omega) ?_;intro v3 w3 hs3 hk3 ho3;have HI4:=Hz (HI3.out.app (v:=(r1,r2)) hkb (by rw [HKL.out];exact hs3) hk3 ho3);have hp3:=hk3.aq (hkb.aq HI3.out.V.hq (fun h=>h)) (fun hv=>by obtain ⟨_,c',hc⟩:=(HL3.out.ab hkb (fun _ _ h=>h)).own hv;exact (hkb.aq HI3.out.V.hq (fun h=>h)).ne hc (by decide) rfl);have x0:=hp3.cell 2;have xf:=hp3.free 2;have xl:=hp3.lt;simp only [Lz,aC] at x0;obtain ⟨lo3,lc3,rfl,-,-,-⟩:=hs3.rd;refine hK _ _ ?_;clear hK K hkb hs3 hk3 ho3 hp3 c2 cl v0 v1 vl;refine aB (fun _=>True) trivial ?_
   iterate 3 refine Wz ?_
   refine aA rfl rfl rfl (fun K hK=>?_);unfold aw;go_simp;refine hK _ _ ?_;clear hK K;refine aB (fun _=>True) trivial (av ?_);clear x0 xf xl;go_wp2_with fail;go_roundw
   case rel=>exact ⟨k+1,_,nv2,F2,by omega,by go_num,by rw [HST.out];exact HI4.out⟩
   case measure=>simp [intOf];omega
  ·obtain rfl:k=12:=by omega
   obtain ⟨lo,lc,rfl,hrr,-,-⟩:=hI.L.rd;obtain ⟨cs,hns,hnr⟩:=hI.V.hn;obtain ⟨no,nc,rfl,-,-,-⟩:=hns.rd;have c2:=hI.V.hq.cell 2;have c3:=hI.V.hq.cell 3;have cl:=hI.V.hq.lt;have b0:=hI.B.cell 0;have b1:=hI.B.cell 1;have bl:=hI.B.lt;have f0:=hI.B.free 0;have f1:=hI.B.free 1;simp only [Lz,aC] at c2 c3 b0 b1;have HVE:=Hz (show O.view=((TS O 12).1,(TS O 12).2.2) by
    unfold Wo.view ky TS deep
    rw [List.take_of_length_le (by rw [List.length_map,HH.out.ok.h12];exact Nat.le_refl _)])
   clear hI hrr hns hnr hlt hk hkl;go_wp2_with (refine bZ rfl 41 (.tmp 38) rfl (by kernel_rfl) (w.heap.size+1+1) 2 rfl _ _ c2 c3 ?_);have dX:=(HI.out.B.aG 0 (.slice lo (TS O 12).1.length lc)).aG 1 (.slice no (TS O 12).2.2.length nc);have x0:=dX.cell 0;have x1:=dX.cell 1;simp only [List.set_cons_zero,List.set_cons_succ,Lz,aC] at x0 x1;refine bodyPost_ret (v:=.agg #[.slice lo (TS O 12).1.length lc, .slice no (TS O 12).2.2.length nc]) (by simp [results,Tryz.results17,go_sem,x0,x1]) rfl ?_;refine ⟨_,rfl,?_,(HI.out.K.setCell (p:=⟨w.heap.size,0,none⟩) (.inr (Nat.le_refl _)) _).setCell (p:=⟨w.heap.size,1,none⟩) (.inr (Nat.le_refl _)) _⟩;rw [HVE.out];have ke:=((aa.refl (·=w.heap.size) wr).setCell (p:=⟨w.heap.size,0,none⟩) (.inl rfl) (.slice lo (TS O 12).1.length lc)).setCell (p:=⟨w.heap.size,1,none⟩) (.inl rfl) (.slice no (TS O 12).2.2.length nc);have nF:∀ j,F j→¬ j=w.heap.size:=fun j hj e=>by
    have:=HI.out.o2 j hj;omega
   refine ⟨lo,lc,no,nc,F,rfl,HI.out.L.ab ke (fun j hj e=>?_),HI.out.V.hn.ab ke (fun j hj _=>nF j hj) (fun j hj e=>?_),fun j hj=>?_⟩
   ·subst e;obtain ⟨_,c,hc⟩:=HI.out.L.own hj;exact hc.ne HI.out.B (by decide) rfl
   ·subst e;obtain ⟨_,c,hc⟩:=HI.out.V.hn.own hj;exact hc.ne HI.out.B (by decide) rfl
   ·have hks:=ke.size;rcases hj with hj | hj | hj
    ·exact ⟨Nat.le_of_lt (HI.out.o2 j hj),by have:=(HI.out.V.hF j hj).1;omega⟩
    ·exact ⟨(HI.out.o3 j hj).1,by have:=(HI.out.L.own hj).1;omega⟩
    ·exact ⟨HI.out.o1 j hj,by have:=(HI.out.V.hn.own hj).1;omega⟩
end
end
section
open Go.RowKit
theorem Rd.val {w:World} {ao:Option Addr} {l:List Vl} (h:Rd w ao (aE l)) (i:Nat) (hi:i<l.length) :
  ∃ g o,ao=some ⟨g,o,none⟩∧g<w.heap.size∧w.cell? ⟨g,o+i*2,none⟩=some (.int .i64 (l.getD i (0,0)).1)∧w.cell? ⟨g,o+i*2+1,none⟩=some (.int .i64 (l.getD i (0,0)).2):=by
 have hlen:(aE l).length=l.length*2:=cD l;obtain ⟨g,o,rfl,hg,hc⟩:=h (by intro e;rw [e] at hlen;simp at hlen;omega);have h1:=pA l i hi;refine ⟨g,o,rfl,hg,?_,?_⟩
 ·rw [hc (i*2) (by rw [hlen];omega)];exact h1.1
 ·rw [Nat.add_assoc,hc (i*2+1) (by rw [hlen];omega)];exact h1.2
theorem dw.nth {w:World} {nv:Value} {F:Nat→Prop} {l:List Nd} (h:dw w nv F l):∃ no nc,nv=.slice no l.length nc∧∀ i,i<l.length→∃ g o ao cap,no=some ⟨g,o,none⟩∧g<w.heap.size∧w.cell? ⟨g,o+i*2,none⟩=some (.int .i64 (l.getD i (0,[])).1) ∧
  w.cell? ⟨g,o+i*2+1,none⟩=some (.slice ao (l.getD i (0,[])).2.length cap)∧Rd w ao (aE (l.getD i (0,[])).2)∧(l.getD i (0,[])).2.length≤maxLen:=by
 obtain ⟨cs,hs,hr⟩:=h;obtain ⟨no,nc,rfl,hrd,-,-⟩:=hs.rd;refine ⟨no,nc,rfl,fun i hi=>?_⟩;obtain ⟨r,h1,⟨ao,cap,rfl,h2,-,h3⟩,h4⟩:=hr.cell hi;have hlen:=hr.length;have hne:cs≠[]:=by intro e;subst e;simp at hlen;omega
 obtain ⟨g,o,rfl,hg,hc⟩:=hrd hne;have e:l.getD i (0,[])=l[i]:=by rw [Ld,Le hi];rfl
 rw [e];refine ⟨g,o,ao,cap,rfl,hg,?_,?_,h2,h3⟩
 ·have:=h4 0 (by decide);rw [hc (i*2) (by rw [hlen];omega)];exact this
 ·have:=h4 1 (by decide);rw [Nat.add_assoc,hc (i*2+1) (by rw [hlen];omega)];exact this
def kE (w:World) (v:Value) (V:List Vl × List Nd):Prop:=
 ∃ ro rc nv F,v=.agg #[.slice ro V.1.length rc,nv]∧Rd w ro (aE V.1)∧dw w nv F V.2∧V.1.length≤1000000∧V.2.length≤1000000∧∀ n ∈ V.2,n.2.length≤1000000
theorem jP.r {w:World} {lo:Nat} {v:Value} {V:List Vl × List Nd} (H:jP w lo v V) (h1:V.1.length≤1000000) (h2:V.2.length≤1000000) (h3:∀ n ∈ V.2,n.2.length≤1000000):kE w v V:=by
 obtain ⟨ro,rc,no,nc,F,e,a,b,c⟩:=H;obtain ⟨_,_,e',hr,-,-⟩:=a.rd;cases e';exact ⟨ro,rc,_,F,e,hr,b,h1,h2,h3⟩
end
section
open Go.RowKit
theorem qu {α:Type} {z:α} {l r:List α} (hl:l.length=r.length) (h:∀ j,j<l.length→l.getD j z=r.getD j z):l=r:=by
 apply List.ext_getElem hl;intro i h1 h2;have:=h i h1;rw [Ld,Ld,Le h1,Le h2] at this;exact this
theorem sY (a b:Option Addr) (ca cb:Nat) (l r:List Vl) (w:World) (h1:Rd w a (aE l)) (h2:Rd w b (aE r)) (hl:l.length≤1000000) (hr:r.length≤1000000) :
  Calls Tryz.prog 108 #[.slice a l.length ca, .slice b r.length cb] w fun e w'=>e=.returned (.bool (decide (l=r)))∧aa (fun _=>False) w w':=by
 have H1:=Hz h1;have H2:=Hz h2;clear h1 h2;go_enter Tryz.func108,Tryz.ntmps108;by_cases hlen:l.length=r.length
 case neg=>
  have HE:=Hz (show decide (l=r)=false from decide_eq_false (fun e=>hlen (by rw [e])));have hb:((l.length:Int) != (r.length:Int))=true:=by simp;omega
  clear hlen;go_wp2_with fail;go_ret;rw [HE.out];exact ⟨rfl,aa.refl _ _⟩
 have HL:=Hz hlen;rw [←hlen] at hr ⊢;clear hlen;have hb:((l.length:Int) != (l.length:Int))=false:=by simp
 go_wp2_with fail;go_loopw [13] (fun i wr=>∃ k:Nat,k≤l.length∧i=.int .i64 k∧aa (fun _=>False) w wr∧∀ j,j<k→l.getD j (0,0)=r.getD j (0,0)) (fun i _=>l.length-(intOf i).toNat)
 case atStart=>exact ⟨0,Nat.zero_le _,rfl,aa.refl _ _,fun j hj=>by omega⟩
 case round=>
  obtain ⟨k,hk,rfl,hkk,hq⟩:=hrel;have HK:=Hz hkk;have HQ:=Hz hq;clear hkk hq hb;by_cases hlt:k<l.length
  ·obtain ⟨g,o,rfl,hgl,d0,d1⟩:=(H1.out.ab HK.out (fun _ _ _ h=>h)).val k hlt;obtain ⟨g',o',rfl,hgl',e0,e1⟩:=(H2.out.ab HK.out (fun _ _ _ h=>h)).val k (by rw [←HL.out];exact hlt);generalize hv:l.getD k (0,0)=v at *;generalize hu:r.getD k (0,0)=u at *;have HV:=Hz hv;have HU:=Hz hu;clear hv hu;obtain ⟨v1,v2⟩:=v;obtain ⟨u1,u2⟩:=u;dsimp only at d0 d1 e0 e1;by_cases h1:v1=u1
   ·subst h1;by_cases h2:v2=u2
    ·subst h2;have HN:=Hz (show ∀ j,j<k+1→l.getD j (0,0)=r.getD j (0,0) from fun j hj=>by
      rcases (show j<k∨j=k by omega) with h | rfl
      ·exact HQ.out j h
      ·rw [HV.out,HU.out])
     go_wp2_with fail;refine a8 (.free 0 (.free 1 (.free 2 (.free 4 (.free 5 (.free 6 (.pure 3 (.pure 7 (.free 8 (.fin)))))))))) [] (Fz d0 (Fz d1 (Fz e0 (Fa e1)))) ?_
     iterate 9 refine Wz ?_
     refine av ?_;clear d0 d1 e0 e1 hgl hgl';go_wp2_with fail;go_roundw
     case rel=>exact ⟨k+1,by omega,by go_num,HK.out.drew,HN.out⟩
     case measure=>simp [intOf];omega
    ·have HE:=Hz (show decide (l=r)=false from decide_eq_false (fun e=>h2 (by have h:=HV.out;rw [e,HU.out] at h;injection h with _ h;exact h.symm)));go_wp2_with fail;refine a8 (.free 0 (.free 1 (.free 2 (.free 4 (.free 5 (.free 6 (.pure 3 (.pure 7 (.free 8 (.fin)))))))))) [] (Fz d0 (Fz d1 (Fz e0 (Fa e1)))) ?_
     iterate 9 refine Wz ?_
     refine av ?_;clear d0 d1 e0 e1 hgl hgl';go_wp2_with fail;go_ret;rw [HE.out];exact ⟨rfl,HK.out.drew⟩
   ·have HE:=Hz (show decide (l=r)=false from decide_eq_false (fun e=>h1 (by have h:=HV.out;rw [e,HU.out] at h;injection h with h _;exact h.symm)));go_wp2_with fail;refine a8 (.free 0 (.free 1 (.free 2 (.free 4 (.free 5 (.free 6 (.pure 3 (.pure 7 (.free 8 (.fin)))))))))) [] (Fz d0 (Fz d1 (Fz e0 (Fa e1)))) ?_
    iterate 9 refine Wz ?_
    refine av ?_;clear d0 d1 e0 e1 hgl hgl';go_wp2_with fail;go_ret;rw [HE.out];exact ⟨rfl,HK.out.drew⟩
  ·obtain rfl:k=l.length:=by omega
   have HE:=Hz (show decide (l=r)=true from decide_eq_true (qu HL.out HQ.out));clear hlt hk;go_wp2_with fail;go_ret;rw [HE.out];exact ⟨rfl,HK.out⟩
theorem yu (x y:Int) (a b:Option Addr) (ca cb:Nat) (l r:List Vl) (w:World) (h1:Rd w a (aE l)) (h2:Rd w b (aE r)) (hl:l.length≤1000000) (hr:r.length≤1000000) :
  Calls Tryz.prog 110 #[.agg #[.int .i64 x, .slice a l.length ca], .agg #[.int .i64 y, .slice b r.length cb]] w fun e w'=>e=.returned (.bool (decide (((x,l):Nd)=(y,r))))∧aa (fun _=>False) w w':=by
 have ka:=((Kz w).alloc (.cells #[.int .i64 x, .slice a l.length ca] 139)).alloc (.cells #[.int .i64 y, .slice b r.length cb] 139);have ax:aj ((w.alloc (.cells #[.int .i64 x, .slice a l.length ca] 139)).alloc (.cells #[.int .i64 y, .slice b r.length cb] 139)) w.heap.size [.int .i64 x, .slice a l.length ca] 139:=(aj.newAt _ rfl rfl).alloc _;have bH:aj ((w.alloc (.cells #[.int .i64 x, .slice a l.length ca] 139)).alloc (.cells #[.int .i64 y, .slice b r.length cb] 139)) (w.heap.size+1) [.int .i64 y, .slice b r.length cb] 139:=aj.newAt _ (by simp) rfl;have K1:=Hz ka;have x0:=ax.cell 0;have x1:=ax.cell 1;have xl:=ax.lt;have y0:=bH.cell 0;have y1:=bH.cell 1;have yl:=bH.lt;simp only [Lz,aC] at x0 x1 y0 y1;have HC:=Hz (sY a b ca cb l r _ (h1.ab ka (fun _ _ _ h=>h)) (h2.ab ka (fun _ _ _ h=>h)) hl hr);clear h1 h2 ka ax bH;go_enter Tryz.func110,Tryz.ntmps110;go_upto_region 1 with (fail)
 generalize (w.alloc (.cells #[.int .i64 x, .slice a l.length ca] 139)).alloc (.cells #[.int .i64 y, .slice b r.length cb] 139)=w1 at *;by_cases he:x=y
 ·subst he;have HE:=Hz (show decide (((x,l):Nd)=(x,r))=decide (l=r) by simp);go_wp2_with fail;refine HC.out.mono ?_;rintro e w2 ⟨rfl,hk⟩;have K2:=Hz (K1.out.trans hk);clear hk x0 x1 xl y0 y1 yl;generalize decide (l=r)=q at *;go_wp2_with fail;go_ret;rw [HE.out];exact ⟨rfl,K2.out⟩
 ·have HE:=Hz (show decide (((x,l):Nd)=(y,r))=false from decide_eq_false (fun e=>he (by injection e)));have hxy:(x == y)=false:=by simpa using he
  clear he;go_wp2_with fail;go_ret;rw [HE.out];exact ⟨rfl,K1.out⟩
theorem wX (nv mv:Value) (F E:Nat→Prop) (l r:List Nd) (w:World) (h1:dw w nv F l) (h2:dw w mv E r) (hl:l.length≤1000000) (hr:r.length≤1000000) (hl2:∀ n ∈ l,n.2.length≤1000000) (hr2:∀ n ∈ r,n.2.length≤1000000) :
  Calls Tryz.prog 109 #[nv,mv, .func (.func 110) #[] #[]] w fun e w'=>e=.returned (.bool (decide (l=r)))∧aa (fun _=>False) w w':=by
 obtain ⟨no,nc,rfl,N1⟩:=h1.nth;obtain ⟨mo,mc,rfl,N2⟩:=h2.nth;have H1:=Hz h1;have H2:=Hz h2;have HL2:=Hz hl2;have HR2:=Hz hr2;clear h1 h2 N1 N2 hl2 hr2;go_enter Tryz.func109,Tryz.ntmps109;by_cases hlen:l.length=r.length
 case neg=>
  have HE:=Hz (show decide (l=r)=false from decide_eq_false (fun e=>hlen (by rw [e])));have hb:((l.length:Int) != (r.length:Int))=true:=by simp;omega
  clear hlen;go_wp2_with fail;go_ret;rw [HE.out];exact ⟨rfl,aa.refl _ _⟩
 have HL:=Hz hlen;rw [←hlen] at hr ⊢;clear hlen;have hb:((l.length:Int) != (l.length:Int))=false:=by simp
 go_wp2_with fail;go_loopw [17] (fun i wr=>∃ k:Nat,k≤l.length∧i=.int .i64 k∧aa (fun _=>False) w wr∧∀ j,j<k→l.getD j (0,[])=r.getD j (0,[])) (fun i _=>l.length-(intOf i).toNat)
 case atStart=>exact ⟨0,Nat.zero_le _,rfl,aa.refl _ _,fun j hj=>by omega⟩
 case round=>
  obtain ⟨k,hk,rfl,hkk,hq⟩:=hrel;have HK:=Hz hkk;have HQ:=Hz hq;clear hkk hq hb;by_cases hlt:k<l.length
  ·obtain ⟨no',nc',e',N1⟩:=(H1.out.ab HK.out (fun _ _ _ h=>h) (fun _ _ h=>h)).nth;cases e';obtain ⟨mo',mc',e',N2⟩:=(H2.out.ab HK.out (fun _ _ _ h=>h) (fun _ _ h=>h)).nth;rw [←HL.out] at e';cases e';obtain ⟨g,o,ao,ac,rfl,hgl,x0,x1,xr,-⟩:=N1 k hlt;obtain ⟨g',o',bo,bc,rfl,hgl',y0,y1,yr,-⟩:=N2 k (by rw [←HL.out];exact hlt);have hx2:(l.getD k (0,[])).2.length≤1000000:=HL2.out _ (by rw [Ld,Le hlt];exact List.getElem_mem _);have hy2:(r.getD k (0,[])).2.length≤1000000:=HR2.out _ (by rw [Ld,Le (by rw [←HL.out];exact hlt)];exact List.getElem_mem _);clear N1 N2;generalize hv:l.getD k (0,[])=v at *;generalize hu:r.getD k (0,[])=u at *;have HV:=Hz hv;have HU:=Hz hu;clear hv hu;obtain ⟨vk,vf⟩:=v;obtain ⟨uk,uf⟩:=u;dsimp only at x0 x1 y0 y1 xr yr hx2 hy2;have XR:=Hz xr;have YR:=Hz yr;have X2:=Hz hx2;have Y2:=Hz hy2;clear xr yr hx2 hy2;go_upto_region 7 with (fail)
   have ka:=((Kz wr).alloc (.cells #[.int .i64 vk, .slice ao vf.length ac] 139)).alloc (.cells #[.int .i64 uk, .slice bo uf.length bc] 139);have ax:aj ((wr.alloc (.cells #[.int .i64 vk, .slice ao vf.length ac] 139)).alloc (.cells #[.int .i64 uk, .slice bo uf.length bc] 139)) wr.heap.size [.int .i64 vk, .slice ao vf.length ac] 139:=(aj.newAt _ rfl rfl).alloc _;have bH:aj ((wr.alloc (.cells #[.int .i64 vk, .slice ao vf.length ac] 139)).alloc (.cells #[.int .i64 uk, .slice bo uf.length bc] 139)) (wr.heap.size+1) [.int .i64 uk, .slice bo uf.length bc] 139:=aj.newAt _ (by simp) rfl;have KA:=Hz (HK.out.trans ka);have HC:=Hz (yu vk uk ao bo ac bc vf uf _ (XR.out.ab ka (fun _ _ _ h=>h)) (YR.out.ab ka (fun _ _ _ h=>h)) X2.out Y2.out);clear x0 x1 y0 y1 hgl hgl';have x0:=ax.cell 0;have x1:=ax.cell 1;have xl:=ax.lt;have y0:=bH.cell 0;have y1:=bH.cell 1;have yl:=bH.lt;simp only [Lz,aC] at x0 x1 y0 y1;clear ka ax bH HK;generalize (wr.alloc (.cells #[.int .i64 vk, .slice ao vf.length ac] 139)).alloc (.cells #[.int .i64 uk, .slice bo uf.length bc] 139)=w1 at *;go_wp2_with fail;refine HC.out.mono ?_;rintro e w2 ⟨rfl,hk2⟩;have K2:=Hz (KA.out.trans hk2);clear hk2 x0 x1 xl y0 y1 yl HC KA;by_cases he:((vk,vf):Nd)=(uk,uf)
   ·have hd:=decide_eq_true he;rw [hd];have HN:=Hz (show ∀ j,j<k+1→l.getD j (0,[])=r.getD j (0,[]) from fun j hj=>by
     rcases (show j<k∨j=k by omega) with h | rfl
     ·exact HQ.out j h
     ·rw [HV.out,HU.out,he])
    clear hd he;go_wp2_with fail;go_roundw
    case rel=>exact ⟨k+1,by omega,by go_num,K2.out,HN.out⟩
    case measure=>simp [intOf];omega
   ·have hd:=decide_eq_false he;rw [hd];have HE:=Hz (show decide (l=r)=false from decide_eq_false (fun e=>he (by rw [←HV.out,←HU.out,e])));clear hd he;go_wp2_with fail;go_ret;rw [HE.out];exact ⟨rfl,K2.out⟩
  ·obtain rfl:k=l.length:=by omega
   have HE:=Hz (show decide (l=r)=true from decide_eq_true (qu HL.out HQ.out));clear hlt hk;go_wp2_with fail;go_ret;rw [HE.out];exact ⟨rfl,HK.out⟩
theorem ru (x y:Value) (V U:List Vl × List Nd) (w:World) (h1:kE w x V) (h2:kE w y U) :
  Calls Tryz.prog 39 #[x,y] w fun e w'=>e=.returned (.bool (decide (V=U)))∧aa (fun _=>False) w w':=by
 obtain ⟨ro,rc,nv,F,rfl,r1,n1,l1,l2,l3⟩:=h1;obtain ⟨so,sc,mv,E,rfl,r2,n2,m1,m2,m3⟩:=h2;have ka:=((Kz w).alloc (.cells #[.slice ro V.1.length rc,nv] 41)).alloc (.cells #[.slice so U.1.length sc,mv] 41);have ax:aj ((w.alloc (.cells #[.slice ro V.1.length rc,nv] 41)).alloc (.cells #[.slice so U.1.length sc,mv] 41)) w.heap.size [.slice ro V.1.length rc,nv] 41:=(aj.newAt _ rfl rfl).alloc _;have bH:aj ((w.alloc (.cells #[.slice ro V.1.length rc,nv] 41)).alloc (.cells #[.slice so U.1.length sc,mv] 41)) (w.heap.size+1) [.slice so U.1.length sc,mv] 41:=aj.newAt _ (by simp) rfl;have K1:=Hz ka;have B1:=Hz ax;have B2:=Hz bH;have HC:=Hz (sY ro so rc sc V.1 U.1 _ (r1.ab ka (fun _ _ _ h=>h)) (r2.ab ka (fun _ _ _ h=>h)) l1 m1);have HN:=Hz (fun w' (k:aa (fun _=>False) w w')=>wX nv mv F E V.2 U.2 w' (n1.ab k (fun _ _ _ h=>h) (fun _ _ h=>h)) (n2.ab k (fun _ _ _ h=>h) (fun _ _ h=>h)) l2 m2 l3 m3);obtain ⟨no,nc,rfl,-⟩:=n1.nth;obtain ⟨mo,mc,rfl,-⟩:=n2.nth;clear r1 r2 n1 n2 ka ax bH l3 m3;have x0:=B1.out.cell 0;have xl:=B1.out.lt;have y0:=B2.out.cell 0;have yl:=B2.out.lt;simp only [Lz,aC] at x0 y0;go_enter Tryz.func39,Tryz.ntmps39;go_upto_region 1 with (fail)
 generalize (w.alloc (.cells #[.slice ro V.1.length rc, .slice no V.2.length nc] 41)).alloc (.cells #[.slice so U.1.length sc, .slice mo U.2.length mc] 41)=w1 at *;generalize w.heap.size=xb at *;go_wp2_with fail;refine HC.out.mono ?_;rintro e w2 ⟨rfl,hk⟩;have K2:=Hz (K1.out.trans hk);have x1:=(hk.aq B1.out (fun h=>h)).cell 1;have xl:=(hk.aq B1.out (fun h=>h)).lt;have y1:=(hk.aq B2.out (fun h=>h)).cell 1;have yl:=(hk.aq B2.out (fun h=>h)).lt;simp only [Lz,aC] at x1 y1;clear hk x0 y0 K1 B1 B2 HC;by_cases he:V.1=U.1
 ·have hd:=decide_eq_true he;rw [hd];have HE:=Hz (show decide (V=U)=decide (V.2=U.2) by
   by_cases h:V.2=U.2
   ·rw [decide_eq_true h,decide_eq_true (Prod.ext he h)]
   ·rw [decide_eq_false h,decide_eq_false (fun e=>h (by rw [e]))])
  have HC:=Hz (HN.out _ K2.out);clear hd he HN;go_wp2_with fail;refine HC.out.mono ?_;rintro e w3 ⟨rfl,hk⟩;have K3:=Hz (K2.out.trans hk);clear hk x1 y1 HC;generalize decide (V.2=U.2)=q at *;go_wp2_with fail;go_ret;rw [HE.out];exact ⟨rfl,K3.out⟩
 ·have hd:=decide_eq_false he;rw [hd];have HE:=Hz (show decide (V=U)=false from decide_eq_false (fun e=>he (by rw [e])));clear hd he HN;go_wp2_with fail;go_ret;rw [HE.out];exact ⟨rfl,K2.out⟩
end
section
open Go.RowKit
def overL (p:Nat→Bool) (u:Nat→Value):Nat→List Value→List Value
 | _,[]=>[]
 | i,v :: l=>(bif p i then u i else v) :: overL p u (i+1) l
def fN (a:Act) (p:Nat→Bool) (u:Nat→Value):Act:={ a with tmps:=(overL p u 0 a.tmps.toList).toArray }
def slotsOf (a:Act) (i:Nat):Value:=a.tmps.toList.getD i undef
def sB (a:Act) (p:Nat→Bool) (R:(Nat→Value)→World→Prop) (a':Act) (w':World):Prop:=a'=fN a p (slotsOf a')∧R (slotsOf a') w'
def Cf (a:Act) (p:Nat→Bool) (R:(Nat→Value)→World→Prop) (mu:(Nat→Value)→World→Nat) (n:Nat) (a':Act) (w':World):Prop:=sB a p R a' w'∧mu (slotsOf a') w' < n
variable {P:Program} {a:Act} {w:World} {c:Code} {Q:Exit→Act→World→Prop}
theorem qx (p:Nat→Bool) (u:Nat→Value):∀ (l:List Value) (i:Nat),(∀ j,j<l.length→u (i+j)=l.getD j undef)→overL p u i l=l
 | [],i,_=>rfl
 | v :: l,i,h=>by
  have h0:=h 0 (by simp);simp only [Nat.add_zero,List.getD_cons_zero] at h0;have ih:=qx p u l (i+1) (fun j hj=>by
   have:=h (j+1) (by simp;omega);rw [show i+(j+1)=i+1+j by omega,List.getD_cons_succ] at this
   exact this)
  simp only [overL,ih,h0];cases p i <;> rfl
theorem vK (a:Act) (p:Nat→Bool):a=fN a p (slotsOf a):=by
 cases a with
 | mk t d=>
  unfold fN slotsOf;dsimp only;rw [qx p _ t.toList 0 (fun j hj=>by rw [Nat.zero_add])]
theorem nS (p:Nat→Bool) (R:(Nat→Value)→World→Prop) (mu:(Nat→Value)→World→Nat) (h0:R (slotsOf a) w)
  (round:∀ (u:Nat→Value) (w':World),R (slotsOf (fN a p u)) w'→∀ K:Act→World→Prop,(∀ a'' w'',Cf a p R mu (mu (slotsOf (fN a p u)) w') a'' w''→K a'' w'')→c.wp P (Exit.then K Q) (fN a p u) w') :
  (Code.loop c).wp P Q a w:=by
 refine wp_loop (sB a p R) (fun a' w'=>mu (slotsOf a') w') ⟨vK a p,h0⟩ ?_;rintro a' w' ⟨e,hR⟩;obtain ⟨u,hu⟩:∃ u,u=slotsOf a':=⟨_,rfl⟩;rw [←hu] at e;subst e;exact round u w' hR _ (fun a'' w'' h=>h)
theorem gK {K:Act→World→Prop} (p:Nat→Bool) (R:(Nat→Value)→World→Prop)
  (first:∀ K':Act→World→Prop,(∀ a'' w'',sB a p R a'' w''→K' a'' w'')→c.wp P (Exit.then K' Q) a w)
  (rest:∀ (u:Nat→Value) (w':World),R (slotsOf (fN a p u)) w'→K (fN a p u) w'):c.wp P (Exit.then K Q) a w:=by
 refine wp_mono (first (sB a p R) (fun _ _ h=>h)) ?_;intro e a' w' hq;cases e with
 | normal=>
  obtain ⟨e,hR⟩:=hq;obtain ⟨u,hu⟩:∃ u,u=slotsOf a':=⟨_,rfl⟩;rw [←hu] at e;subst e;exact rest u w' hR
 | exit id=>exact hq
 | goto l=>exact hq
 | ret=>exact hq
 | panic ch=>exact hq
 | outgrown=>exact hq
end
section
variable {τ:Type}
def wakeM (alive:τ→Int→Bool) (ab:τ→Int→τ × Int):τ→List (Int × Int)→τ × List (Int × Int) × Bool
 | t,[]=>(t,[],false)
 | t,e :: l=>
  if alive t e.1 && !alive t e.2 then
   let r:=wakeM alive ab (ab t e.2).1 l
   (r.1,(e.1,(ab t e.2).2) :: r.2.1,true)
  else
   let r:=wakeM alive ab t l
   (r.1,e :: r.2.1,r.2.2)
abbrev It:=(Int × Int) × Bool × Bool
def scanM (alive:τ→Int→Bool) (ab:τ→List (Int × Int)→Int→τ × List (Int × Int) × Int):τ→List (Int × Int)→List It→τ × List (Int × Int) × List It × Bool
 | t,q,[]=>(t,q,[],false)
 | t,q,i :: l=>
  if (i.2.1 && !i.2.2) && alive t i.1.1 then
   let r:=scanM alive ab (ab t q i.1.2).1 ((ab t q i.1.2).2.1 ++ [(i.1.1,(ab t q i.1.2).2.2)]) l
   (r.1,r.2.1,(i.1,i.2.1,true) :: r.2.2.1,true)
  else
   let r:=scanM alive ab t q l
   (r.1,r.2.1,i :: r.2.2.1,r.2.2.2)
def roundsM (alive:τ→Int→Bool) (ab:τ→List (Int × Int)→Int→τ × List (Int × Int) × Int):Nat→τ→List (Int × Int)→List It→τ × List (Int × Int) × List It
 | 0,t,q,l=>(t,q,l)
 | n+1,t,q,l=>
  let r:=scanM alive ab t q l
  if r.2.2.2 then roundsM alive ab n r.1 r.2.1 r.2.2.1 else (r.1,r.2.1,r.2.2.1)
def cH (l:List It):Nat:=(l.filter fun i=>!i.2.2).length
theorem iL (i:It) (l:List It):cH (i :: l)=(if i.2.2 then 0 else 1)+cH l:=by
 unfold cH;cases h:i.2.2 <;> simp [List.filter_cons,h];omega
theorem vd (a b:List It):cH (a ++ b)=cH a+cH b:=by unfold cH;simp
theorem iX (alive:τ→Int→Bool) (ab):∀ (l:List It) (t:τ) (q:List (Int × Int)),(scanM alive ab t q l).2.2.1.map (fun i=>(i.1,i.2.1))=l.map (fun i=>(i.1,i.2.1))
 | [],_,_=>rfl
 | i :: l,t,q=>by
  simp only [scanM];split
  ·simp only [List.map_cons];rw [iX alive ab l]
  ·simp only [List.map_cons];rw [iX alive ab l]
theorem mL (alive:τ→Int→Bool) (ab):∀ (l:List It) (t:τ) (q:List (Int × Int)),cH (scanM alive ab t q l).2.2.1≤cH l∧((scanM alive ab t q l).2.2.2=true→cH (scanM alive ab t q l).2.2.1<cH l)
 | [],_,_=>by simp [scanM]
 | i :: l,t,q=>by
  simp only [scanM];split
  ·rename_i h;have ih:=mL alive ab l (ab t q i.1.2).1 ((ab t q i.1.2).2.1 ++ [(i.1.1,(ab t q i.1.2).2.2)]);simp only [Bool.and_eq_true,Bool.not_eq_true'] at h;simp only [iL,h.1.2];simp;omega
  ·have ih:=mL alive ab l t q;simp only [iL];refine ⟨by omega,fun h=>?_⟩;have:=ih.2 h;omega
def bq (alive:τ→Int→Bool) (now:τ→Int→Int) (t:τ) (l:List It):List (Int × Int):=(l.filter fun i=>!i.2.1 && alive t i.1.1).map fun i=>(now t i.1.1,now t i.1.2)
def bs (alive:τ→Int→Bool) (now:τ→Int→Int) (t:τ) (l:List (Int × Int)):List (Int × Int):=(l.filter fun e=>alive t e.1).map fun e=>(now t e.1,now t e.2)
def cV (alive:τ→Int→Bool) (t:τ) (ah:List (Int × Int)):List It:=ah.map fun e=>(e,!alive t e.2,false)
def dC (alive:τ→Int→Bool) (ab:τ→List (Int × Int)→Int→τ × List (Int × Int) × Int) (t:τ) (ah wait:List (Int × Int)):τ × List (Int × Int) × List It:=
 roundsM alive ab (ah.length+1) t wait (cV alive t ah)
end
section
def iH (G:Gr) (wait:List (Int × Int)) (S:Int→Prop) (i j:Int):Prop:=
 (((G i).1=1∨(G i).1=2)∧((3,j):Vl) ∈ (G i).2) ∨
 ((G i).1=3∧(G i).2[1]? = some (3,j)) ∨
 ((G i).1=4∧(G i).2[1]? = some (3,j)∧∀ v,(G i).2[0]? = some v→v.1=3→S v.2) ∨
 ((G i).1=5∧(i,j) ∈ wait)
def cj (G:Gr) (wait:List (Int × Int)) (S:Int→Prop):Prop:=∀ i j,S i→iH G wait S i j→S j
def cI (G:Gr) (wait:List (Int × Int)) (X:Int→Prop) (i:Int):Prop:=∀ S:Int→Prop,(∀ j,X j→S j)→cj G wait S→S i
section
variable {G:Gr} {wait wait':List (Int × Int)} {S S' X Y:Int→Prop} {i j:Int}
theorem iH.mono (h:∀ k,S k→S' k) (hw:∀ e ∈ wait,e ∈ wait') (hl:iH G wait S i j):iH G wait' S' i j:=by
 rcases hl with h1 | h1 | ⟨h1,h2,h3⟩ | ⟨h1,h2⟩
 ·exact .inl h1
 ·exact .inr (.inl h1)
 ·exact .inr (.inr (.inl ⟨h1,h2,fun v hv h3'=>h _ (h3 v hv h3')⟩))
 ·exact .inr (.inr (.inr ⟨h1,hw _ h2⟩))
theorem cI.base (h:X i):cI G wait X i:=fun _ hX _=>hX i h
theorem cI.least (h:cI G wait X i) (hX:∀ k,X k→S k) (hS:cj G wait S):S i:=h S hX hS
theorem cI.closed (G:Gr) (wait:List (Int × Int)) (X:Int→Prop):cj G wait (cI G wait X):=fun i j hi hl S hX hS=>
 hS i j (hi S hX hS) (hl.mono (fun k hk=>hk S hX hS) (fun _ h=>h))
end
def au (l:List Bool) (i:Int):Bool:=decide (0≤i) && l.getD i.toNat false
theorem dH (l:List Bool) (i:Nat):au l i=l.getD i false:=by simp [au]
theorem me {l:List Bool} {i:Int} (h:au l i=true):0≤i∧i<l.length:=by
 unfold au at h;simp only [Bool.and_eq_true,decide_eq_true_eq] at h;refine ⟨h.1,?_⟩;by_cases hl:i.toNat<l.length
 ·omega
 ·have h2:=h.2;rw [Ld,List.getElem?_eq_none (by omega)] at h2;cases h2
open Classical in
noncomputable def pG (G:Gr) (wait:List (Int × Int)) (is:List Bool):List Bool:=
 (List.range is.length).map fun i=>decide (cI G wait (fun k=>au is k=true) (i:Nat))
theorem eW (G:Gr) (wait:List (Int × Int)) (is:List Bool):(pG G wait is).length=is.length:=by simp [pG]
open Classical in
theorem cW {G:Gr} {wait:List (Int × Int)} {is:List Bool} {i:Int}:au (pG G wait is) i=true↔0≤i∧i<is.length∧cI G wait (fun k=>au is k=true) i:=by
 constructor
 ·intro h;have:=me h;rw [eW] at this;refine ⟨this.1,this.2,?_⟩;unfold au pG at h;simp only [Bool.and_eq_true,Ld,List.getElem?_map] at h;rw [List.getElem?_range (by omega)] at h;have h2:=h.2;simp only [Option.map_some,Option.getD_some,decide_eq_true_eq] at h2;rwa [show ((i.toNat:Nat):Int)=i by omega] at h2
 ·rintro ⟨h0,h1,h2⟩;unfold au pG;simp only [Bool.and_eq_true,Ld,List.getElem?_map];rw [List.getElem?_range (by omega)];refine ⟨by simpa using h0,?_⟩;simp only [Option.map_some,Option.getD_some,decide_eq_true_eq];rwa [show ((i.toNat:Nat):Int)=i by omega]
theorem ve {a b:List Bool} (hl:a.length=b.length) (h:∀ i:Int,0≤i→i<a.length→(au a i=true↔au b i=true)):a=b:=by
 apply List.ext_getElem hl;intro k h1 h2;have:=h k (by omega) (by omega);simp only [dH,Ld,Le h1,Le h2,Option.getD_some] at this;rw [Bool.eq_iff_iff];exact this
theorem zY {G:Gr} {wait:List (Int × Int)} {is out:List Bool} (hl:out.length=is.length) (h1:∀ i,au is i=true→au out i=true) (h2:∀ i,au out i=true→cI G wait (fun k=>au is k=true) i)
  (h3:cj G wait fun k=>au out k=true):out=pG G wait is:=by
 refine ve (by rw [eW,hl]) fun i h0 hlt=>?_;rw [cW];exact ⟨fun h=>⟨h0,by omega,h2 i h⟩,fun h=>h.2.2.least h1 h3⟩
theorem gL {is:List Bool} {x i:Int} (h0:0≤x) (h1:x<is.length):au (is.set x.toNat true) i=true↔i=x∨au is i=true:=by
 unfold au;simp only [Bool.and_eq_true,decide_eq_true_eq,Ld,List.getElem?_set];by_cases e:x.toNat=i.toNat
 ·rw [if_pos e,if_pos (by omega)];simp only [Option.getD_some,and_true];constructor
  ·intro h;left;omega
  ·rintro (rfl | ⟨h,_⟩)
   ·exact h0
   ·exact h
 ·rw [if_neg e];constructor
  ·intro h;exact .inr h
  ·rintro (rfl | h)
   ·exact absurd rfl e
   ·exact h
structure Th where
 k:Int
 fs:List Vl
 aI:Bool
 dead:Bool
structure Wd where
 T:List Th
 roots:List Vl
 ah:List (Int × Int)
 wait:List (Int × Int)
 most:Int
 grow:Int
def Wd.new (n o:Int):Wd:=⟨[],List.replicate 12 (0,0),[],[],n,o⟩
def Th.none:Th:=⟨0,[],false,true⟩
def Wd.th (W:Wd) (i:Int):Th:=W.T.getD i.toNat Th.none
def Wd.rt (W:Wd) (k:Int):Vl:=W.roots.getD k.toNat (0,0)
def Th.words (t:Th):Int:=1+t.fs.length
def Wd.nd (W:Wd):Gr:=fun i=>((W.th i).k,(W.th i).fs)
def dS (wait:List (Int × Int)) (g:Int):List Int:=(wait.filter fun e=>e.1 == g).map (·.2)
def Wd.gr (W:Wd):Gr:=fun i=>((W.th i).k,(W.th i).fs ++ if (W.th i).k=5 then (dS W.wait i).map fun x=>((3,x):Vl) else [])
def Wd.view (W:Wd):List Vl × List Nd:=ky W.gr W.roots
def dL (l:List Th) (p:Th→Bool):Int:=(l.map fun t=>if p t then t.words else 0).sum
def Wd.az (W:Wd):Int:=dL W.T fun t=>!t.dead && !t.aI
def Wd.cm (W:Wd):Int:=dL W.T fun t=>!t.dead && t.aI
def Wd.first (W:Wd) (major:Bool):List Bool:=
 (List.range W.T.length).map fun (i:Nat)=>((W.th (i:Int)).aI && !(W.th (i:Int)).dead && !major) || W.roots.any fun v=>v.1 == 3 && v.2 == (i:Int)
noncomputable def Wd.cT (W:Wd) (wait:List (Int × Int)) (is:List Bool):List Bool:=pG W.nd wait is
noncomputable def Wd.bY (W:Wd) (is:List Bool) (q:List (Int × Int)) (x:Int):List Bool × List (Int × Int) × Int:=(W.cT q (is.set x.toNat true),q,x)
def iM (is:List Bool) (x:Int):Int:=x
noncomputable def Wd.pass (W:Wd) (major:Bool):List Bool × List (Int × Int) × List It:=dC au W.bY (W.cT W.wait (W.first major)) W.ah W.wait
def bS (is:List Bool) (v:Vl):Bool:=v.1 != 3 || au is v.2
def dM (is:List Bool) (i:Nat) (t:Th):Th:=
 if is.getD i false then
  ⟨t.k,if t.k=4∧bS is (t.fs.getD 0 (0,0))=false then [(2,0),(2,0)]
   else if t.k=3∧bS is (t.fs.getD 0 (0,0))=false then [(2,0),t.fs.getD 1 (0,0)] else t.fs,true,t.dead⟩
 else ⟨t.k,[],t.aI,true⟩
def kF (is:List Bool) (l:List Th):List Th:=l.mapIdx fun i t=>dM is i t
def fp (is:List Bool) (l:List Th):Int:=(l.mapIdx fun i t=>if is.getD i false then t.words else 0).sum
noncomputable def Wd.after (W:Wd) (major:Bool):Wd:=
 { W with T:=kF (W.pass major).1 W.T,ah:=bq au iM (W.pass major).1 (W.pass major).2.2,wait:=bs au iM (W.pass major).1 (W.pass major).2.1 }
noncomputable def Wd.cut (W:Wd) (major:Bool):Int × Wd:=
 if major=false∧W.az > W.grow-W.cm then (3,W)
 else if fp (W.pass major).1 W.T > W.grow then (3,W)
 else (0,W.after major)
structure St where
 k:Int
 r:Int
 a:Int
 b:Int
 i:Int
 n:Int
def aP (k:Int):Int:=
 if k=1∨k=2∨k=8 then 1 else if k=3∨k=5∨k=10∨k=11∨k=13 then 3 else if k=4∨k=6∨k=7∨k=14 then 7 else if k=9∨k=12 then 6 else if k=15∨k=16 then 0 else -1
def bJ (k:Int):Bool:=decide (0≤k) && decide (k<12)
def bz (x:St):Int:=
 if aP x.k=-1 then 2
 else if (aP x.k%2=1∧bJ x.r=false)∨(aP x.k/2%2=1∧bJ x.a=false)∨(aP x.k/4%2=1∧bJ x.b=false) then 1
 else if x.k=1∧¬ (-cN≤x.n∧x.n<cN) then 1
 else if x.k=5∧¬ (0≤x.n∧x.n≤12) then 1
 else 0
def Wd.cG (W:Wd) (r:Int) (v:Vl):Wd:={ W with roots:=W.roots.set r.toNat v }
def Wd.put (W:Wd) (r k:Int) (from_:List Vl):Wd:={ W with T:=W.T ++ [⟨k,from_,false,false⟩],roots:=W.roots.set r.toNat (gY W.T.length) }
noncomputable def Wd.room (W:Wd) (n:Int):Int × Wd:=if n > W.most-W.az then W.cut (decide (W.az > W.grow-W.cm)) else (0,W)
noncomputable def Wd.bU (W:Wd) (r k:Int) (from_:List Int):Int × Wd:=
 if (W.room (1+from_.length)).1=0 then (0,(W.room (1+from_.length)).2.put r k (from_.map (W.room (1+from_.length)).2.rt)) else ((W.room (1+from_.length)).1,W)
def Wd.ai (W:Wd) (k:Int):Int:=if (W.rt k).1=3 then (W.rt k).2 else -1
def Wd.guard (W:Wd) (k:Int):Int:=if W.ai k<0∨(W.th (W.ai k)).k≠5 then -1 else W.ai k
def Wd.dg (W:Wd) (i:Int) (fs:List Vl):Wd:={ W with T:=W.T.set i.toNat { W.th i with fs:=fs } }
def popW (wait:List (Int × Int)) (g:Int):Option (Int × List (Int × Int)):=
 match wait with
 | []=>none
 | e :: l=>if e.1=g then some (e.2,l) else (popW l g).map fun r=>(r.1,e :: r.2)
def Wd.fT (W:Wd) (x:St):Int × Wd:=
 if W.ai x.a<0∨W.guard x.b<0 then (2,W)
 else if 24≤W.ah.length+W.wait.length then (3,W)
 else (0, { W with ah:=W.ah ++ [(W.guard x.b,W.ai x.a)] })
def Wd.pop (W:Wd) (x:St):Int × Wd:=
 if W.guard x.a<0 then (2,W)
 else match popW W.wait (W.guard x.a) with
  | none=>(4,W)
  | some r=>(0, { W with wait:=r.2,roots:=W.roots.set x.r.toNat (3,r.1) })
def Wd.cz (W:Wd) (x:St):Int:=
 if W.ai x.a<0∨(W.th (W.ai x.a)).k=5 then 2 else if x.i<0∨((W.th (W.ai x.a)).fs.length:Int)≤x.i then 1 else 0
def Wd.get (W:Wd) (x:St):Int × Wd:=if W.cz x=0 then (0,W.cG x.r ((W.th (W.ai x.a)).fs.getD x.i.toNat (0,0))) else (W.cz x,W)
def Wd.set (W:Wd) (x:St):Int × Wd:=if W.cz x=0 then (0,W.dg (W.ai x.a) ((W.th (W.ai x.a)).fs.set x.i.toNat (W.rt x.b))) else (W.cz x,W)
def Wd.len (W:Wd) (x:St):Int × Wd:=if W.ai x.a<0∨(W.th (W.ai x.a)).k=5 then (2,W) else (0,W.cG x.r (1,(W.th (W.ai x.a)).fs.length))
def Wd.same (W:Wd) (x:St):Int × Wd:=(0,W.cG x.r (1,if W.rt x.a=W.rt x.b then 1 else 0))
noncomputable def Wd.step (W:Wd) (x:St):Int × Wd:=
 if x.k=1 then (0,W.cG x.r (1,x.n))
 else if x.k=2 then (0,W.cG x.r (0,0))
 else if x.k=3 then (0,W.cG x.r (W.rt x.a))
 else if x.k=4 then W.bU x.r 1 [x.a,x.b]
 else if x.k=5 then W.bU x.r 2 (List.replicate x.n.toNat x.a)
 else if x.k=6 then W.bU x.r 3 [x.a,x.b]
 else if x.k=7 then W.bU x.r 4 [x.a,x.b]
 else if x.k=8 then W.bU x.r 5 []
 else if x.k=9 then W.fT x
 else if x.k=10 then W.pop x
 else if x.k=11 then W.get x
 else if x.k=12 then W.set x
 else if x.k=13 then W.len x
 else if x.k=14 then W.same x
 else if x.k=15 then W.cut false
 else W.cut true
noncomputable def Wd.do (W:Wd) (x:St):Int × Wd:=if bz x=0 then W.step x else (bz x,W)
end
section
def Wd.live (W:Wd) (i:Int):Prop:=0≤i∧i<W.T.length∧(W.th i).dead=false
def Wd.cC (W:Wd) (v:Vl):Prop:=(v.1=0∧v.2=0)∨(v.1=1∧-cN≤v.2∧v.2<cN)∨(v.1=2∧v.2=0)∨(v.1=3∧W.live v.2)
def Wd.dD (W:Wd) (e:Int × Int):Prop:=W.live e.1∧(W.th e.1).k=5∧W.live e.2
structure Wd.ok (W:Wd):Prop where
 hr:W.roots.length=12
 rv:∀ v ∈ W.roots,W.cC v
 tk:∀ i,W.live i→bm (W.th i).k (W.th i).fs.length=true
 tv:∀ i,W.live i→∀ v ∈ (W.th i).fs,W.cC v
 gv:∀ e ∈ W.ah,W.dD e
 wv:∀ e ∈ W.wait,W.dD e
 hq:W.ah.length+W.wait.length≤24
 m1:16≤W.most
 m2:W.most≤256
 g1:0≤W.grow
 g2:W.grow≤1024
 uy:W.az≤W.most
 uo:W.cm≤W.grow
theorem Wd.ry {W:Wd} {i:Int} (h:W.live i):∃ (h':i.toNat<W.T.length),W.th i=W.T[i.toNat]:=by
 have h1:=h.1;have h2:=h.2.1;have h':i.toNat<W.T.length:=by omega
 exact ⟨h',by unfold Wd.th;rw [Ld,Le h'];rfl⟩
theorem Wd.aY {W:Wd} {v:Vl} (h:W.cC v) (h3:v.1=3):W.live v.2:=by
 rcases h with h | h | h | h
 ·have:=h.1;omega
 ·have:=h.1;omega
 ·have:=h.1;omega
 ·exact h.2
theorem Wd.sZ {W W':Wd} (h:∀ i,W.live i→W'.live i) {v:Vl} (hv:W.cC v):W'.cC v:=by
 rcases hv with h1 | h1 | h1 | h1
 ·exact .inl h1
 ·exact .inr (.inl h1)
 ·exact .inr (.inr (.inl h1))
 ·exact .inr (.inr (.inr ⟨h1.1,h _ h1.2⟩))
theorem iC (l:List Th) (p:Th→Bool):0≤dL l p:=by
 unfold dL
 induction l with
 | nil=>simp
 | cons t l ih=>
  simp only [List.map_cons,List.sum_cons];have:0≤(if p t then t.words else 0):=by split <;> simp [Th.words];omega
  omega
theorem s6 (a b:List Th) (p:Th→Bool):dL (a ++ b) p=dL a p+dL b p:=by simp [dL]
theorem s7 (l:List Th) (p:Th→Bool) (i:Nat) (t:Th) (h:i<l.length) (hp:p t=p l[i]) (hw:t.words=l[i].words):dL (l.set i t) p=dL l p:=by
 unfold dL;have:(l.set i t).map (fun t=>if p t then t.words else 0)=l.map (fun t=>if p t then t.words else 0):=by
  apply List.ext_getElem (by simp);intro j h1 h2;simp only [List.getElem_map,List.getElem_set];split
  ·rename_i e;subst e;rw [hp,hw]
  ·rfl
 rw [this]
theorem Wd.jl {W:Wd} (h:W.ok) (k:Int):W.cC (W.rt k):=by
 unfold Wd.rt;rw [Ld];cases hx:W.roots[k.toNat]? with
 | none=>exact .inl ⟨rfl,rfl⟩
 | some v=>exact h.rv _ (List.mem_of_getElem? hx)
theorem Wd.ok.cG {W:Wd} (h:W.ok) {v:Vl} (hv:W.cC v) (r:Int):(W.cG r v).ok:=by
 refine ⟨by simpa [Wd.cG] using h.hr,fun u hu=>?_,h.tk,h.tv,h.gv,h.wv,h.hq,h.m1,h.m2,h.g1,h.g2,h.uy,h.uo⟩;rcases List.mem_or_eq_of_mem_set hu with h1 | rfl
 ·exact h.rv u h1
 ·exact hv
theorem Wd.mf {W:Wd} {r k:Int} {l:List Vl} {i:Int} (h0:0≤i) (h:i<W.T.length):(W.put r k l).th i=W.th i:=by
 unfold Wd.th Wd.put;simp only [Ld];rw [List.getElem?_append_left (by omega)]
theorem Wd.eP {W:Wd} {r k:Int} {l:List Vl}:(W.put r k l).th W.T.length=⟨k,l,false,false⟩:=by
 unfold Wd.th Wd.put;simp only [Ld,Int.toNat_natCast];rw [List.getElem?_append_right (Nat.le_refl _)];simp
theorem Wd.jB {W:Wd} {r k:Int} {l:List Vl} {i:Int} (h:W.live i):(W.put r k l).live i:=by
 refine ⟨h.1,?_,?_⟩
 ·have:=h.2.1;simp [Wd.put];omega
 ·rw [Wd.mf h.1 h.2.1];exact h.2.2
theorem Wd.gj {W:Wd} {r k:Int} {l:List Vl} {i:Int} (h:(W.put r k l).live i):W.live i∨i=W.T.length:=by
 have h1:=h.2.1;simp [Wd.put] at h1;by_cases e:i=W.T.length
 ·exact .inr e
 ·refine .inl ⟨h.1,by omega,?_⟩;have:=h.2.2;rwa [Wd.mf h.1 (by omega)] at this
theorem Wd.nT {W:Wd} {r k:Int} {l:List Vl}:(W.put r k l).az=W.az+(1+l.length):=by
 unfold Wd.az Wd.put;rw [s6];simp [dL,Th.words]
theorem Wd.s8 {W:Wd} {r k:Int} {l:List Vl}:(W.put r k l).cm=W.cm:=by
 unfold Wd.cm Wd.put;rw [s6];simp [dL]
theorem Wd.ok.put {W:Wd} (h:W.ok) {r k:Int} {l:List Vl} (hf:bm k l.length=true) (hl:∀ v ∈ l,W.cC v) (hroom:1+(l.length:Int)≤W.most-W.az):(W.put r k l).ok:=by
 have hm:∀ {v},W.cC v→(W.put r k l).cC v:=fun hv=>Wd.sZ (fun i hi=>Wd.jB hi) hv;have he:∀ e,W.dD e→(W.put r k l).dD e:=fun e he=>⟨Wd.jB he.1,by rw [Wd.mf he.1.1 he.1.2.1];exact he.2.1,Wd.jB he.2.2⟩;refine ⟨by simpa [Wd.put] using h.hr,fun u hu=>?_,fun i hi=>?_,fun i hi v hv=>?_,fun e h1=>he e (h.gv e h1),fun e h1=>he e (h.wv e h1),h.hq,h.m1,h.m2,h.g1,h.g2,?_,?_⟩
 ·rcases List.mem_or_eq_of_mem_set hu with h1 | rfl
  ·exact hm (h.rv u h1)
  ·refine .inr (.inr (.inr ⟨rfl,?_,?_,?_⟩))
   ·simp [gY]
   ·simp [Wd.put,gY];omega
   ·show ((W.put r k l).th (W.T.length:Int)).dead=false
    rw [Wd.eP]
 ·rcases Wd.gj hi with h1 | rfl
  ·rw [Wd.mf h1.1 h1.2.1];exact h.tk i h1
  ·rw [Wd.eP];exact hf
 ·rcases Wd.gj hi with h1 | rfl
  ·rw [Wd.mf h1.1 h1.2.1] at hv;exact hm (h.tv i h1 v hv)
  ·rw [Wd.eP] at hv;exact hm (hl v hv)
 ·show (W.put r k l).az≤W.most
  rw [Wd.nT];omega
 ·show (W.put r k l).cm≤W.grow
  rw [Wd.s8];exact h.uo
theorem Wd.jC {W:Wd} {j:Int} {fs:List Vl} {i:Int} (h0:0≤i) (hj:W.live j):(W.dg j fs).th i=if i=j then { W.th j with fs:=fs } else W.th i:=by
 obtain ⟨h',e⟩:=Wd.ry hj;unfold Wd.dg;simp only [Wd.th,Ld,List.getElem?_set];by_cases e2:i=j
 ·subst e2;rw [if_pos rfl,if_pos h',if_pos rfl];rfl
 ·have:=hj.1;rw [if_neg (by omega),if_neg e2]
theorem Wd.gZ {W:Wd} {j:Int} {fs:List Vl} (hj:W.live j) (i:Int):(W.dg j fs).live i↔W.live i:=by
 unfold Wd.live;constructor
 ·rintro ⟨h0,h1,h2⟩;rw [Wd.jC h0 hj] at h2;refine ⟨h0,by simpa [Wd.dg] using h1,?_⟩;by_cases e:i=j
  ·subst e;exact hj.2.2
  ·rwa [if_neg e] at h2
 ·rintro ⟨h0,h1,h2⟩;refine ⟨h0,by simpa [Wd.dg] using h1,?_⟩;rw [Wd.jC h0 hj];split
  ·exact hj.2.2
  ·exact h2
theorem Wd.wY {W:Wd} {j:Int} {fs:List Vl} (hj:W.live j) {i:Int} (h0:0≤i):((W.dg j fs).th i).k=(W.th i).k:=by
 rw [Wd.jC h0 hj];split
 ·rename_i e;subst e;rfl
 ·rfl
theorem Wd.s9 {W:Wd} {j:Int} {fs:List Vl} (hj:W.live j) (hl:fs.length=(W.th j).fs.length):(W.dg j fs).az=W.az∧(W.dg j fs).cm=W.cm:=by
 obtain ⟨h',e⟩:=Wd.ry hj;constructor
 ·exact s7 _ _ _ _ h' (by simp [e]) (by simp [Th.words,hl,e])
 ·exact s7 _ _ _ _ h' (by simp [e]) (by simp [Th.words,hl,e])
theorem Wd.ok.dg {W:Wd} (h:W.ok) {j:Int} {fs:List Vl} (hj:W.live j) (hl:fs.length=(W.th j).fs.length) (hv:∀ v ∈ fs,W.cC v):(W.dg j fs).ok:=by
 have hm:∀ {v},W.cC v→(W.dg j fs).cC v:=fun hv=>Wd.sZ (fun i hi=>(Wd.gZ hj i).2 hi) hv;have he:∀ e,W.dD e→(W.dg j fs).dD e:=fun e he=>⟨(Wd.gZ hj _).2 he.1,by rw [Wd.wY hj he.1.1];exact he.2.1,(Wd.gZ hj _).2 he.2.2⟩;have hs:=Wd.s9 hj hl;refine ⟨h.hr,fun u hu=>hm (h.rv u hu),fun i hi=>?_,fun i hi v hv'=>?_,fun e h1=>he e (h.gv e h1),fun e h1=>he e (h.wv e h1),h.hq,h.m1,h.m2,h.g1,h.g2,?_,?_⟩
 ·have h1:=(Wd.gZ hj i).1 hi;rw [Wd.jC hi.1 hj];split
  ·rename_i e;subst e;show bm (W.th i).k (fs.length:Nat)=true;rw [hl];exact h.tk i h1
  ·exact h.tk i h1
 ·have h1:=(Wd.gZ hj i).1 hi;rw [Wd.jC hi.1 hj] at hv';split at hv'
  ·exact hm (hv v hv')
  ·exact hm (h.tv i h1 v hv')
 ·show (W.dg j fs).az≤W.most;rw [hs.1];exact h.uy
 ·show (W.dg j fs).cm≤W.grow;rw [hs.2];exact h.uo
theorem Wd.fU (W:Wd) (major:Bool):(W.first major).length=W.T.length:=by simp [Wd.first]
theorem Wd.iN {W:Wd} {major:Bool} {i:Int}:au (W.first major) i=true↔0≤i∧i<W.T.length∧(((W.th i).aI=true∧(W.th i).dead=false∧major=false)∨((3,i):Vl) ∈ W.roots):=by
 constructor
 ·intro h;have hb:=me h;rw [Wd.fU] at hb;refine ⟨hb.1,hb.2,?_⟩;unfold au Wd.first at h
  simp only [Bool.and_eq_true,Ld,List.getElem?_map] at h;rw [List.getElem?_range (by omega)] at h;have h2:=h.2;simp only [Option.map_some,Option.getD_some,show ((i.toNat:Nat):Int)=i by omega,Bool.or_eq_true,Bool.and_eq_true,Bool.not_eq_true',List.any_eq_true,beq_iff_eq] at h2;rcases h2 with h2 | ⟨v,h3,h4,h5⟩
  ·exact .inl ⟨h2.1.1,h2.1.2,h2.2⟩
  ·right;have:v=(3,i):=by cases v;simp_all
   rwa [this] at h3
 ·rintro ⟨h0,h1,h2⟩;unfold au Wd.first
  simp only [Bool.and_eq_true,Ld,List.getElem?_map];rw [List.getElem?_range (by omega)];refine ⟨by simpa using h0,?_⟩;simp only [Option.map_some,Option.getD_some,show ((i.toNat:Nat):Int)=i by omega,Bool.or_eq_true,Bool.and_eq_true,Bool.not_eq_true',List.any_eq_true,beq_iff_eq];rcases h2 with h2 | h2
  ·exact .inl ⟨⟨h2.1,h2.2.1⟩,h2.2.2⟩
  ·exact .inr ⟨_,h2,rfl,rfl⟩
structure Wd.ed (W:Wd) (major:Bool) (is:List Bool) (q:List (Int × Int)):Prop where
 len:is.length=W.T.length
 live:∀ i,au is i=true→W.live i
 first:∀ i,au (W.first major) i=true→au is i=true
 shut:cj W.nd q fun i=>au is i=true
 wv:∀ e ∈ q,W.dD e
theorem Wd.iY {W:Wd} (h:W.ok) {q:List (Int × Int)} (hq:∀ e ∈ q,W.dD e):cj W.nd q W.live:=by
 intro i j hi hl;rcases hl with h1 | h1 | h1 | h1
 ·exact Wd.aY (h.tv i hi _ h1.2) rfl
 ·exact Wd.aY (h.tv i hi _ (List.mem_of_getElem? h1.2)) rfl
 ·exact Wd.aY (h.tv i hi _ (List.mem_of_getElem? h1.2.1)) rfl
 ·exact (hq _ h1.2).2.2
theorem Wd.vL {W:Wd} (h:W.ok) {major:Bool} {i:Int} (hi:au (W.first major) i=true):W.live i:=by
 obtain ⟨h0,h1,h2 | h2⟩:=Wd.iN.1 hi
 ·exact ⟨h0,h1,h2.2.1⟩
 ·exact Wd.aY (h.rv _ h2) rfl
theorem Wd.ed.start {W:Wd} (h:W.ok) (major:Bool):W.ed major (W.cT W.wait (W.first major)) W.wait:=by
 have hlen:(W.cT W.wait (W.first major)).length=W.T.length:=by unfold Wd.cT;rw [eW,Wd.fU]
 have hl:∀ i,au (W.cT W.wait (W.first major)) i=true→W.live i:=fun i hi=>
  (cW.1 hi).2.2.least (fun k hk=>Wd.vL h hk) (Wd.iY h h.wv)
 refine ⟨hlen,hl,fun i hi=>cW.2 ⟨(me hi).1,(me hi).2,cI.base hi⟩,?_,h.wv⟩;intro i j hi hj;have hlv:=Wd.iY h h.wv i j (hl i hi) (hj.mono (fun k hk=>hl k hk) (fun _ h=>h));refine cW.2 ⟨hlv.1,by rw [Wd.fU];exact hlv.2.1,?_⟩;exact cI.closed _ _ _ i j (cW.1 hi).2.2 (hj.mono (fun k hk=>(cW.1 hk).2.2) (fun _ h=>h))
theorem Wd.ed.ab {W:Wd} (h:W.ok) {major:Bool} {is:List Bool} {q:List (Int × Int)} (m:W.ed major is q) {g x:Int} (hx:W.live x) (hg:W.live g) (hk:(W.th g).k=5) :
  W.ed major (W.cT q (is.set x.toNat true)) (q ++ [(g,x)])∧(∀ i,au is i=true→au (W.cT q (is.set x.toNat true)) i=true)∧au (W.cT q (is.set x.toNat true)) x=true:=by
 have hset:∀ i,au (is.set x.toNat true) i=true↔i=x∨au is i=true:=fun i=>gL hx.1 (by rw [m.len];exact hx.2.1);have hsl:(is.set x.toNat true).length=W.T.length:=by rw [List.length_set,m.len]
 have hq':∀ e ∈ q ++ [(g,x)],W.dD e:=by
  intro e he;rcases List.mem_append.1 he with h1 | h1
  ·exact m.wv e h1
  ·rw [List.mem_singleton.1 h1];exact ⟨hg,hk,hx⟩
 have hsv:∀ k,au (is.set x.toNat true) k=true→W.live k:=by
  intro k hk;rcases (hset k).1 hk with rfl | h1
  ·exact hx
  ·exact m.live k h1
 have hl:∀ i,au (W.cT q (is.set x.toNat true)) i=true→W.live i:=fun i hi=>(cW.1 hi).2.2.least hsv (Wd.iY h m.wv);have up:∀ i,au (is.set x.toNat true) i=true→au (W.cT q (is.set x.toNat true)) i=true:=fun i hi=>cW.2 ⟨(me hi).1,(me hi).2,cI.base hi⟩;have hxx:=up x ((hset x).2 (.inl rfl));refine ⟨⟨by unfold Wd.cT;rw [eW,hsl],hl,fun i hi=>up i ((hset i).2 (.inr (m.first i hi))),?_,hq'⟩,fun i hi=>up i ((hset i).2 (.inr hi)),hxx⟩;intro i j hi hj;by_cases e:j=x
 ·subst e;exact hxx
 ·have hj':iH W.nd q (fun k=>au (W.cT q (is.set x.toNat true)) k=true) i j:=by
   rcases hj with h1 | h1 | h1 | ⟨h1,h2⟩
   ·exact .inl h1
   ·exact .inr (.inl h1)
   ·exact .inr (.inr (.inl h1))
   ·refine .inr (.inr (.inr ⟨h1,?_⟩));rcases List.mem_append.1 h2 with h3 | h3
    ·exact h3
    ·simp at h3;exact absurd h3.2 e
  have hlv:=Wd.iY h m.wv i j (hl i hi) (hj'.mono (fun k hk=>hl k hk) (fun _ h=>h));refine cW.2 ⟨hlv.1,by rw [hsl];exact hlv.2.1,?_⟩;exact cI.closed _ _ _ i j (cW.1 hi).2.2 (hj'.mono (fun k hk=>(cW.1 hk).2.2) (fun _ h=>h))
theorem wZ (a:Int × Int) (b:Bool) (l:List It):cH ((a,b,true) :: l)=cH l:=by rw [iL];simp
theorem vg {i:It} (h:i.2.2=false) (l:List It):cH (i :: l)=1+cH l:=by rw [iL,h];simp
theorem yv (l:List (Int × Int)) (f:Int × Int→Bool):cH (l.map fun e=>(e,f e,false))=l.length:=by
 induction l with
 | nil=>rfl
 | cons a l ih=>rw [List.map_cons,vg rfl,ih];simp;omega
theorem Wd.ed.scan {W:Wd} (h:W.ok) {major:Bool}:∀ (l:List It) (is:List Bool) (q:List (Int × Int)),W.ed major is q→(∀ i ∈ l,W.dD i.1) →
  W.ed major (scanM au W.bY is q l).1 (scanM au W.bY is q l).2.1∧(∀ i,au is i=true→au (scanM au W.bY is q l).1 i=true) ∧
  (scanM au W.bY is q l).2.1.length+cH (scanM au W.bY is q l).2.2.1=q.length+cH l
 | [],is,q,m,_=>⟨m,fun _ h=>h,rfl⟩
 | i :: l,is,q,m,hl=>by
  have hi:=hl i (by simp);simp only [scanM];split
  ·rename_i hc;simp only [Bool.and_eq_true,Bool.not_eq_true'] at hc;obtain ⟨m',hm1,_⟩:=m.ab h (g:=i.1.1) (x:=i.1.2) hi.2.2 hi.1 hi.2.1;have ih:=Wd.ed.scan h l _ _ m' (fun j hj=>hl j (by simp [hj]));simp only [Wd.bY];refine ⟨ih.1,fun k hk=>ih.2.1 k (hm1 k hk),?_⟩;have h3:=ih.2.2;simp only [Wd.bY,List.length_append,List.length_cons,List.length_nil] at h3;rw [wZ,vg hc.1.2];omega
  ·have ih:=Wd.ed.scan h l is q m (fun j hj=>hl j (by simp [hj]));refine ⟨ih.1,ih.2.1,?_⟩;have h3:=ih.2.2;simp only [iL] at h3 ⊢;omega
theorem mM {W:Wd} {l:List It} (is:List Bool) (q:List (Int × Int)) (hl:∀ i ∈ l,W.dD i.1):∀ i ∈ (scanM au W.bY is q l).2.2.1,W.dD i.1:=by
 intro i hi;have h1:(i.1,i.2.1) ∈ (scanM au W.bY is q l).2.2.1.map (fun i=>(i.1,i.2.1)):=List.mem_map.2 ⟨i,hi,rfl⟩;rw [iX] at h1;obtain ⟨j,hj,e⟩:=List.mem_map.1 h1;have:=hl j hj;have e1:j.1=i.1:=congrArg (fun p:(Int × Int) × Bool=>p.1) e;rwa [e1] at this
theorem Wd.ed.rounds {W:Wd} (h:W.ok) {major:Bool}:∀ (n:Nat) (l:List It) (is:List Bool) (q:List (Int × Int)),W.ed major is q→(∀ i ∈ l,W.dD i.1) →
  W.ed major (roundsM au W.bY n is q l).1 (roundsM au W.bY n is q l).2.1∧(∀ i,au is i=true→au (roundsM au W.bY n is q l).1 i=true) ∧
  (roundsM au W.bY n is q l).2.1.length+cH (roundsM au W.bY n is q l).2.2=q.length+cH l ∧
  (roundsM au W.bY n is q l).2.2.map (fun i=>(i.1,i.2.1))=l.map (fun i=>(i.1,i.2.1))
 | 0,l,is,q,m,_=>⟨m,fun _ h=>h,rfl,rfl⟩
 | n+1,l,is,q,m,hl=>by
  have hs:=Wd.ed.scan h l is q m hl;have hf:=iX au W.bY l is q;simp only [roundsM];split
  ·have ih:=Wd.ed.rounds h n (scanM au W.bY is q l).2.2.1 _ _ hs.1 (mM is q hl);refine ⟨ih.1,fun k hk=>ih.2.1 k (hs.2.1 k hk),by rw [ih.2.2.1,hs.2.2],by rw [ih.2.2.2,hf]⟩
  ·exact ⟨hs.1,hs.2.1,hs.2.2,hf⟩
theorem Wd.g6 {W:Wd} (h:W.ok) (major:Bool):W.ed major (W.pass major).1 (W.pass major).2.1∧(∀ i,au (W.cT W.wait (W.first major)) i=true→au (W.pass major).1 i=true) ∧
  (W.pass major).2.1.length+cH (W.pass major).2.2=W.wait.length+W.ah.length ∧
  (W.pass major).2.2.map (fun i=>(i.1,i.2.1))=W.ah.map fun e=>(e,!au (W.cT W.wait (W.first major)) e.2):=by
 have:=Wd.ed.rounds h (W.ah.length+1) (cV au (W.cT W.wait (W.first major)) W.ah) _ _ (Wd.ed.start h major) (by
  intro i hi;simp only [cV,List.mem_map] at hi;obtain ⟨e,he,rfl⟩:=hi
  exact h.gv e he)
 refine ⟨this.1,this.2.1,?_,?_⟩
 ·have h3:=this.2.2.1;have:cH (cV au (W.cT W.wait (W.first major)) W.ah)=W.ah.length:=yv _ _;rw [this] at h3;exact h3
 ·have h3:=this.2.2.2;rw [Wd.pass,dC,h3];simp [cV]
end
section
theorem dh {is:List Bool} {i:Int} (h0:0≤i):is.getD i.toNat false=au is i:=by unfold au;simp [h0]
theorem lI (is:List Bool) (i:Nat) (t:Th):(dM is i t).k=t.k:=by unfold dM;split <;> rfl
theorem lJ {is:List Bool} {i:Nat} {t:Th} (h:is.getD i false=true):(dM is i t).dead=t.dead∧(dM is i t).aI=true:=by unfold dM;rw [if_pos h];exact ⟨rfl,rfl⟩
theorem rW {is:List Bool} {i:Nat} {t:Th} (h:is.getD i false=false):(dM is i t).dead=true:=by unfold dM;rw [if_neg (by rw [h];decide)]
theorem jD {is:List Bool} {i:Nat} {t:Th} (h:is.getD i false=true) (hf:bm t.k t.fs.length=true):(dM is i t).fs.length=t.fs.length:=by
 unfold dM;rw [if_pos h]
 show List.length (if _ then _ else _)=_
 split
 ·rename_i hc;rw [hc.1] at hf;simp [bm] at hf;simp;omega
 ·split
  ·rename_i hc;rw [hc.1] at hf;simp [bm] at hf;simp;omega
  ·rfl
theorem yw {W:Wd} {is:List Bool} {i:Int} (h0:0≤i) (h1:i<W.T.length):(kF is W.T).getD i.toNat Th.none=dM is i.toNat (W.th i):=by
 unfold kF Wd.th;simp only [Ld,List.getElem?_mapIdx];rw [Le (by omega)]
 rfl
theorem Wd.iO {W:Wd} {major:Bool} {i:Int} (h0:0≤i) (h1:i<W.T.length):(W.after major).th i=dM (W.pass major).1 i.toNat (W.th i):=yw h0 h1
theorem Wd.lK {W:Wd} {major:Bool}:(W.after major).T.length=W.T.length:=by simp [Wd.after,kF]
theorem Wd.iw {W:Wd} (h:W.ok) {major:Bool} {i:Int}:(W.after major).live i↔au (W.pass major).1 i=true:=by
 obtain ⟨m,_⟩:=Wd.g6 h major;constructor
 ·rintro ⟨h0,h1,h2⟩;rw [Wd.lK] at h1;rw [Wd.iO h0 h1] at h2;cases hb:au (W.pass major).1 i
  ·rw [rW (by rw [dh h0,hb])] at h2;cases h2
  ·rfl
 ·intro hb;have hl:=m.live i hb;refine ⟨hl.1,by rw [Wd.lK];exact hl.2.1,?_⟩;rw [Wd.iO hl.1 hl.2.1,(lJ (by rw [dh hl.1];exact hb)).1];exact hl.2.2
theorem oW {W:Wd} (h:W.ok) {q:List (Int × Int)} {is:List Bool} (hs:cj W.nd q fun k=>au is k=true) {i:Int} (hi:W.live i) (hb:au is i=true) :
  ∀ v ∈ (dM is i.toNat (W.th i)).fs,(v=(2,0))∨(v ∈ (W.th i).fs∧bS is v=true):=by
 intro v hv;have hf:=h.tk i hi;unfold dM at hv;rw [if_pos (by rw [dh hi.1];exact hb)] at hv;have shut:∀ j,iH W.nd q (fun k=>au is k=true) i j→au is j=true:=fun j hj=>hs i j hb hj;have inS_of:∀ v:Vl,(v.1=3→au is v.2=true)→bS is v=true:=fun v hv=>by
  unfold bS;by_cases e:v.1=3
  ·simp [e,hv e]
  ·simp [e]
 have two:(W.th i).fs.length=2→∃ a b,(W.th i).fs=[a,b]:=fun hl=>by
  match hx:(W.th i).fs,hl with
  | [a,b],_=>exact ⟨a,b,rfl⟩
 change v ∈ (if _ then _ else _) at hv;split at hv
 ·left;simp at hv;exact hv
 ·rename_i hc4;split at hv
  ·rename_i hc3;rw [hc3.1] at hf;simp [bm] at hf;obtain ⟨a,b,e⟩:=two (by omega);rw [e] at hv;simp at hv;rcases hv with rfl | rfl
   ·exact .inl rfl
   ·refine .inr ⟨by rw [e];simp,inS_of _ fun e3=>shut _ (.inr (.inl ⟨hc3.1,?_⟩))⟩
    show (W.th i).fs[1]? = _
    rw [e];cases v;simp_all
  ·rename_i hc3;right;refine ⟨hv,inS_of v fun e3=>?_⟩;have e4:v=(3,v.2):=by cases v;simp_all
   have hk:=bK hf;by_cases k12:(W.th i).k=1∨(W.th i).k=2
   ·exact shut _ (.inl ⟨k12,by rw [←e4];exact hv⟩)
   by_cases k3:(W.th i).k=3
   ·have h0:bS is ((W.th i).fs.getD 0 (0,0))=true:=by
     cases hx:bS is ((W.th i).fs.getD 0 (0,0))
     ·exact absurd ⟨k3,hx⟩ hc3
     ·rfl
    rw [k3] at hf;simp [bm] at hf;obtain ⟨a,b,e⟩:=two (by omega);rw [e] at hv h0;simp at hv h0;rcases hv with rfl | rfl
    ·simp [bS,e3] at h0;exact h0
    ·exact shut _ (.inr (.inl ⟨k3,by show (W.th i).fs[1]? = _;rw [e,←e4];rfl⟩))
   by_cases k4:(W.th i).k=4
   ·have h0:bS is ((W.th i).fs.getD 0 (0,0))=true:=by
     cases hx:bS is ((W.th i).fs.getD 0 (0,0))
     ·exact absurd ⟨k4,hx⟩ hc4
     ·rfl
    rw [k4] at hf;simp [bm] at hf;obtain ⟨a,b,e⟩:=two (by omega);rw [e] at hv h0;simp at hv h0;rcases hv with rfl | rfl
    ·simp [bS,e3] at h0;exact h0
    ·refine shut _ (.inr (.inr (.inl ⟨k4,by show (W.th i).fs[1]? = _;rw [e,←e4];rfl,fun u hu hu3=>?_⟩)));have hu':(W.th i).fs[0]? = some u:=hu;rw [e] at hu';simp at hu';subst hu';simp [bS,hu3] at h0;exact h0
   ·have k5:(W.th i).k=5:=by
     have h1:(W.th i).k≠1:=fun e=>k12 (.inl e);have h2:(W.th i).k≠2:=fun e=>k12 (.inr e);omega
    rw [k5] at hf;simp [bm] at hf;have:(W.th i).fs=[]:=by
     cases hx:(W.th i).fs with
     | nil=>rfl
     | cons a l=>rw [hx] at hf;simp at hf
    rw [this] at hv;cases hv
theorem rX (is:List Bool):∀ (l:List Th) (n:Nat) (hl:∀ j (h:j<l.length),is.getD (n+j) false=true→l[j].dead=false∧bm l[j].k l[j].fs.length=true),
  dL (l.mapIdx fun i t=>dM is (n+i) t) (fun t=>!t.dead && !t.aI)=0 ∧
  dL (l.mapIdx fun i t=>dM is (n+i) t) (fun t=>!t.dead && t.aI)=(l.mapIdx fun i t=>if is.getD (n+i) false then t.words else 0).sum
 | [],_,_=>⟨rfl,rfl⟩
 | t :: l,n,hl=>by
  have ih:=rX is l (n+1) (fun j h=>by
   have:=hl (j+1) (by simp;omega);simp only [List.getElem_cons_succ] at this
   rw [show n+1+j=n+(j+1) by omega];exact this)
  have e:∀ (f:Nat→Th→Th),(fun i t=>f (n+1+i) t)=fun i t=>f (n+(i+1)) t:=fun f=>by funext i t;rw [show n+1+i=n+(i+1) by omega]
  have e2:∀ (f:Nat→Th→Int),(fun i t=>f (n+1+i) t)=fun i t=>f (n+(i+1)) t:=fun f=>by funext i t;rw [show n+1+i=n+(i+1) by omega]
  rw [e (dM is),e2 (fun i t=>if is.getD i false then t.words else 0)] at ih;have h0:=hl 0 (by simp);simp only [List.getElem_cons_zero,Nat.add_zero] at h0;simp only [dL] at ih ⊢;simp only [List.mapIdx_cons,List.map_cons,List.sum_cons,Nat.add_zero];rw [ih.1,ih.2];cases hb:is.getD n false
  ·have hd:=rW (t:=t) hb;simp [hd]
  ·obtain ⟨h1,h2⟩:=h0 hb;have hl2:=lJ (t:=t) hb;have hl3:=jD hb h2;simp only [hl2.1,hl2.2,h1,Th.words,hl3];simp
theorem Wd.kG {W:Wd} (h:W.ok) (major:Bool):(W.after major).az=0∧(W.after major).cm=fp (W.pass major).1 W.T:=by
 obtain ⟨m,_⟩:=Wd.g6 h major;have:=rX (W.pass major).1 W.T 0 (fun j hj hb=>by
  rw [Nat.zero_add,←dH] at hb;have hl:=m.live _ hb;obtain ⟨h',e⟩:=Wd.ry hl;simp only [Int.toNat_natCast] at e;rw [←e]
  exact ⟨hl.2.2,h.tk _ hl⟩)
 simp only [Nat.zero_add] at this;exact this
theorem Wd.mg {W:Wd} (h:W.ok) {major:Bool} {i:Int} (hb:au (W.pass major).1 i=true):((W.after major).th i).k=(W.th i).k:=by
 obtain ⟨m,_⟩:=Wd.g6 h major;have hl:=m.live i hb;rw [Wd.iO hl.1 hl.2.1,lI]
theorem uj {is:List Bool} {l:List It} {e:Int × Int} (h:e ∈ bq au iM is l):∃ i ∈ l,i.1=e∧i.2.1=false∧au is e.1=true:=by
 unfold bq at h;simp only [List.mem_map,List.mem_filter,Bool.and_eq_true,Bool.not_eq_true'] at h;obtain ⟨i,⟨hi,h1,h2⟩,rfl⟩:=h;exact ⟨i,hi,rfl,h1,h2⟩
theorem um {is:List Bool} {l:List (Int × Int)} {e:Int × Int} (h:e ∈ bs au iM is l):e ∈ l∧au is e.1=true:=by
 unfold bs at h;simp only [List.mem_map,List.mem_filter] at h;obtain ⟨i,⟨hi,h1⟩,rfl⟩:=h;exact ⟨hi,h1⟩
theorem Wd.ok.after {W:Wd} (h:W.ok) {major:Bool} (hroom:fp (W.pass major).1 W.T≤W.grow):(W.after major).ok:=by
 obtain ⟨m,hfst,hcnt,hits⟩:=Wd.g6 h major;have hs:=Wd.kG h major;have lv:∀ i,au (W.pass major).1 i=true→(W.after major).live i:=fun i hi=>(Wd.iw h).2 hi;have clo1:∀ i,au (W.first major) i=true→au (W.pass major).1 i=true:=m.first
 have root:∀ v ∈ W.roots,v.1=3→au (W.pass major).1 v.2=true:=fun v hv e=>by
  have hl:=Wd.aY (h.rv v hv) e;have e2:v=(3,v.2):=by cases v;simp_all
  exact m.first _ (Wd.iN.2 ⟨hl.1,hl.2.1, .inr (by rw [←e2];exact hv)⟩)
 refine ⟨h.hr,fun v hv=>?_,fun i hi=>?_,fun i hi v hv=>?_,fun e he=>?_,fun e he=>?_,?_,h.m1,h.m2,h.g1,h.g2,?_,?_⟩
 ·rcases h.rv v hv with h1 | h1 | h1 | h1
  ·exact .inl h1
  ·exact .inr (.inl h1)
  ·exact .inr (.inr (.inl h1))
  ·exact .inr (.inr (.inr ⟨h1.1,lv _ (root v hv h1.1)⟩))
 ·have hb:=(Wd.iw h).1 hi;have hl:=m.live i hb;rw [Wd.iO hl.1 hl.2.1,lI,jD (by rw [dh hl.1];exact hb) (h.tk i hl)];exact h.tk i hl
 ·have hb:=(Wd.iw h).1 hi;have hl:=m.live i hb;rw [Wd.iO hl.1 hl.2.1] at hv;rcases oW h m.shut hl hb v hv with rfl | ⟨hv1,hv2⟩
  ·exact .inr (.inr (.inl ⟨rfl,rfl⟩))
  ·rcases h.tv i hl v hv1 with h1 | h1 | h1 | h1
   ·exact .inl h1
   ·exact .inr (.inl h1)
   ·exact .inr (.inr (.inl h1))
   ·refine .inr (.inr (.inr ⟨h1.1,lv _ ?_⟩));simp [bS,h1.1] at hv2;exact hv2
 ·obtain ⟨i,hi,rfl,hd,hg⟩:=uj he;have h1:(i.1,i.2.1) ∈ (W.pass major).2.2.map (fun i=>(i.1,i.2.1)):=List.mem_map.2 ⟨i,hi,rfl⟩;rw [hits] at h1;obtain ⟨e,he',e2⟩:=List.mem_map.1 h1;have e3:e=i.1:=congrArg (fun p:(Int × Int) × Bool=>p.1) e2;have e4:(!au (W.cT W.wait (W.first major)) e.2)=i.2.1:=congrArg (fun p:(Int × Int) × Bool=>p.2) e2;have hgv:=h.gv e he';rw [e3] at hgv e4;rw [hd] at e4;refine ⟨lv _ hg,?_,lv _ (hfst _ (by simpa using e4))⟩;rw [Wd.mg h hg];exact hgv.2.1
 ·obtain ⟨h1,h2⟩:=um he;have hwv:=m.wv e h1;refine ⟨lv _ h2,by rw [Wd.mg h h2];exact hwv.2.1,lv _ (m.shut _ _ h2 (.inr (.inr (.inr ⟨hwv.2.1,h1⟩))))⟩
 ·have hq:=h.hq;have h1:(W.after major).wait.length≤(W.pass major).2.1.length:=by
   simp only [Wd.after,bs,List.length_map];exact List.length_filter_le _ _
  have h2:(W.after major).ah.length≤cH (W.pass major).2.2:=by
   simp only [Wd.after,bq,List.length_map];have hmv:∀ i ∈ (W.pass major).2.2,i.2.1=false→i.2.2=false:=by
    have key:∀ (l:List It) (is:List Bool) (q:List (Int × Int)),(∀ i ∈ l,i.2.1=false→i.2.2=false)→∀ i ∈ (scanM au W.bY is q l).2.2.1,i.2.1=false→i.2.2=false:=by
     intro l
     induction l with
     | nil=>intro is q _ i hi;simp [scanM] at hi
     | cons a l ih=>
      intro is q hl i hi;simp only [scanM] at hi;split at hi
      ·rename_i hc;simp only [Bool.and_eq_true] at hc;rcases List.mem_cons.1 hi with rfl | hi
       ·intro e;rw [hc.1.1] at e;cases e
       ·exact ih _ _ (fun j hj=>hl j (by simp [hj])) i hi
      ·rcases List.mem_cons.1 hi with rfl | hi
       ·exact hl _ (by simp)
       ·exact ih _ _ (fun j hj=>hl j (by simp [hj])) i hi
    have key2:∀ (n:Nat) (l:List It) (is:List Bool) (q:List (Int × Int)),(∀ i ∈ l,i.2.1=false→i.2.2=false)→∀ i ∈ (roundsM au W.bY n is q l).2.2,i.2.1=false→i.2.2=false:=by
     intro n
     induction n with
     | zero=>intro l is q hl;exact hl
     | succ n ih=>
      intro l is q hl;simp only [roundsM];split
      ·exact ih _ _ _ (key l is q hl)
      ·exact key l is q hl
    exact key2 _ _ _ _ (fun i hi=>by simp only [cV,List.mem_map] at hi;obtain ⟨e,_,rfl⟩:=hi;intro _;rfl)
   unfold cH;rw [←List.countP_eq_length_filter,←List.countP_eq_length_filter];exact List.countP_mono_left fun i hi h=>by
    simp only [Bool.and_eq_true,Bool.not_eq_true'] at h;simp [hmv i hi h.1]
  show (W.after major).ah.length+(W.after major).wait.length≤24
  omega
 ·show (W.after major).az≤W.most;rw [hs.1];have:=h.m1;omega
 ·show (W.after major).cm≤W.grow;rw [hs.2];exact hroom
theorem Wd.ok.cut {W:Wd} (h:W.ok) (major:Bool):(W.cut major).2.ok:=by
 unfold Wd.cut;split
 ·exact h
 ·split
  ·exact h
  ·exact h.after (by omega)
theorem Wd.ok.room {W:Wd} (h:W.ok) (n:Int) (hn:n≤13):(W.room n).2.ok∧((W.room n).1=0→n≤(W.room n).2.most-(W.room n).2.az):=by
 unfold Wd.room;split
 ·refine ⟨h.cut _,fun h0=>?_⟩;unfold Wd.cut at h0 ⊢;split
  ·rename_i hc;rw [if_pos hc] at h0;simp at h0
  ·rename_i hc;rw [if_neg hc] at h0;split
   ·rename_i hd;rw [if_pos hd] at h0;simp at h0
   ·show n≤W.most-(W.after _).az
    rw [(Wd.kG h _).1];have:=h.m1;omega
 ·exact ⟨h,fun _=>by show n≤W.most-W.az;omega⟩
theorem Wd.eQ {W:Wd} (h:W.ok) {k:Int} (hk:¬ W.ai k<0):W.live (W.ai k):=by
 unfold Wd.ai at hk ⊢;split
 ·rename_i h3;exact Wd.aY (Wd.jl h k) h3
 ·rename_i h3;rw [if_neg h3] at hk;simp at hk
theorem Wd.qy {W:Wd} (h:W.ok) {k:Int} (hk:¬ W.guard k<0):W.live (W.guard k)∧(W.th (W.guard k)).k=5∧W.guard k=W.ai k:=by
 unfold Wd.guard at hk ⊢;split
 ·rename_i h3;rw [if_pos h3] at hk;simp at hk
 ·rename_i h3;have h5:(W.th (W.ai k)).k=5:=by
   by_cases e:(W.th (W.ai k)).k=5
   ·exact e
   ·exact absurd (Or.inr e) h3
  exact ⟨Wd.eQ h (fun e=>h3 (.inl e)),h5,rfl⟩
theorem mN:∀ {l:List (Int × Int)} {g:Int} {r:Int × List (Int × Int)},popW l g=some r→(g,r.1) ∈ l∧(∀ e ∈ r.2,e ∈ l)∧r.2.length+1=l.length
 | [],g,r,h=>by simp [popW] at h
 | e :: l,g,r,h=>by
  unfold popW at h;split at h
  ·rename_i hg;simp at h;subst h;refine ⟨?_,fun e he=>by simp [he],rfl⟩;rw [←hg];simp
  ·simp only [Option.map_eq_some_iff] at h;obtain ⟨r',h1,rfl⟩:=h;have ih:=mN h1;refine ⟨by simp [ih.1],fun x hx=>?_,by simp;omega⟩;rcases List.mem_cons.1 hx with rfl | hx
   ·simp
   ·simp [ih.2.1 x hx]
theorem Wd.ta {W:Wd} {x:St} (h:W.cz x=0):¬ W.ai x.a<0∧(W.th (W.ai x.a)).k≠5∧0≤x.i∧x.i<(W.th (W.ai x.a)).fs.length:=by
 unfold Wd.cz at h;split at h
 ·simp at h
 ·rename_i hc;split at h
  ·simp at h
  ·rename_i hd;exact ⟨fun e=>hc (.inl e),fun e=>hc (.inr e),by omega,by omega⟩
theorem Wd.mh {W:Wd} {n:Int} (h1:-cN≤n) (h2:n<cN):W.cC (1,n):=.inr (.inl ⟨rfl,h1,h2⟩)
theorem aD {x:St} (h:bz x=0):¬ aP x.k=-1∧(aP x.k%2=1→bJ x.r=true)∧(aP x.k/2%2=1→bJ x.a=true)∧(aP x.k/4%2=1→bJ x.b=true) ∧
  (x.k=1→-cN≤x.n∧x.n<cN)∧(x.k=5→0≤x.n∧x.n≤12):=by
 unfold bz at h;split at h
 ·simp at h
 ·rename_i h1;split at h
  ·simp at h
  ·rename_i h2;split at h
   ·simp at h
   ·rename_i h3;split at h
    ·simp at h
    ·rename_i h4;have nb:∀ b:Bool,¬ b=false→b=true:=fun b=>by cases b <;> simp
     exact ⟨h1,fun h=>nb _ fun e=>h2 (.inl ⟨h,e⟩),fun h=>nb _ fun e=>h2 (.inr (.inl ⟨h,e⟩)),fun h=>nb _ fun e=>h2 (.inr (.inr ⟨h,e⟩)),
      fun h=>Classical.not_not.1 fun e=>h3 ⟨h,e⟩,fun h=>Classical.not_not.1 fun e=>h4 ⟨h,e⟩⟩
theorem Wd.jX {n o:Int} (h1:16≤n) (h2:n≤256) (h3:0≤o) (h4:o≤1024):(Wd.new n o).ok:=by
 have nl:∀ i,¬ (Wd.new n o).live i:=fun i h=>by have h1:=h.1;have h2:=h.2.1;simp [Wd.new] at h2;omega
 refine ⟨by simp [Wd.new],fun v hv=>?_,fun i hi=>(nl i hi).elim,fun i hi=>(nl i hi).elim,fun e he=>by simp [Wd.new] at he,fun e he=>by simp [Wd.new] at he,by simp [Wd.new],h1,h2,h3,h4,?_,?_⟩
 ·simp [Wd.new] at hv;subst hv;exact .inl ⟨rfl,rfl⟩
 ·show dL [] _≤n;simp [dL];omega
 ·show dL [] _≤o;simp [dL];omega
end
section
open Go.RowKit
structure RW where
 p:Nat
 tv:Value
 rv:Value
 gv:Value
 wv:Value
 F:Nat→Prop
def Cg (w:World) (F:Nat→Prop) (t:Th) (r:List Value):Prop:=
 ∃ ao cap,r=[.int .i64 t.k, .slice ao t.fs.length cap, .bool t.aI, .bool t.dead]∧Rd w ao (aE t.fs)∧(∀ a,ao=some a→F a.block)∧t.fs.length≤maxLen
def Ch (w:World) (v:Value) (F:Nat→Prop) (l:List Th):Prop:=∃ cs,Sl w 154 4 v l.length cs∧cy 4 (Cg w F) l cs
def RW.Own (h:RW) (k:Nat):Prop:=k=h.p∨ak h.tv k∨ak h.rv k∨ak h.gv k∨ak h.wv k∨h.F k
structure zZ (w:World) (h:RW) (W:Wd):Prop where
 hp:aj w h.p [h.tv,h.rv,h.gv,h.wv, .int .i64 W.most, .int .i64 W.grow] 147
 ht:Ch w h.tv h.F W.T
 hr:Sl w 96 2 h.rv W.roots.length (aE W.roots)
 hg:Sl w 152 2 h.gv W.ah.length (aE W.ah)
 hw:Sl w 152 2 h.wv W.wait.length (aE W.wait)
 ap:∀ k,¬ (ak h.gv k∧ak h.wv k)
 af:∀ k,h.F k→k<w.heap.size∧(∃ c,aj w k c 96)∧¬ ak h.rv k
 ok:W.ok
section
variable {w w':World} {h:RW} {W:Wd}
end
end
section
open Go.RowKit
theorem eG {a b:Int} (h:a=b):(Ending.returned (.int .i64 a))=.returned (.int .i64 b):=by rw [h]
theorem vM (k:Int):aP k=-1∨aP k=0∨aP k=1∨aP k=3∨aP k=6∨aP k=7:=by
 unfold aP
 repeat' split
 all_goals simp
def St.qz (x:St) (j:Nat):Int:=if j=0 then x.r else if j=1 then x.a else x.b
def j2 (u:Int) (j:Nat):Bool:=decide (u/2 ^ j%2=1)
theorem uq {x:St} (h:aP x.k=-1):bz x=2:=by unfold bz;rw [if_pos h]
theorem ur {x:St} (h:aP x.k≠-1) {j:Nat} (hj:j<3) (hb:j2 (aP x.k) j=true) (hr:bJ (x.qz j)=false):bz x=1:=by
 unfold bz;rw [if_neg h,if_pos];unfold j2 at hb;have hb:aP x.k/2 ^ j%2=1:=by simpa using hb
 rcases (by omega:j=0∨j=1∨j=2) with rfl | rfl | rfl
 ·exact .inl ⟨by simpa using hb,hr⟩
 ·exact .inr (.inl ⟨by simpa using hb,hr⟩)
 ·exact .inr (.inr ⟨by simpa using hb,hr⟩)
theorem uu {x:St} (h:aP x.k≠-1) (hb:∀ j,j<3→j2 (aP x.k) j=true→bJ (x.qz j)=true) :
  bz x=if x.k=1∧¬ (-cN≤x.n∧x.n<cN) then 1 else if x.k=5∧¬ (0≤x.n∧x.n≤12) then 1 else 0:=by
 unfold bz;rw [if_neg h,if_neg];rintro (⟨h1,h2⟩ | ⟨h1,h2⟩ | ⟨h1,h2⟩)
 ·have:=hb 0 (by decide) (by unfold j2;simpa using h1);rw [show x.qz 0=x.r from rfl,h2] at this;cases this
 ·have:=hb 1 (by decide) (by unfold j2;simpa using h1);rw [show x.qz 1=x.a from rfl,h2] at this;cases this
 ·have:=hb 2 (by decide) (by unfold j2;simpa using h1);rw [show x.qz 2=x.b from rfl,h2] at this;cases this
section
variable {w:World} {h:RW} {W:Wd}
end
end
section
open Go.RowKit
theorem g7:∀ (l:List (Int × Int)) (k:Nat) (v:Int × Int),aE (l.set k v)=((aE l).set (k*2) (.int .i64 v.1)).set (k*2+1) (.int .i64 v.2)
 | [],k,v=>by simp [aE]
 | e :: l,0,v=>by rw [List.set_cons_zero,fw,fw];rfl
 | e :: l,k+1,v=>by
  rw [List.set_cons_succ,fw,fw,g7 l k v];rw [show (k+1)*2=k*2+1+1 by omega]
  rfl
theorem pH {P:Program} {ops:Array Oper} {rest:List Oper} {o:Oper} {a:Act} {w:World} {Q:Exit→Act→World→Prop} (hgd:o.guard=none) (ty:TypeId) (x y:Operand) (ho:o.op=.store ty x y) (hd:o.dst=none)
  (g off n cap k:Nat) (xs:List Value) (e:Nat) (v0 v1:Value) (hx:a.eval x=.pointer (some ⟨g,off+k*2,none⟩)) (hy:a.eval y=.agg #[v0,v1])
  (hs:Sl w e 2 (.slice (some ⟨g,off,none⟩) n cap) n xs) (hk:k<n) (hi:(P.info? ty).map (·.size)=some 2) (h0:v0.oneCell'=true) (h1:v1.oneCell'=true)
  (h:∀ w',Sl w' e 2 (.slice (some ⟨g,off,none⟩) n cap) n ((xs.set (k*2) v0).set (k*2+1) v1)→aa (·=g) w w'→w'.heap.size=w.heap.size→wpList P ops Q rest a w'):wpList P ops Q (o :: rest) a w:=by
 obtain ⟨g',o',cap',cur,e1,hb,hc1,hc2,hc3,hc4⟩:=hs.laid (by omega);cases e1;have hth:w.there g (off+k*2) 2:=fun j hj=>by
  have hl:off+k*2+j<cur.length:=by omega
  refine ⟨?_,hb.free _⟩;rw [hb.cell,Le hl];rfl
 refine wpList_store_mid hgd ty x y ho g (off+k*2) #[v0,v1] hx hy hth (by simpa using hi) (all_oneCell_toArray (cs:=[v0,v1]) (by intro v hv;simp at hv;rcases hv with rfl | rfl <;> assumption)) ?_;rw [hd];refine h _ ?_ ?_ ?_
 ·have s1:=hs.set (j:=k*2) (u:=v0) (by omega);have s2:=s1.set (j:=k*2+1) (u:=v1) (by omega);rw [←Nat.add_assoc] at s2;exact s2
 ·exact ((aa.refl (·=g) w).setCell (p:=⟨g,off+k*2,none⟩) (.inl rfl) v0).setCell (p:=⟨g,off+k*2+1,none⟩) (.inl rfl) v1
 ·show (World.setCell _ _ _).heap.size=_
  simp
theorem cq {P:Program} {o:Oper} {a:Act} {w:World} {K:Act→World→Prop} (ty:TypeId) (x y:Operand) (ho:o.op=.store ty x y) (hd:o.dst=none)
  (g off n cap k:Nat) (xs:List Value) (e:Nat) (v0 v1:Value) (hx:a.eval x=.pointer (some ⟨g,off+k*2,none⟩)) (hy:a.eval y=.agg #[v0,v1])
  (hs:Sl w e 2 (.slice (some ⟨g,off,none⟩) n cap) n xs) (hk:k<n) (hi:(P.info? ty).map (·.size)=some 2) (h0:v0.oneCell'=true) (h1:v1.oneCell'=true)
  (h:∀ w',Sl w' e 2 (.slice (some ⟨g,off,none⟩) n cap) n ((xs.set (k*2) v0).set (k*2+1) v1)→aa (·=g) w w'→w'.heap.size=w.heap.size→K a w'):aw P o a w K:=by
 obtain ⟨g',o',cap',cur,e1,hb,hc1,hc2,hc3,hc4⟩:=hs.laid (by omega);cases e1;have hth:w.there g (off+k*2) 2:=fun j hj=>by
  have hl:off+k*2+j<cur.length:=by omega
  refine ⟨?_,hb.free _⟩;rw [hb.cell,Le hl];rfl
 have hh:K a (w.setCells g (off+k*2) [v0,v1]):=by
  refine h _ ?_ ?_ ?_
  ·have s1:=hs.set (j:=k*2) (u:=v0) (by omega);have s2:=s1.set (j:=k*2+1) (u:=v1) (by omega);rw [←Nat.add_assoc] at s2;exact s2
  ·exact ((aa.refl (·=g) w).setCell (p:=⟨g,off+k*2,none⟩) (.inl rfl) v0).setCell (p:=⟨g,off+k*2+1,none⟩) (.inl rfl) v1
  ·show (World.setCell _ _ _).heap.size=_
   simp
 unfold aw execOp;simp only [ho,hx,hy,Instr.storeAt,Instr.sureAddr,Sem.run_bind,Sem.run_pure,Result.andThen_ok,run_storeVar_mid w g (off+k*2) ty #[v0,v1] hth (by simpa using hi) (all_oneCell_toArray (cs:=[v0,v1]) (by intro v hv;simp at hv;rcases hv with rfl | rfl <;> assumption))]
 first | exact hh | (show K (a.put o.dst undef) _;rw [hd];exact hh)
end
section
open Go.RowKit
section
variable {w:World} {h:RW} {W:Wd}
end
theorem aJ (k:Int):bJ k=true↔0≤k∧k<12:=by simp [bJ]
end
section
open Go.RowKit
theorem A7:madeCells (Value.agg #[Value.int .i64 0,Value.int .i64 0]).cells 24=(aE (List.replicate 12 (0,0))).toArray:=by kernel_rfl
end
end Go.Proofs.YtjifdalflepcoacGreat
