/-
  Parts of the proof, merged: what the functions do, and plain laws.
-/
import Derived.Test.YtjifdalflepcoacGreatTWRP3
set_option maxHeartbeats 16000000
set_option maxRecDepth 100000
set_option linter.unusedVariables false
set_option linter.unusedSimpArgs false
namespace Go.Proofs.YtjifdalflepcoacGreat
section
open Go.RowKit
variable {τ:Type}
def lA {P:Program} {p:Nat} (L:eH P p τ) (t:τ) (F:Nat→Prop) (rv wv:Value) (ah wait:List (Int × Int)) (w:World) (e:Ending) (w':World):Prop:=
 e=.returned (.tuple #[])∧∃ F' rv' wv',L.J w' (dC L.alive L.ab t ah wait).1 F' ∧
  aZ w' p rv' wv' (bq L.alive L.now (dC L.alive L.ab t ah wait).1 (dC L.alive L.ab t ah wait).2.2) (bs L.alive L.now (dC L.alive L.ab t ah wait).1 (dC L.alive L.ab t ah wait).2.1) ∧
  ez F' p rv' wv'∧aa (fun b=>F b∨aF p rv wv b) w w'∧(∀ b,F' b→F b∨w.heap.size≤b)∧(∀ b,aF p rv' wv' b→aF p rv wv b∨w.heap.size≤b)
def lB {P:Program} {p:Nat} (L:eH P p τ) (w:World) (F:Nat→Prop) (rv wv:Value) (b0 b1 b2:Nat) (t:τ) (ah wait:List (Int × Int)) (N:Nat) (wr:World) (more:Bool) (items:List It):Prop:=
 ∃ n t' q' F' wv',ed L w F rv wv b0 b1 b2 items q' t' F' wv' wr∧items.map (·.1)=ah∧q'.length+cH items≤N∧(more=true→cH items<n) ∧
  dC L.alive L.ab t ah wait=if more then roundsM L.alive L.ab n t' q' items else (t',q',items)
def gy (alive:τ→Int→Bool) (t:τ) (ah:List (Int × Int)) (k:Nat):List Value:=((ah.take k).map fun e=>.bool (!alive t e.2)) ++ List.replicate (ah.length-k) (.bool false)
theorem sf {alive:τ→Int→Bool} {t:τ} {ah:List (Int × Int)} {k:Nat} (h:k<ah.length):gy alive t ah (k+1)=(gy alive t ah k).set k (.bool (!alive t (ah.getD k (0,0)).2)):=by
 unfold gy;rw [List.take_succ_eq_append_getElem h,List.map_append,List.set_append_right _ _ (by simp;omega)];have hr:List.replicate (ah.length-k) (Value.bool false)=.bool false :: List.replicate (ah.length-(k+1)) (.bool false):=by
  rw [show ah.length-k=(ah.length-(k+1))+1 by omega,List.replicate_succ]
 rw [hr];have hg:ah.getD k (0,0)=ah[k]:=by simp [List.getD,h]
 rw [hg];have h0:k-(List.map (fun e=>Value.bool (!alive t e.2)) (ah.take k)).length=0:=by simp;omega
 rw [h0];simp
theorem oo {alive:τ→Int→Bool} {t:τ} {ah:List (Int × Int)} {k:Nat} (h:k≤ah.length):(gy alive t ah k).length=ah.length:=by
 unfold gy;simp;omega
theorem qS (alive:τ→Int→Bool) (t:τ) (ah:List (Int × Int)):gy alive t ah ah.length=(cV alive t ah).map fun i=>.bool i.2.1:=by
 unfold gy cV;simp
theorem kL (alive:τ→Int→Bool) (t:τ) (ah:List (Int × Int)):(cV alive t ah).map (·.1)=ah:=by
 simp [cV,List.map_map,Function.comp_def]
theorem lO (alive:τ→Int→Bool) (t:τ) (ah:List (Int × Int)):cH (cV alive t ah)=ah.length:=by
 unfold cV cH;rw [List.filter_map,List.length_map];congr 1;apply List.filter_eq_self.2;intro a _;rfl
theorem ou (alive:τ→Int→Bool) (t:τ) (ah:List (Int × Int)):List.replicate ah.length (Value.bool false)=(cV alive t ah).map fun i=>.bool i.2.2:=by
 unfold cV;rw [List.map_map];apply List.ext_getElem (by simp);intro i h1 h2;simp
theorem lB.start {P:Program} {p:Nat} {L:eH P p τ} {w:World} {F:Nat→Prop} {rv wv:Value} {t:τ} {ah wait:List (Int × Int)} {wr wm:World}
  (hJ:L.J w t F) (h:aZ w p rv wv ah wait) (hap:ez F p rv wv) (hD1:∀ e ∈ ah,L.D t e.1∧L.DK t e.2) (hD:∀ e ∈ wait,L.D t e.1∧L.D t e.2)
  (hk:aa (fun b=>w.heap.size≤b) w wr) (h0:aj wr w.heap.size L.cells 113) (h1:aj wr (w.heap.size+1) (gy L.alive t ah ah.length) 4)
  (hkm:aa (fun _=>False) wr wm) (h2:aj wm wr.heap.size (List.replicate ah.length (.bool false)) 4):lB L w F rv wv w.heap.size (w.heap.size+1) wr.heap.size t ah wait (wait.length+ah.length) wm true (cV L.alive t ah):=by
 have k2:aa (fun b=>w.heap.size≤b) w wm:=hk.trans (hkm.mono fun _ _ h=>h.elim);have l1:=h1.lt;have hF:∀ b,w.heap.size≤b→¬ F b:=fun b hb hf=>by have:=L.J_lt hJ hf;omega
 refine ⟨ah.length+1,t,wait,F,wv,⟨L.J_keep hJ k2 (fun b hb hw=>hF b hw hb),?_,hap,?_,fun b hb=>.inl hb,fun b hb=>.inl hb,hkm.aq h0 (fun h=>h),?_,?_,hF _ (Nat.le_refl _),hF _ (by omega),hF _ (by omega),Nat.le_refl _,by omega,by omega,by omega,hD,?_⟩,kL _ _ _,?_,?_,?_⟩
 ·rw [kL];exact h.ab k2 (fun b hb hw=>by have:=h.jN hb;omega)
 ·exact ⟨k2.os,k2.tape,k2.output,k2.size,fun b hb hn=>k2.block b hb (by omega)⟩
 ·rw [←qS];exact hkm.aq h1 (fun h=>h)
 ·rw [←ou];exact h2
 ·intro i hi;unfold cV at hi;simp only [List.mem_map] at hi;obtain ⟨e,he,rfl⟩:=hi;exact hD1 e he
 ·rw [lO];exact Nat.le_refl _
 ·intro _;rw [lO];omega
 ·rfl
theorem lB.next {P:Program} {p:Nat} {L:eH P p τ} {w:World} {F:Nat→Prop} {rv wv:Value} {b0 b1 b2:Nat} {t:τ} {ah wait:List (Int × Int)} {N n:Nat} {t':τ} {q':List (Int × Int)} {items:List It} {w2:World} {more:Bool}
  (hf:items.map (·.1)=ah) (hn:cH items<n) (he:dC L.alive L.ab t ah wait=roundsM L.alive L.ab n t' q' items) (hs:iE L w F rv wv b0 b1 b2 t' q' items N w2 ah.length more) :
  ∃ done,lB L w F rv wv b0 b1 b2 t ah wait N w2 more done∧cH done≤cH items∧(more=true→cH done<cH items)∧aj w2 b2 (done.map fun i=>.bool i.2.2) 4:=by
 obtain ⟨t2,q2,F2,v2,done,hd,hm,hN,hE⟩:=hs;have hl:items.length=ah.length:=by rw [←hf];simp
 rw [←hl,List.drop_length,List.append_nil] at hm hN;rw [←hl,List.drop_length] at hE;simp only [scanM,List.append_nil,Bool.or_false] at hE;obtain ⟨m,rfl⟩:∃ m,n=m+1:=⟨n-1,by omega⟩;have hu:=mL L.alive L.ab items t' q';have hfs:=iX L.alive L.ab items t' q';rw [hE] at hu hfs;simp only at hu hfs;refine ⟨done,⟨m,t2,q2,F2,v2,hm,?_,hN,fun h=>by have:=hu.2 h;omega,?_⟩,hu.1,hu.2,hm.h2⟩
 ·have:=congrArg (List.map (fun x:(Int × Int) × Bool=>x.1)) hfs;simp only [List.map_map] at this;rw [←hf];exact this
 ·rw [he];simp only [roundsM,hE]
def bit (v:Value):Nat:=match v with | .bool true=>1 | _=>0
theorem ov {alive:τ→Int→Bool} {now:τ→Int→Int} {t:τ} {l:List It} {k:Nat} (h:k<l.length):bq alive now t (l.take (k+1))=bq alive now t (l.take k) ++ if (!l[k].2.1 && alive t l[k].1.1)=true then [(now t l[k].1.1,now t l[k].1.2)] else []:=by
 unfold bq;rw [List.take_succ_eq_append_getElem h,List.filter_append,List.map_append];congr 1;cases hc:(!l[k].2.1 && alive t l[k].1.1) <;> simp [List.filter_cons,hc]
theorem qT {alive:τ→Int→Bool} {now:τ→Int→Int} {t:τ} {l:List It}:(bq alive now t l).length≤l.length:=by
 unfold bq;rw [List.length_map];exact List.length_filter_le _ _
theorem ow {alive:τ→Int→Bool} {now:τ→Int→Int} {t:τ} {l:List (Int × Int)} {k:Nat} (h:k<l.length):bs alive now t (l.take (k+1))=bs alive now t (l.take k) ++ if alive t (l.getD k (0,0)).1=true then [(now t (l.getD k (0,0)).1,now t (l.getD k (0,0)).2)] else []:=by
 have hg:l.getD k (0,0)=l[k]:=by simp [List.getD,h]
 rw [hg];unfold bs;rw [List.take_succ_eq_append_getElem h,List.filter_append,List.map_append];congr 1;cases hc:alive t l[k].1 <;> simp [List.filter_cons,hc]
theorem qU {alive:τ→Int→Bool} {now:τ→Int→Int} {t:τ} {l:List (Int × Int)}:(bs alive now t l).length≤l.length:=by
 unfold bs;rw [List.length_map];exact List.length_filter_le _ _
def eV (w wr:World) (v:Value) (l:List (Int × Int)):Prop:=Sl wr 101 2 v l.length (aE l)∧aa (fun _=>False) w wr∧∀ b,ak v b→w.heap.size≤b
theorem eV.nil (w:World):eV w w (.slice none 0 0) []:=⟨Sl.nil w 101 2,aa.refl _ _,by intro k hk;simp [ak,Value.ownBlock] at hk⟩
theorem eV.ab {w wr w2:World} {v:Value} {l:List (Int × Int)} (h:eV w wr v l) (k:aa (fun _=>False) wr w2):eV w w2 v l:=⟨h.1.ab k (fun _ _ h=>h),h.2.1.trans k,h.2.2⟩
theorem eV.app {w wr w1 w2:World} {v v2:Value} {l:List (Int × Int)} {e:Int × Int} (h:eV w wr v l) (k1:aa (fun _=>False) wr w1) (hs:Sl w2 101 2 v2 (l.length+1) (aE l ++ [.int .i64 e.1, .int .i64 e.2])) (hk:aa (ak v) w1 w2) (ho:∀ b,ak v2 b→ak v b∨w1.heap.size≤b):eV w w2 v2 (l ++ [e]):=by
 refine ⟨by simpa [aE] using hs,(h.2.1.trans k1).then hk (fun b hb=>.inr (h.2.2 b hb)),fun b hb=>?_⟩;rcases ho b hb with h1 | h1
 ·exact h.2.2 b h1
 ·exact Nat.le_trans (Nat.le_trans h.2.1.size k1.size) h1
theorem lA.done {P:Program} {p:Nat} {L:eH P p τ} {w:World} {F:Nat→Prop} {rv wv:Value} {b0 b1 b2:Nat} {t:τ} {ah wait:List (Int × Int)} {t':τ} {q':List (Int × Int)} {items:List It} {F':Nat→Prop} {wv':Value} {wr w1 w2:World} {v1 v2:Value}
  (he:dC L.alive L.ab t ah wait=(t',q',items)) (h:ed L w F rv wv b0 b1 b2 items q' t' F' wv' wr) (n1:eV wr w1 v1 (bq L.alive L.now t' items)) (n2:eV w1 w2 v2 (bs L.alive L.now t' q')) :
  lA L t F rv wv ah wait w (.returned (.tuple #[])) ((w2.setCell ⟨p,0,none⟩ v1).setCell ⟨p,1,none⟩ v2):=by
 have hm2:=(h.ab n1.2.1).ab n2.2.1;have kset:=((aa.refl (·=p) w2).setCell (p:=⟨p,0,none⟩) (.inl rfl) v1).setCell (p:=⟨p,1,none⟩) (.inl rfl) v2;have hpl:=h.hS.hp.lt;have s1:=n1.2.1.size;have s0:=h.hK.size;have o1:¬ ak v1 p:=fun hb=>by have:=n1.2.2 p hb;omega
 have o2:¬ ak v2 p:=fun hb=>by have:=n2.2.2 p hb;omega
 unfold lA;rw [he];refine ⟨rfl,F',v1,v2,L.J_keep hm2.hJ kset (by rintro b hb rfl;exact h.hA b ⟨hb, .inl rfl⟩),⟨by simpa using (hm2.hS.hp.aG 0 v1).aG 1 v2,(n1.1.ab n2.2.1 (fun _ _ h=>h)).ab kset (by rintro b hb rfl;exact o1 hb),n2.1.ab kset (by rintro b hb rfl;exact o2 hb),?_⟩,?_,
  (hm2.hK.setCell (p:=⟨p,0,none⟩) (.inl (.inr (.inl rfl))) v1).setCell (p:=⟨p,1,none⟩) (.inl (.inr (.inl rfl))) v2,h.hF,?_⟩
 ·rintro b ⟨h1,h2⟩;have:=(n1.1.own h1).1;have:=n2.2.2 b h2;omega
 ·rintro b ⟨h1,h2 | h2 | h2⟩
  ·exact h.hA b ⟨h1, .inl h2⟩
  ·have:=L.J_lt h.hJ h1;have:=n1.2.2 b h2;omega
  ·have:=L.J_lt h.hJ h1;have:=n2.2.2 b h2;omega
 ·rintro b (h1 | h1 | h1)
  ·exact .inl (.inl h1)
  ·have:=n1.2.2 b h1;exact .inr (by omega)
  ·have:=n2.2.2 b h1;exact .inr (by omega)
theorem tP (p:Nat) (L:eH Tryz.prog p τ) (t:τ) (F:Nat→Prop) (rv wv:Value) (ah wait:List (Int × Int)) (w:World)
  (hJ:L.J w t F) (h:aZ w p rv wv ah wait) (hap:ez F p rv wv) (hl1:ah.length≤100000) (hl2:wait.length≤100000) (hD1:∀ e ∈ ah,L.D t e.1∧L.DK t e.2) (hD:∀ e ∈ wait,L.D t e.1∧L.D t e.2) :
  Calls Tryz.prog 60 #[.pointer (some ⟨p,0,none⟩),L.val] w fun e w'=>lA L t F rv wv ah wait w e w':=by
 obtain ⟨ie,hie,hez0,hez1,hez2⟩:=info_parts iq;have Hi:=Hz hie;have Hz0:=Hz hez0;have Hz1:=Hz hez1;have Hz2:=Hz hez2;clear hie hez0 hez1 hez2;obtain ⟨ib,hi,hz0,hz1,hz2⟩:=info_parts jZ;have hmk:=fun (wx:World) (n:Nat) (h1:n≤9223372036854775807) (h2:n≤281474976710656)=>dP (P:=Tryz.prog) wx 122 4 ib (.bool false) Tryz.underlying122 hi hz0 rfl hz1 n (by rw [hz2];omega) h1;have HM:=Hz hmk;clear hmk hi hz0 hz1 hz2;have hk:=fun (wx:World)=>HM.out wx ah.length (by omega) (by omega);obtain ⟨ro,rc,rfl,hrd,_,_⟩:=h.hr.rd;have c0:=h.hp.cell 0;simp only [Lz,aC] at c0;have hpl:=h.hp.lt;have H:=Hz h;have HR:=Hz hrd;have HJ:=Hz hJ;have HA:=Hz hap;have HD:=Hz hD;have HD1:=Hz hD1;clear h hrd hJ hap hD hD1;have ea:=L.ea;have ek:=L.ek;have en:=L.en;generalize hbox:w.alloc (.cells #[.func (.func L.fa) L.a1 L.a2, .func (.func L.fk) L.k1 L.k2, .func (.func L.fn) L.n1 L.n2] 113)=wb;have hkb:aa (fun _=>False) w wb:=by rw [←hbox];exact (aa.refl _ _).alloc _
 have hbb:aj wb w.heap.size L.cells 113:=by rw [←hbox];exact aj.newAt _ rfl rfl
 have hszb:wb.heap.size=w.heap.size+1:=by rw [←hbox];simp
 have HKB:=Hz hkb;have HBB:=Hz hbb;have HSZ:=Hz hszb;have HBX:=Hz hbox;clear hkb hbb hszb hbox;generalize hwd:wb.alloc (.cells (Array.replicate ah.length (.bool false)) 4)=wd;have hkd:aa (fun _=>False) wb wd:=by rw [←hwd];exact (aa.refl _ _).alloc _
 have hbd:aj wd (w.heap.size+1) (gy L.alive t ah 0) 4:=by rw [←hwd];exact aj.newAt _ HSZ.out.symm (by simp [gy])
 have HKD:=Hz hkd;have HBD:=Hz hbd;have HWD:=Hz hwd;clear hkd hbd hwd;unfold eH.val;go_enter Tryz.func60,Tryz.ntmps60;go_wp2_with fail;rw [HBX.out,HWD.out];go_loopw [29] (fun i wr=>∃ k:Nat,k≤ah.length∧i=.int .i64 k∧aj wr (w.heap.size+1) (gy L.alive t ah k) 4∧aa (·=w.heap.size+1) wd wr) (fun i _=>ah.length-(intOf i).toNat)
 case atStart=>exact ⟨0,Nat.zero_le _,rfl,HBD.out,aa.refl _ _⟩
 case round=>
  obtain ⟨k,hkl,rfl,hbl,hkr⟩:=hrel;have HBL:=Hz hbl;have HKR:=Hz hkr;have hkw:aa (fun b=>w.heap.size≤b) w wr:=((HKB.out.trans HKD.out).mono fun _ _ h=>h.elim).trans (hkr.mono (by rintro b _ rfl;omega));have hkn:∀ b,b<w.heap.size→¬ (w.heap.size≤b):=fun b h=>by omega
  have HKW:=Hz hkw;have HKN:=Hz hkn;clear hbl hkr hkw hkn;by_cases hlt:k<ah.length
  ·have hrd:=HR.out.ab HKW.out (fun a _ h=>HKN.out _ h);obtain ⟨g,o,rfl,hgl,d0,d1⟩:=hrd.fP k hlt;have hvd0:=HD1.out (ah.getD k (0,0)) (by simp [List.getD,hlt]);have hvd:=And.intro hvd0.1 (L.DK_D hvd0.2);clear hvd0;have HDS:=Hz (sf (alive:=L.alive) (t:=t) hlt);generalize ah.getD k (0,0)=v at *;have hbx:aj wr w.heap.size L.cells 113:=HKR.out.aq (HKD.out.aq HBB.out (fun h=>h)) (by omega);have HX:=Hz hbx;have HV:=Hz hvd;have b0:=hbx.cell 0;have bl:=hbx.lt;simp only [eH.cells,Lz] at b0;clear hrd hvd hbx;go_wp2_with fail;have hk0:=(Kz wr).alloc (.cells #[Value.int IntKind.i64 v.fst,Value.int IntKind.i64 v.snd] 101);refine (L.cS _ t F v.2 (L.J_keep HJ.out (HKW.out.trans (hk0.mono fun _ _ h=>h.elim)) (fun b h=>HKN.out b (L.J_lt HJ.out h))) HV.out.2).mono ?_;rintro e w1 ⟨rfl,hk1⟩;have HB1:=Hz (hk1.aq (hk0.aq HBL.out (fun h=>h)) (fun h=>h));have HK1:=Hz (HKR.out.trans ((hk0.trans hk1).mono fun _ _ h=>h.elim));clear hk0 hk1;obtain ⟨aI,q0⟩:∃ aI,w1.cell? ⟨w.heap.size+1,k,none⟩=some aI:=⟨_,by rw [HB1.out.cell,Le (by rw [oo (Nat.le_of_lt hlt)];exact hlt)]⟩;have qf:=HB1.out.free k;have ql:=HB1.out.lt;go_wp2_with fail;go_roundw
   case rel=>exact ⟨k+1,by omega,by go_num,by rw [HDS.out];exact HB1.out.aG k _,HK1.out.setCell (p:=⟨w.heap.size+1,k,none⟩) (.inl rfl) _⟩
   case measure=>simp [intOf];omega
  ·obtain rfl:k=ah.length:=by omega
   have p0:=(HKW.out.aq H.out.hp (HKN.out _ hpl)).cell 0;have pl:=(HKW.out.aq H.out.hp (HKN.out _ hpl)).lt;simp only [Lz] at p0;have hbx:aj wr w.heap.size L.cells 113:=HKR.out.aq (HKD.out.aq HBB.out (fun h=>h)) (by omega);generalize hwm:wr.alloc (.cells (Array.replicate ah.length (.bool false)) 4)=wm;have hst:=lB.start (wm:=wm) HJ.out H.out HA.out HD1.out HD.out HKW.out hbx HBL.out (by rw [←hwm];exact (aa.refl _ _).alloc _) (by rw [←hwm];exact aj.newAt _ rfl (by simp));have hr0:w.heap.size+2≤wr.heap.size:=HBL.out.lt;have HST:=Hz hst;have HWM:=Hz hwm;have HR0:=Hz hr0;clear hst hwm hbx hr0;go_wp2_with fail;rw [HWM.out];generalize wr.heap.size=b2 at *;go_loopw [8] (fun v wx=>∃ more items,v=.bool more∧lB L w F (.slice ro ah.length rc) wv w.heap.size (w.heap.size+1) b2 t ah wait (wait.length+ah.length) wx more items) (fun v wx=>2*cntF wx b2+bit v)
   case atStart=>exact ⟨true,_,rfl,HST.out⟩
   case round=>
    obtain ⟨more,items,rfl,n,t',q',F',wv',hm,hf,hN,hun,he⟩:=hrel;have GM:=Hz hm;have GF:=Hz hf;have GN:=Hz hN;have GU:=Hz hun;have GE:=Hz he;have hsr:=hm.hS;rw [hf] at hsr;have GS:=Hz hsr;have x0:=hm.hS.hp.cell 0;have xl:=hm.hS.hp.lt;simp only [Lz] at x0;have hbl:=Nat.le_trans (Nat.le_refl _) hm.h2.lt;have hcn:=mX hm.h2;have HCN:=Hz hcn;clear hm hf hN hun he hsr hcn p0 pl c0 HST;have p0:=x0;clear x0;cases more
    ·have he:=GE.out;simp only [Bool.false_eq_true,if_false] at he;have GE2:=Hz he;clear he GE;go_wp2_with fail;go_loopw [12,106] (fun v i wx=>∃ (k:Nat),k≤ah.length∧i=.int .i64 k∧eV wr wx v (bq L.alive L.now t' (items.take k))) (fun _ i _=>ah.length-(intOf i).toNat)
     case atStart=>exact ⟨0,Nat.zero_le _,rfl,eV.nil wr⟩
     case round=>
      obtain ⟨k,hk,rfl,hnl⟩:=hrel;have KNL:=Hz hnl;have hmk:=GM.out.ab hnl.2.1;have hil:items.length=ah.length:=by rw [←GF.out];simp
      clear hnl;by_cases hlt:k<ah.length
      ·have hki:k<items.length:=by omega
       have hst:=ov (alive:=L.alive) (now:=L.now) (t:=t') hki;have hvd0:=hmk.hr items[k] (List.getElem_mem hki);have hvd:=And.intro hvd0.1 (L.DK_D hvd0.2);clear hvd0;have hgk:items[k]? = some items[k]:=Le hki;have hfs:ah.getD k (0,0)=items[k].1:=by rw [←GF.out];simp [List.getD,hki]
       have hsr:=hmk.hS;rw [GF.out] at hsr;obtain ⟨_,_,e',hrd,_,_⟩:=hsr.hr.rd;cases e';obtain ⟨g,o,rfl,hgl,d0,d1⟩:=hrd.fP k hlt;rw [hfs] at d0 d1;have f0:=hmk.h0.cell 0;have fl:=hmk.h0.lt;have r1:=hmk.h1.cell k;have r1l:=hmk.h1.lt;rw [List.getElem?_map,hgk] at r1;simp only [Option.map_some] at r1;simp only [eH.cells,Lz,aC] at f0;have hle:(bq L.alive L.now t' (items.take k)).length≤100000:=Nat.le_trans qT (Nat.le_trans (List.length_take_le _ _) (by omega));generalize items[k]=i at *;obtain ⟨v,dd,mv⟩:=i;have KM:=Hz hmk;have KST:=Hz hst;have KV:=Hz hvd;have KLE:=Hz hle;clear hmk hst hvd hgk hfs hsr hrd hle;cases dd
       ·go_wp2_with fail;have hk0:=(Kz wr).alloc (.cells #[Value.int IntKind.i64 v.fst,Value.int IntKind.i64 v.snd] 101);refine (L.cS _ t' F' v.1 (L.J_keep KM.out.hJ hk0 (fun _ _ h=>h)) KV.out.1).mono ?_;rintro e w1 ⟨rfl,hk1⟩;have KK1:=Hz (hk0.trans hk1);have KE1:=Hz (hk1.aq (aj.newAt (w:=wr) _ rfl rfl) (fun h=>h));clear hk0 hk1;cases ha:L.alive t' v.1
        ·go_wp2_with fail;go_roundw
         case rel=>exact ⟨k+1,by omega,by go_num,by rw [KST.out,ha];simpa using KNL.out.ab KK1.out⟩
         case measure=>simp [intOf];omega
        ·have hm1:=KM.out.ab KK1.out;clear f0 fl r1 r1l d0 d1;have f2:=hm1.h0.cell 2;have e0:=KE1.out.cell 0;have e1:=KE1.out.cell 1;simp only [eH.cells,Lz,aC] at f2 e0 e1;clear hm1;go_wp2_with fail;refine ct [(0,0),(1,0),(3,0),(6,0),(8,0),(2,0),(4,0),(7,0),(9,0),(5,1),(10,1),(11,0),(12,1),(13,1),(14,0)] (fun w'=>w'.cell? ⟨w.heap.size,2,none⟩=some (.func (.func L.fn) L.n1 L.n2)∧w'.cell? ⟨wr.heap.size,0,none⟩=some (.int .i64 v.1)∧w'.cell? ⟨wr.heap.size,1,none⟩=some (.int .i64 v.2)) (by kernel_rfl) (by kernel_rfl) ⟨f2,e0,e1⟩ ?_
         iterate 9 (refine bj rfl rfl _ (fun w' hG=>by obtain ⟨g0,g1,g2⟩:=hG;go_simp;exact bu.mk _ _) (fun K hK=>?_);go_simp;refine hK _ ?_;clear hK K)
         refine bx rfl rfl (fun K hK=>?_);unfold aw;go_simp;have kd1:aa (fun _=>False) wr w1.drew:=KK1.out.trans ((aa.refl _ w1).drew);refine (L.now_c _ t' F' v.1 (KM.out.ab kd1).hJ KV.out.1).mono ?_;rintro e w2 ⟨rfl,hk2⟩;have kd2:=kd1.trans hk2;have be2:=hk2.aq (KE1.out.drew) (fun h=>h);refine hK _ _ ⟨(KM.out.ab kd2).h0.cell 2,be2.cell 0,be2.cell 1⟩ ?_;clear hK K;refine bx rfl rfl (fun K hK=>?_);unfold aw;go_simp;refine (L.now_c _ t' F' v.2 (KM.out.ab kd2).hJ KV.out.2).mono ?_;rintro e w3 ⟨rfl,hk3⟩;have kd3:=kd2.trans hk3;have be3:=hk3.aq be2 (fun h=>h);refine hK _ _ ⟨(KM.out.ab kd3).h0.cell 2,be3.cell 0,be3.cell 1⟩ ?_;clear hK K;have KD3:=Hz kd3;have KB3:=Hz be3;clear kd1 kd2 kd3 be2 be3 hk2 hk3 f2 e0 e1
         iterate 1 (refine bj rfl rfl _ (fun w' hG=>by obtain ⟨g0,g1,g2⟩:=hG;go_simp;exact bu.mk _ _) (fun K hK=>?_);go_simp;refine hK _ ?_;clear hK K)
         refine bx rfl rfl (fun K hK=>?_);unfold aw;go_simp;refine hK _ _ ?_ ?_
         ·have k:=(Kz w3).alloc (.cells #[.int .i64 (L.now t' v.1), .int .i64 (L.now t' v.2)] 101);exact ⟨(KM.out.ab (KD3.out.trans k)).h0.cell 2,(k.aq KB3.out (fun h=>h)).cell 0,(k.aq KB3.out (fun h=>h)).cell 1⟩
         clear hK K;refine bx rfl rfl (fun K hK=>?_);have hle:=KLE.out;refine dF (.tmp 123) (.tmp 135) 131 rfl 101 ie (.agg #[.int .i64 0, .int .i64 0]) 2 16 Tryz.underlying131 Hi.out Hz0.out Hz1.out Hz2.out rfl (by decide) _ (bq L.alive L.now t' (items.take k)).length (aE (bq L.alive L.now t' (items.take k))) rfl ?ja ⟨w3.heap.size,0,none⟩ 1 1 [.int .i64 (L.now t' v.1), .int .i64 (L.now t' v.2)] rfl rfl ?jb ?jc ?jd ?je ?jf
         case ja=>exact (KNL.out.ab (KD3.out.trans ((Kz w3).alloc _))).1
         case jb=>exact bX w3 101 #[.int .i64 (L.now t' v.1), .int .i64 (L.now t' v.2)]
         case jc=>intro u hu;simp at hu;rcases hu with rfl | rfl <;> rfl
         case jd=>unfold maxLen;omega
         case je=>omega
         case jf=>
          intro v5 w5 hs5 hk5 ho5;have hka:aa (fun _=>False) w3 (w3.alloc (.cells #[.int .i64 (L.now t' v.1), .int .i64 (L.now t' v.2)] 101)):=(Kz w3).alloc _;have hnw:=eV.app (e:=(L.now t' v.1,L.now t' v.2)) KNL.out (KD3.out.trans hka) hs5 hk5 ho5;have kd5:=KD3.out.trans hka;have KNW:=Hz hnw;have hm5:=KM.out.ab (w2:=w3.alloc (.cells #[.int .i64 (L.now t' v.1), .int .i64 (L.now t' v.2)] 101)) kd5;have be5:=hka.aq KB3.out (fun h=>h);have nb0:¬ ak u12 w.heap.size:=fun h=>by
           obtain ⟨_,cur,hc⟩:=KNL.out.1.own h;exact KM.out.h0.ne hc (by decide) rfl
          have nb1:¬ ak u12 wr.heap.size:=fun h=>by
           have:=(KNL.out.1.own h).1;omega
          refine hK _ _ ⟨(hk5.aq hm5.h0 nb0).cell 2,(hk5.aq be5 nb1).cell 0,(hk5.aq be5 nb1).cell 1⟩ ?_;clear hK K hs5 hk5 ho5 hka hnw kd5 hm5 be5 nb0 nb1
          iterate 1 (refine bj rfl rfl _ (fun w' hG=>by obtain ⟨g0,g1,g2⟩:=hG;go_simp;exact bu.mk _ _) (fun K hK=>?_);go_simp;refine hK _ ?_;clear hK K)
          refine dv ?_;go_wp2_with fail;go_roundw
          case rel=>exact ⟨k+1,by omega,by go_num,by rw [KST.out,ha];exact KNW.out⟩
          case measure=>simp [intOf];omega
       ·go_wp2_with fail;go_roundw
        case rel=>exact ⟨k+1,by omega,by go_num,by rw [KST.out];simpa using KNL.out.ab ((aa.refl _ _).alloc _)⟩
        case measure=>simp [intOf];omega
      ·obtain rfl:k=ah.length:=by omega
       have htk:items.take ah.length=items:=by rw [←hil];exact List.take_length
       have hnl:=KNL.out;rw [htk] at hnl;obtain ⟨n1,c1,rfl,_,_,_⟩:=hnl.1.rd;obtain ⟨wo,wc,rfl,_,_,_⟩:=hmk.hS.hw.rd;have p1:=hmk.hS.hp.cell 1;have pl1:=hmk.hS.hp.lt;simp only [Lz,aC] at p1;have hql:q'.length≤200000:=by have:=GN.out;omega
       have KN1:=Hz hnl;have KM0:=Hz hmk;clear hnl hmk htk KNL;go_wp2_with fail;go_loopw [13,143] (fun v i wx=>∃ (k:Nat),k≤q'.length∧i=.int .i64 k∧eV wr wx v (bs L.alive L.now t' (q'.take k))) (fun _ i _=>q'.length-(intOf i).toNat)
       case atStart=>exact ⟨0,Nat.zero_le _,rfl,eV.nil wr⟩
       case round=>
        obtain ⟨k,hk,rfl,hnl⟩:=hrel;have KNL:=Hz hnl;have hmk:=KM0.out.ab hnl.2.1;clear hnl;by_cases hlt:k<q'.length
        ·have hst:=ow (alive:=L.alive) (now:=L.now) (t:=t') hlt;have hvd:=hmk.hq (q'.getD k (0,0)) (by simp [List.getD,hlt]);obtain ⟨_,_,e',hrd,_,_⟩:=hmk.hS.hw.rd;cases e';obtain ⟨g,o,rfl,hgl,d0,d1⟩:=hrd.fP k hlt;have f0:=hmk.h0.cell 0;have fl:=hmk.h0.lt;simp only [eH.cells,Lz,aC] at f0;have hle:(bs L.alive L.now t' (q'.take k)).length≤200000:=Nat.le_trans qU (Nat.le_trans (List.length_take_le _ _) (by omega));generalize q'.getD k (0,0)=v at *;have KM:=Hz hmk;have KST:=Hz hst;have KV:=Hz hvd;have KLE:=Hz hle;clear hmk hst hvd hrd hle;go_wp2_with fail;have hk0:=(Kz wr).alloc (.cells #[Value.int IntKind.i64 v.fst,Value.int IntKind.i64 v.snd] 101);refine (L.cS _ t' F' v.1 (L.J_keep KM.out.hJ hk0 (fun _ _ h=>h)) KV.out.1).mono ?_;rintro e w1 ⟨rfl,hk1⟩;have KK1:=Hz (hk0.trans hk1);have KE1:=Hz (hk1.aq (aj.newAt (w:=wr) _ rfl rfl) (fun h=>h));clear hk0 hk1;cases ha:L.alive t' v.1
         ·go_wp2_with fail;go_roundw
          case rel=>exact ⟨k+1,by omega,by go_num,by rw [KST.out,ha];simpa using KNL.out.ab KK1.out⟩
          case measure=>simp [intOf];omega
         ·have hm1:=KM.out.ab KK1.out;clear f0 fl d0 d1;have f2:=hm1.h0.cell 2;have e0:=KE1.out.cell 0;have e1:=KE1.out.cell 1;simp only [eH.cells,Lz,aC] at f2 e0 e1;clear hm1;go_wp2_with fail;refine ct [(0,0),(1,0),(3,0),(6,0),(8,0),(2,0),(4,0),(7,0),(9,0),(5,1),(10,1),(11,0),(12,1),(13,1),(14,0)] (fun w'=>w'.cell? ⟨w.heap.size,2,none⟩=some (.func (.func L.fn) L.n1 L.n2)∧w'.cell? ⟨wr.heap.size,0,none⟩=some (.int .i64 v.1)∧w'.cell? ⟨wr.heap.size,1,none⟩=some (.int .i64 v.2)) (by kernel_rfl) (by kernel_rfl) ⟨f2,e0,e1⟩ ?_
          iterate 9 (refine bj rfl rfl _ (fun w' hG=>by obtain ⟨g0,g1,g2⟩:=hG;go_simp;exact bu.mk _ _) (fun K hK=>?_);go_simp;refine hK _ ?_;clear hK K)
          refine bx rfl rfl (fun K hK=>?_);unfold aw;go_simp;have kd1:aa (fun _=>False) wr w1.drew:=KK1.out.trans ((aa.refl _ w1).drew);refine (L.now_c _ t' F' v.1 (KM.out.ab kd1).hJ KV.out.1).mono ?_;rintro e w2 ⟨rfl,hk2⟩;have kd2:=kd1.trans hk2;have be2:=hk2.aq (KE1.out.drew) (fun h=>h);refine hK _ _ ⟨(KM.out.ab kd2).h0.cell 2,be2.cell 0,be2.cell 1⟩ ?_;clear hK K;refine bx rfl rfl (fun K hK=>?_);unfold aw;go_simp;refine (L.now_c _ t' F' v.2 (KM.out.ab kd2).hJ KV.out.2).mono ?_;rintro e w3 ⟨rfl,hk3⟩;have kd3:=kd2.trans hk3;have be3:=hk3.aq be2 (fun h=>h);refine hK _ _ ⟨(KM.out.ab kd3).h0.cell 2,be3.cell 0,be3.cell 1⟩ ?_;clear hK K;have KD3:=Hz kd3;have KB3:=Hz be3;clear kd1 kd2 kd3 be2 be3 hk2 hk3 f2 e0 e1
          iterate 1 (refine bj rfl rfl _ (fun w' hG=>by obtain ⟨g0,g1,g2⟩:=hG;go_simp;exact bu.mk _ _) (fun K hK=>?_);go_simp;refine hK _ ?_;clear hK K)
          refine bx rfl rfl (fun K hK=>?_);unfold aw;go_simp;refine hK _ _ ?_ ?_
          ·have k:=(Kz w3).alloc (.cells #[.int .i64 (L.now t' v.1), .int .i64 (L.now t' v.2)] 101);exact ⟨(KM.out.ab (KD3.out.trans k)).h0.cell 2,(k.aq KB3.out (fun h=>h)).cell 0,(k.aq KB3.out (fun h=>h)).cell 1⟩
          clear hK K;refine bx rfl rfl (fun K hK=>?_);have hle:=KLE.out;refine dF (.tmp 152) (.tmp 164) 131 rfl 101 ie (.agg #[.int .i64 0, .int .i64 0]) 2 16 Tryz.underlying131 Hi.out Hz0.out Hz1.out Hz2.out rfl (by decide) _ (bs L.alive L.now t' (q'.take k)).length (aE (bs L.alive L.now t' (q'.take k))) rfl ?la ⟨w3.heap.size,0,none⟩ 1 1 [.int .i64 (L.now t' v.1), .int .i64 (L.now t' v.2)] rfl rfl ?lb ?lc ?ld ?le ?lf
          case la=>exact (KNL.out.ab (KD3.out.trans ((Kz w3).alloc _))).1
          case lb=>exact bX w3 101 #[.int .i64 (L.now t' v.1), .int .i64 (L.now t' v.2)]
          case lc=>intro u hu;simp at hu;rcases hu with rfl | rfl <;> rfl
          case ld=>unfold maxLen;omega
          case le=>omega
          case lf=>
           intro v5 w5 hs5 hk5 ho5;have hka:aa (fun _=>False) w3 (w3.alloc (.cells #[.int .i64 (L.now t' v.1), .int .i64 (L.now t' v.2)] 101)):=(Kz w3).alloc _;have hnw:=eV.app (e:=(L.now t' v.1,L.now t' v.2)) KNL.out (KD3.out.trans hka) hs5 hk5 ho5;have kd5:=KD3.out.trans hka;have KNW:=Hz hnw;have hm5:=KM.out.ab (w2:=w3.alloc (.cells #[.int .i64 (L.now t' v.1), .int .i64 (L.now t' v.2)] 101)) kd5;have be5:=hka.aq KB3.out (fun h=>h);have nb0:¬ ak u13 w.heap.size:=fun h=>by
            obtain ⟨_,cur,hc⟩:=KNL.out.1.own h;exact KM.out.h0.ne hc (by decide) rfl
           have nb1:¬ ak u13 wr.heap.size:=fun h=>by
            have:=(KNL.out.1.own h).1;omega
           refine hK _ _ ⟨(hk5.aq hm5.h0 nb0).cell 2,(hk5.aq be5 nb1).cell 0,(hk5.aq be5 nb1).cell 1⟩ ?_;clear hK K hs5 hk5 ho5 hka hnw kd5 hm5 be5 nb0 nb1
           iterate 1 (refine bj rfl rfl _ (fun w' hG=>by obtain ⟨g0,g1,g2⟩:=hG;go_simp;exact bu.mk _ _) (fun K hK=>?_);go_simp;refine hK _ ?_;clear hK K)
           refine dv ?_;go_wp2_with fail;go_roundw
           case rel=>exact ⟨k+1,by omega,by go_num,by rw [KST.out,ha];exact KNW.out⟩
           case measure=>simp [intOf];omega
        ·obtain rfl:k=q'.length:=by omega
         have hnl:=KNL.out;rw [List.take_length] at hnl;obtain ⟨n2,c2,rfl,_,_,_⟩:=hnl.1.rd;have hmk:=KM0.out.ab KNL.out.2.1;have p0:=hmk.hS.hp.cell 0;have p1:=hmk.hS.hp.cell 1;have fz0:=hmk.hS.hp.free 0;have fz1:=hmk.hS.hp.free 1;have pl:=hmk.hS.hp.lt;simp only [Lz,aC] at p0 p1;have KN2:=Hz hnl;clear hnl hmk KNL;go_wp2_with fail;go_end0;exact lA.done GE2.out GM.out KN1.out KN2.out
    ·have he:=GE.out;simp only [if_true] at he;have GE2:=Hz he;have hun:=GU.out rfl;clear he GE;have hl0:items.length=ah.length:=by rw [←GF.out];simp
     have HI:iE L w F (.slice ro ah.length rc) wv w.heap.size (w.heap.size+1) b2 t' q' items (wait.length+ah.length) wr 0 false:=
      ⟨t',q',F',wv',[],rfl,by simpa using GM.out,by simpa using GN.out,by simp⟩
     have HL0:=Hz hl0;clear hl0;go_wp2_with fail;go_loopw [8,56] (fun v i wx=>∃ (k:Nat) (more:Bool),k≤ah.length∧i=.int .i64 k∧v=.bool more∧iE L w F (.slice ro ah.length rc) wv w.heap.size (w.heap.size+1) b2 t' q' items (wait.length+ah.length) wx k more) (fun _ i _=>ah.length-(intOf i).toNat)
     case atStart=>exact ⟨0,false,Nat.zero_le _,rfl,rfl,HI⟩
     case round=>
      clear HI;obtain ⟨k,more,hk,rfl,rfl,hsc⟩:=hrel;by_cases hlt:k<ah.length
      ·obtain ⟨t2,q2,F2,v2,done,hd,hm,hN,hE⟩:=hsc;have hki:k<items.length:=by rw [HL0.out];exact hlt
       have hdr:items.drop k=items[k] :: items.drop (k+1):=List.drop_eq_getElem_cons hki;rw [hdr] at hm hN hE;generalize items[k]=i at *;obtain ⟨v,dd,mv⟩:=i;have hln:((done ++ (v,dd,mv) :: items.drop (k+1)).map (·.1)).length=ah.length:=by
        have:=HL0.out;simp [hd];omega
       have hgt:((done ++ (v,dd,mv) :: items.drop (k+1)).map (·.1)).getD k (0,0)=v:=by simp [List.getD,hd]
       obtain ⟨_,_,e',hrd,_,_⟩:=hm.hS.hr.rd;rw [hln] at e';cases e';obtain ⟨g,o,rfl,hgl,d0,d1⟩:=hrd.fP k (by omega);rw [hgt] at d0 d1;have f0:=hm.h0.cell 0;have f1:=hm.h0.cell 1;have fl:=hm.h0.lt;have r1:=hm.h1.cell k;have r1l:=hm.h1.lt;have r2:=hm.h2.cell k;have r2l:=hm.h2.lt;simp only [eH.cells,Lz,aC] at f0 f1;have hgk:(done ++ (v,dd,mv) :: items.drop (k+1))[k]? = some (v,dd,mv):=by simp [hd]
       rw [List.getElem?_map,hgk] at r1 r2;simp only [Option.map_some] at r1 r2;have fz:=hm.h2.free k;have hvd:=hm.hr (v,dd,mv) (by simp);have KM:=Hz hm;have KD:=Hz hd;have KDR:=Hz hdr;have KN:=Hz hN;have KE:=Hz hE;have KV:=Hz hvd;have KL:=Hz hln;clear hm hd hdr hN hE hgt hrd hgk hvd hln;have SKIP:Hid (∀ w2,aa (fun _=>False) wr w2→((dd && !mv) && L.alive t2 v.1)=false→iE L w F (.slice (some ⟨g,o,none⟩) ah.length rc) wv w.heap.size (w.heap.size+1) b2 t' q' items (wait.length+ah.length) w2 (k+1) more):=fun w2 h1 h2=>iE.skip KD.out KDR.out KM.out KN.out KE.out h1 h2;cases dd
       ·go_wp2_with fail;go_roundw
        case rel=>exact ⟨k+1,more,by omega,by go_num,rfl,SKIP.out _ ((aa.refl _ _).alloc _) rfl⟩
        case measure=>simp [intOf];omega
       ·cases mv
        ·go_wp2_with fail;have hk0:=(Kz wr).alloc (.cells #[Value.int IntKind.i64 v.fst,Value.int IntKind.i64 v.snd] 101);refine (L.cS _ t2 F2 v.1 (L.J_keep KM.out.hJ hk0 (fun _ _ h=>h)) KV.out.1).mono ?_;rintro e w1 ⟨rfl,hk1⟩;have KK1:=Hz (hk0.trans hk1);have KE1:=Hz (hk1.aq (aj.newAt (w:=wr) _ rfl rfl) (fun h=>h));cases ha:L.alive t2 v.1
         ·clear hk0 hk1;go_wp2_with fail;go_roundw
          case rel=>exact ⟨k+1,more,by omega,by go_num,rfl,SKIP.out _ KK1.out (by rw [ha];rfl)⟩
          case measure=>simp [intOf];omega
         ·have hm1:=KM.out.ab KK1.out;have hm2:=hm1.move;rw [KD.out] at hm2;clear f0 f1 fl r1 r1l r2 r2l fz d0 d1 hk0 hk1;have r2:=hm1.h2.cell k;have r2l:=hm1.h2.lt;have hgk:(done ++ (v,true,false) :: items.drop (k+1))[k]? = some (v,true,false):=by simp [KD.out]
          rw [List.getElem?_map,hgk] at r2;simp only [Option.map_some] at r2;have fz:=hm1.h2.free k;have f1:=hm1.h0.cell 1;have fl:=hm1.h0.lt;simp only [eH.cells,Lz,aC] at f1;have e1:=KE1.out.cell 1;have el:=KE1.out.lt;simp only [Lz,aC] at e1;have hbe:b2<wr.heap.size:=KM.out.h2.lt;have hbl0:w.heap.size<wr.heap.size:=KM.out.h0.lt;have hr0:=HR0.out;have hr1:w.heap.size≠b2:=by omega
          have KM2:=Hz hm2;clear hm1 hm2 hgk;go_wp2_with fail;refine (L.keep_c _ t2 F2 _ v2 _ q2 v.2 KM2.out.hJ KM2.out.hS KM2.out.hA KV.out.2 KM2.out.hq (by have:=KN.out;omega)).mono ?_;rintro e w4 ⟨rfl,F4,hJ4,hS4,hA4,hk4,hF4⟩;have hm4:=KM2.out.kept KV.out.2 hJ4 hS4 hA4 hk4 hF4;have hlen:(L.ab t2 q2 v.2).2.1.length=q2.length:=L.keep_len;have hql:(L.ab t2 q2 v.2).2.1.length≤200000:=by have:=KN.out;omega
          have hdn:=L.D_new (wait:=q2) KV.out.2;have hdg:=L.D_keep (wait:=q2) KV.out.2 KV.out.1;have hb4:=hk4.aq ((KE1.out).dO (a:=⟨b2,k,none⟩) (by show wr.heap.size≠b2;omega) (.bool true)) (by
           rintro (h | h)
           ·have:=L.J_lt KM.out.hJ h;omega
           ·have:=KM.out.hS.jN h;omega)
          obtain ⟨wo,wc,rfl,_,_,_⟩:=hm4.hS.hw.rd;clear hJ4 hS4 hA4 hk4 hF4 hlen f1 fl r2 r2l fz e1 el;generalize hr:L.ab t2 q2 v.2=r at *;have KR:=Hz hr;have KM4:=Hz hm4;have KDN:Hid (L.D r.1 v.1∧L.D r.1 r.2.2):=⟨hdg,hdn⟩;have KB4:=Hz hb4;have p1:=hm4.hS.hp.cell 1;have pl1:=hm4.hS.hp.lt;have e0:=hb4.cell 0;have el:=hb4.lt;have fz:=hm4.hS.hp.free 1;simp only [Lz,aC] at p1 e0;clear hr hm4 hdn hdg hb4;go_wp2_with fail;refine ct [(0,0),(1,0),(2,0),(3,0),(5,0),(7,0),(4,0),(6,0),(8,0),(9,1),(10,1),(11,0),(12,0),(13,2)] (fun w'=>w'.cell? ⟨p,1,none⟩=some (.slice wo r.2.1.length wc)∧w'.cell? ⟨wr.heap.size,0,none⟩=some (.int .i64 v.1)) (by kernel_rfl) (by kernel_rfl) ⟨p1,e0⟩ ?_
          iterate 9 (refine bj rfl rfl _ (fun w' hG=>by obtain ⟨g0,g1⟩:=hG;go_simp;exact bu.mk _ _) (fun K hK=>?_);go_simp;refine hK _ ?_;clear hK K)
          refine bx rfl rfl (fun K hK=>?_);unfold aw;go_simp;refine hK _ _ ?_ ?_
          ·have k:=(Kz w4).alloc (.cells #[.int .i64 v.1, .int .i64 r.2.2] 101);exact ⟨(k.aq KM4.out.hS.hp (fun h=>h)).cell 1,(k.aq KB4.out (fun h=>h)).cell 0⟩
          clear hK K;refine bx rfl rfl (fun K hK=>?_);refine dF (.tmp 91) (.tmp 96) 131 rfl 101 ie (.agg #[.int .i64 0, .int .i64 0]) 2 16 Tryz.underlying131 Hi.out Hz0.out Hz1.out Hz2.out rfl (by decide) _ r.2.1.length (aE r.2.1) rfl ?ha ⟨w4.heap.size,0,none⟩ 1 1 [.int .i64 v.1, .int .i64 r.2.2] rfl rfl ?hb ?hc ?hd ?he ?hf
          case ha=>exact KM4.out.hS.hw.ab (((Kz w4).alloc _).drew) (fun _ _ h=>h)
          case hb=>exact bX w4 101 #[.int .i64 v.1, .int .i64 r.2.2]
          case hc=>intro u hu;simp at hu;rcases hu with rfl | rfl <;> rfl
          case hd=>unfold maxLen;omega
          case he=>omega
          case hf=>
           intro v5 w5 hs5 hk5 ho5;have hka:aa (fun _=>False) w4 ((w4.alloc (.cells #[.int .i64 v.1, .int .i64 r.2.2] 101)).drew):=((Kz w4).alloc _).drew;have hm5:=KM4.out.ab hka;have hp5:=hk5.aq hm5.hS.hp hm5.hS.pw;have hb5:=hk5.aq (hka.aq KB4.out (fun h=>h)) (fun h=>by
            have:=(KM.out.hS.hw.own h).1
            omega)
           refine hK _ _ ⟨hp5.cell 1,hb5.cell 0⟩ ?_;clear hK K;have hs6:Sl w5 101 2 v5 (r.2.1 ++ [(v.1,r.2.2)]).length (aE (r.2.1 ++ [(v.1,r.2.2)])):=by simpa [aE] using hs5
           obtain ⟨vo,vc,rfl,_,_,_⟩:=hs6.rd;have KM6:=Hz (hm5.app (e:=(v.1,r.2.2)) KDN.out hs6 hk5 ho5);have d0:=hp5.cell 1;have dl:=hp5.lt;have f0:=hp5.free 1;simp only [Lz,aC] at d0;rw [List.length_append] at KM6;clear hs5 hk5 ho5 hka hm5 hp5 hb5 hs6 p1 pl1 e0 el fz
           iterate 2 (refine bj rfl rfl _ (fun w' hG=>by obtain ⟨g0,g1⟩:=hG;go_simp;exact bu.mk _ _) (fun K hK=>?_);go_simp;refine hK _ ?_;clear hK K)
           refine kr rfl rfl (fun K hK=>?_);unfold aw;go_simp;refine hK _ _ ?_;clear hK K;refine dv ?_;go_wp2_with fail;go_roundw
           case rel=>exact ⟨k+1,true,by omega,by go_num,rfl,iE.yI KD.out KN.out KE.out (by rw [KR.out];exact KM6.out) (by rw [ha];rfl)⟩
           case measure=>simp [intOf];omega
        ·go_wp2_with fail;go_roundw
         case rel=>exact ⟨k+1,more,by omega,by go_num,rfl,SKIP.out _ ((aa.refl _ _).alloc _) rfl⟩
         case measure=>simp [intOf];omega
      ·obtain rfl:k=ah.length:=by omega
       obtain ⟨done,hmi,h1,h2,h3⟩:=lB.next GF.out hun GE2.out hsc
       have HMI:=Hz hmi;have hc2:=mX h3;have HC2:=Hz hc2;clear hmi h3 hsc hc2;go_wp2_with fail;go_roundw
       case rel=>exact ⟨more,done,rfl,HMI.out⟩
       case measure=>
        rw [HCN.out,HC2.out];cases more
        ·show 2*cH done+0<2*cH items+1
         omega
        ·have:=h2 rfl
         show 2*cH done+1<2*cH items+1
         omega
end
end Go.Proofs.YtjifdalflepcoacGreat
