/-
  Parts of the proof, merged: what the functions do, and plain laws.
-/
import Derived.Test.YtjifdalflepcoabGGBP1
import Derived.Test.YtjifdalflepcoabGGBP0
set_option maxHeartbeats 16000000
set_option maxRecDepth 100000
set_option linter.unusedVariables false
set_option linter.unusedSimpArgs false
namespace Go.Proofs.Ytjifdalflepcoab
section
open Go.RowKit
variable {τ:Type}
def fA (alive:τ→Int→Bool) (t:τ) (regs:List (Int × Int)) (k:Nat):List Value:=((regs.take k).map fun e=>.bool (!alive t e.2)) ++ List.replicate (regs.length-k) (.bool false)
theorem pk {alive:τ→Int→Bool} {t:τ} {regs:List (Int × Int)} {k:Nat} (h:k<regs.length):fA alive t regs (k+1)=(fA alive t regs k).set k (.bool (!alive t (regs.getD k (0,0)).2)):=by
 unfold fA;rw [List.take_succ_eq_append_getElem h,List.map_append,List.set_append_right _ _ (by simp;omega)];have hr:List.replicate (regs.length-k) (Value.bool false)=.bool false :: List.replicate (regs.length-(k+1)) (.bool false):=by
  rw [show regs.length-k=(regs.length-(k+1))+1 by omega,List.replicate_succ]
 rw [hr];have hg:regs.getD k (0,0)=regs[k]:=by simp [List.getD,h]
 rw [hg];have h0:k-(List.map (fun e=>Value.bool (!alive t e.2)) (regs.take k)).length=0:=by simp;omega
 rw [h0];simp
theorem mA {alive:τ→Int→Bool} {t:τ} {regs:List (Int × Int)} {k:Nat} (h:k≤regs.length):(fA alive t regs k).length=regs.length:=by
 unfold fA;simp;omega
theorem n8 (alive:τ→Int→Bool) (t:τ) (regs:List (Int × Int)):fA alive t regs regs.length=(bY alive t regs).map fun i=>.bool i.2.1:=by
 unfold fA bY;simp
theorem kA (alive:τ→Int→Bool) (t:τ) (regs:List (Int × Int)):(bY alive t regs).map (·.1)=regs:=by
 simp [bY,List.map_map,Function.comp_def]
theorem lz (alive:τ→Int→Bool) (t:τ) (regs:List (Int × Int)):ck (bY alive t regs)=regs.length:=by
 unfold bY ck;rw [List.filter_map,List.length_map];congr 1;apply List.filter_eq_self.2;intro a _;rfl
theorem mB (alive:τ→Int→Bool) (t:τ) (regs:List (Int × Int)):List.replicate regs.length (Value.bool false)=(bY alive t regs).map fun i=>.bool i.2.2:=by
 unfold bY;rw [List.map_map];apply List.ext_getElem (by simp);intro i h1 h2;simp
def bit (v:Value):Nat:=match v with | .bool true=>1 | _=>0
theorem mC {alive:τ→Int→Bool} {now:τ→Int→Int} {t:τ} {l:List It} {k:Nat} (h:k<l.length):bR alive now t (l.take (k+1))=bR alive now t (l.take k) ++ if (!l[k].2.1 && alive t l[k].1.1)=true then [(now t l[k].1.1,now t l[k].1.2)] else []:=by
 unfold bR;rw [List.take_succ_eq_append_getElem h,List.filter_append,List.map_append];congr 1;cases hc:(!l[k].2.1 && alive t l[k].1.1) <;> simp [List.filter_cons,hc]
theorem n9 {alive:τ→Int→Bool} {now:τ→Int→Int} {t:τ} {l:List It}:(bR alive now t l).length≤l.length:=by
 unfold bR;rw [List.length_map];exact List.length_filter_le _ _
theorem mD {alive:τ→Int→Bool} {now:τ→Int→Int} {t:τ} {l:List (Int × Int)} {k:Nat} (h:k<l.length):bG alive now t (l.take (k+1))=bG alive now t (l.take k) ++ if alive t (l.getD k (0,0)).1=true then [(now t (l.getD k (0,0)).1,now t (l.getD k (0,0)).2)] else []:=by
 have hg:l.getD k (0,0)=l[k]:=by simp [List.getD,h]
 rw [hg];unfold bG;rw [List.take_succ_eq_append_getElem h,List.filter_append,List.map_append];congr 1;cases hc:alive t l[k].1 <;> simp [List.filter_cons,hc]
theorem oc {alive:τ→Int→Bool} {now:τ→Int→Int} {t:τ} {l:List (Int × Int)}:(bG alive now t l).length≤l.length:=by
 unfold bG;rw [List.length_map];exact List.length_filter_le _ _
def eL (w wr:World) (v:Value) (l:List (Int × Int)):Prop:=Sl wr 170 2 v l.length (aC l)∧aa (fun _=>False) w wr∧∀ b,ag v b→w.heap.size≤b
theorem eL.nil (w:World):eL w w (.slice none 0 0) []:=⟨Sl.nil w 170 2,aa.refl _ _,by intro k hk;simp [ag,Value.ownBlock] at hk⟩
theorem eL.ae {w wr w2:World} {v:Value} {l:List (Int × Int)} (h:eL w wr v l) (k:aa (fun _=>False) wr w2):eL w w2 v l:=⟨h.1.ae k (fun _ _ h=>h),h.2.1.trans k,h.2.2⟩
theorem eL.app {w wr w1 w2:World} {v v2:Value} {l:List (Int × Int)} {e:Int × Int} (h:eL w wr v l) (k1:aa (fun _=>False) wr w1) (hs:Sl w2 170 2 v2 (l.length+1) (aC l ++ [.int .i64 e.1, .int .i64 e.2])) (hk:aa (ag v) w1 w2) (ho:∀ b,ag v2 b→ag v b∨w1.heap.size≤b):eL w w2 v2 (l ++ [e]):=by
 refine ⟨by simpa [aC] using hs,(h.2.1.trans k1).then hk (fun b hb=>.inr (h.2.2 b hb)),fun b hb=>?_⟩;rcases ho b hb with h1 | h1
 ·exact h.2.2 b h1
 ·exact Nat.le_trans (Nat.le_trans h.2.1.size k1.size) h1
end
section
open Go.RowKit
variable {gx:GX}
variable {τ:Type}
def gd {P:Program} {p:Nat} (L:c8 gx P p τ) (t:τ) (F:Nat→Prop) (rv wv:Value) (regs wait:List (Int × Int)) (w:World) (e:Ending) (w':World):Prop:=
 e=.returned (.tuple #[])∧∃ F' rv' wv',L.J w' (ec L.alive L.ae t regs wait).1 F' ∧
  aZ gx w' p rv' wv' (bR L.alive L.now (ec L.alive L.ae t regs wait).1 (ec L.alive L.ae t regs wait).2.2) (bG L.alive L.now (ec L.alive L.ae t regs wait).1 (ec L.alive L.ae t regs wait).2.1) ∧
  fy F' p rv' wv'∧aa (fun b=>F b∨aR p rv wv b) w w'∧(∀ b,F' b→F b∨w.heap.size≤b)∧(∀ b,aR p rv' wv' b→aR p rv wv b∨w.heap.size≤b)
def fO {P:Program} {p:Nat} (L:c8 gx P p τ) (w:World) (F:Nat→Prop) (rv wv:Value) (b0 b1 b2:Nat) (t:τ) (regs wait:List (Int × Int)) (N:Nat) (wr:World) (more:Bool) (items:List It):Prop:=
 ∃ n t' q' F' wv',ey L w F rv wv b0 b1 b2 items q' t' F' wv' wr∧items.map (·.1)=regs∧q'.length+ck items≤N∧(more=true→ck items<n) ∧
  ec L.alive L.ae t regs wait=if more then roundsM L.alive L.ae n t' q' items else (t',q',items)
theorem fO.start {P:Program} {p:Nat} {L:c8 gx P p τ} {w:World} {F:Nat→Prop} {rv wv:Value} {t:τ} {regs wait:List (Int × Int)} {wr wm:World}
  (hJ:L.J w t F) (h:aZ gx w p rv wv regs wait) (hap:fy F p rv wv) (hD1:∀ e ∈ regs,(L.D t e.1∧L.DK t e.2)∧L.Q e) (hD:∀ e ∈ wait,(L.D t e.1∧L.D t e.2)∧L.Q e)
  (hk:aa (fun b=>w.heap.size≤b) w wr) (h0:ah wr w.heap.size L.cells 178) (h1:ah wr (w.heap.size+1) (fA L.alive t regs regs.length) 4)
  (hkm:aa (fun _=>False) wr wm) (h2:ah wm wr.heap.size (List.replicate regs.length (.bool false)) 4):fO L w F rv wv w.heap.size (w.heap.size+1) wr.heap.size t regs wait (wait.length+regs.length) wm true (bY L.alive t regs):=by
 have k2:aa (fun b=>w.heap.size≤b) w wm:=hk.trans (hkm.mono fun _ _ h=>h.elim);have l1:=h1.lt;have hF:∀ b,w.heap.size≤b→¬ F b:=fun b hb hf=>by have:=L.J_lt hJ hf;omega
 refine ⟨regs.length+1,t,wait,F,wv,⟨L.J_keep hJ k2 (fun b hb hw=>hF b hw hb),?_,hap,?_,fun b hb=>.inl hb,fun b hb=>.inl hb,hkm.ai h0 (fun h=>h),?_,?_,hF _ (Nat.le_refl _),hF _ (by omega),hF _ (by omega),Nat.le_refl _,by omega,by omega,by omega,hD,?_⟩,kA _ _ _,?_,?_,?_⟩
 ·rw [kA];exact h.ae k2 (fun b hb hw=>by have:=h.lJ hb;omega)
 ·exact ⟨k2.os,k2.tape,k2.output,k2.size,fun b hb hn=>k2.block b hb (by omega)⟩
 ·rw [←n8];exact hkm.ai h1 (fun h=>h)
 ·rw [←mB];exact h2
 ·intro i hi;unfold bY at hi;simp only [List.mem_map] at hi;obtain ⟨e,he,rfl⟩:=hi;exact hD1 e he
 ·rw [lz];exact Nat.le_refl _
 ·intro _;rw [lz];omega
 ·rfl
theorem fO.next {P:Program} {p:Nat} {L:c8 gx P p τ} {w:World} {F:Nat→Prop} {rv wv:Value} {b0 b1 b2:Nat} {t:τ} {regs wait:List (Int × Int)} {N n:Nat} {t':τ} {q':List (Int × Int)} {items:List It} {w2:World} {more:Bool}
  (hf:items.map (·.1)=regs) (hn:ck items<n) (he:ec L.alive L.ae t regs wait=roundsM L.alive L.ae n t' q' items) (hs:dT L w F rv wv b0 b1 b2 t' q' items N w2 regs.length more) :
  ∃ done,fO L w F rv wv b0 b1 b2 t regs wait N w2 more done∧ck done≤ck items∧(more=true→ck done<ck items)∧ah w2 b2 (done.map fun i=>.bool i.2.2) 4:=by
 obtain ⟨t2,q2,F2,v2,done,hd,hm,hN,hE⟩:=hs;have hl:items.length=regs.length:=by rw [←hf];simp
 rw [←hl,List.drop_length,List.append_nil] at hm hN;rw [←hl,List.drop_length] at hE;simp only [scanM,List.append_nil,Bool.or_false] at hE;obtain ⟨m,rfl⟩:∃ m,n=m+1:=⟨n-1,by omega⟩;have hu:=jU L.alive L.ae items t' q';have hfs:=eX L.alive L.ae items t' q';rw [hE] at hu hfs;simp only at hu hfs;refine ⟨done,⟨m,t2,q2,F2,v2,hm,?_,hN,fun h=>by have:=hu.2 h;omega,?_⟩,hu.1,hu.2,hm.h2⟩
 ·have:=congrArg (List.map (fun x:(Int × Int) × Bool=>x.1)) hfs;simp only [List.map_map] at this;rw [←hf];exact this
 ·rw [he];simp only [roundsM,hE]
theorem gd.done {P:Program} {p:Nat} {L:c8 gx P p τ} {w:World} {F:Nat→Prop} {rv wv:Value} {b0 b1 b2:Nat} {t:τ} {regs wait:List (Int × Int)} {t':τ} {q':List (Int × Int)} {items:List It} {F':Nat→Prop} {wv':Value} {wr w1 w2:World} {v1 v2:Value}
  (he:ec L.alive L.ae t regs wait=(t',q',items)) (h:ey L w F rv wv b0 b1 b2 items q' t' F' wv' wr) (n1:eL wr w1 v1 (bR L.alive L.now t' items)) (n2:eL w1 w2 v2 (bG L.alive L.now t' q')) :
  gd L t F rv wv regs wait w (.returned (.tuple #[])) ((w2.setCell ⟨p,2,none⟩ v1).setCell ⟨p,3,none⟩ v2):=by
 have hm2:=(h.ae n1.2.1).ae n2.2.1;have kset:=((aa.refl (·=p) w2).setCell (p:=⟨p,2,none⟩) (.inl rfl) v1).setCell (p:=⟨p,3,none⟩) (.inl rfl) v2;have hpl:=h.hS.hp.lt;have s1:=n1.2.1.size;have s0:=h.hK.size;have o1:¬ ag v1 p:=fun hb=>by have:=n1.2.2 p hb;omega
 have o2:¬ ag v2 p:=fun hb=>by have:=n2.2.2 p hb;omega
 unfold gd;rw [he];refine ⟨rfl,F',v1,v2,L.J_keep hm2.hJ kset (by rintro b hb rfl;exact h.hA b ⟨hb, .inl rfl⟩),⟨by simpa using (hm2.hS.hp.aF 2 v1).aF 3 v2,(n1.1.ae n2.2.1 (fun _ _ h=>h)).ae kset (by rintro b hb rfl;exact o1 hb),n2.1.ae kset (by rintro b hb rfl;exact o2 hb),?_⟩,?_,
  (hm2.hK.setCell (p:=⟨p,2,none⟩) (.inl (.inr (.inl rfl))) v1).setCell (p:=⟨p,3,none⟩) (.inl (.inr (.inl rfl))) v2,h.hF,?_⟩
 ·rintro b ⟨h1,h2⟩;have:=(n1.1.own h1).1;have:=n2.2.2 b h2;omega
 ·rintro b ⟨h1,h2 | h2 | h2⟩
  ·exact h.hA b ⟨h1, .inl h2⟩
  ·have:=L.J_lt h.hJ h1;have:=n1.2.2 b h2;omega
  ·have:=L.J_lt h.hJ h1;have:=n2.2.2 b h2;omega
 ·rintro b (h1 | h1 | h1)
  ·exact .inl (.inl h1)
  ·have:=n1.2.2 b h1;exact .inr (by omega)
  ·have:=n2.2.2 b h1;exact .inr (by omega)
theorem pn (p:Nat) (L:c8 gx Try.prog p τ) (t:τ) (F:Nat→Prop) (rv wv:Value) (regs wait:List (Int × Int)) (w:World)
  (hJ:L.J w t F) (h:aZ gx w p rv wv regs wait) (hap:fy F p rv wv) (hl1:regs.length≤100000) (hl2:wait.length≤100000) (hD1:∀ e ∈ regs,(L.D t e.1∧L.DK t e.2)∧L.Q e) (hD:∀ e ∈ wait,(L.D t e.1∧L.D t e.2)∧L.Q e) :
  Calls Try.prog 120 #[.pointer (some ⟨p,2,none⟩),L.val] w fun e w'=>gd L t F rv wv regs wait w e w':=by
 obtain ⟨ie,hie,hez0,hez1,hez2⟩:=info_parts gw;have Hi:=Hz hie;have Hz0:=Hz hez0;have Hz1:=Hz hez1;have Hz2:=Hz hez2;clear hie hez0 hez1 hez2;obtain ⟨ib,hi,hz0,hz1,hz2⟩:=info_parts gX;have hmk:=fun (wx:World) (n:Nat) (h1:n≤9223372036854775807) (h2:n≤281474976710656)=>cR (P:=Try.prog) wx 76 4 ib (.bool false) Try.underlying76 hi hz0 rfl hz1 n (by rw [hz2];omega) h1;have HM:=Hz hmk;clear hmk hi hz0 hz1 hz2;have hk:=fun (wx:World)=>HM.out wx regs.length (by omega) (by omega);obtain ⟨ro,rc,rfl,hrd,_,_⟩:=h.hr.rd;have c0:=h.hp.cell 2;simp only [Lz,Ls] at c0;have hpl:=h.hp.lt;have H:=Hz h;have HR:=Hz hrd;have HJ:=Hz hJ;have HA:=Hz hap;have HD:=Hz hD;have HD1:=Hz hD1;clear h hrd hJ hap hD hD1;have ea:=L.ea;have ek:=L.ek;have en:=L.en;generalize hbox:w.alloc (.cells #[.func (.func L.fa) L.a1 L.a2, .func (.func L.fk) L.k1 L.k2, .func (.func L.fn) L.n1 L.n2] 178)=wb;have hkb:aa (fun _=>False) w wb:=by rw [←hbox];exact (aa.refl _ _).alloc _
 have hbb:ah wb w.heap.size L.cells 178:=by rw [←hbox];exact ah.newAt _ rfl rfl
 have hszb:wb.heap.size=w.heap.size+1:=by rw [←hbox];simp
 have HKB:=Hz hkb;have HBB:=Hz hbb;have HSZ:=Hz hszb;have HBX:=Hz hbox;clear hkb hbb hszb hbox;generalize hwd:wb.alloc (.cells (Array.replicate regs.length (.bool false)) 4)=wd;have hkd:aa (fun _=>False) wb wd:=by rw [←hwd];exact (aa.refl _ _).alloc _
 have hbd:ah wd (w.heap.size+1) (fA L.alive t regs 0) 4:=by rw [←hwd];exact ah.newAt _ HSZ.out.symm (by simp [fA])
 have HKD:=Hz hkd;have HBD:=Hz hbd;have HWD:=Hz hwd;clear hkd hbd hwd;unfold c8.val;go_enter Try.func120,Try.ntmps120;go_wp2_with fail;rw [HBX.out,HWD.out];go_loopw [29] (fun i wr=>∃ k:Nat,k≤regs.length∧i=.int .i64 k∧ah wr (w.heap.size+1) (fA L.alive t regs k) 4∧aa (·=w.heap.size+1) wd wr) (fun i _=>regs.length-(intOf i).toNat)
 case atStart=>exact ⟨0,Nat.zero_le _,rfl,HBD.out,aa.refl _ _⟩
 case round=>
  obtain ⟨k,hkl,rfl,hbl,hkr⟩:=hrel;have HBL:=Hz hbl;have HKR:=Hz hkr;have hkw:aa (fun b=>w.heap.size≤b) w wr:=((HKB.out.trans HKD.out).mono fun _ _ h=>h.elim).trans (hkr.mono (by rintro b _ rfl;omega));have hkn:∀ b,b<w.heap.size→¬ (w.heap.size≤b):=fun b h=>by omega
  have HKW:=Hz hkw;have HKN:=Hz hkn;clear hbl hkr hkw hkn;by_cases hlt:k<regs.length
  ·have hrd:=HR.out.ae HKW.out (fun a _ h=>HKN.out _ h);obtain ⟨g,o,rfl,hgl,d0,d1⟩:=hrd.dA k hlt;have hvd0:=(HD1.out (regs.getD k (0,0)) (by simp [List.getD,hlt])).1;have hvd:=And.intro hvd0.1 (L.DK_D hvd0.2);clear hvd0;have HDS:=Hz (pk (alive:=L.alive) (t:=t) hlt);generalize regs.getD k (0,0)=v at *;have hbx:ah wr w.heap.size L.cells 178:=HKR.out.ai (HKD.out.ai HBB.out (fun h=>h)) (by omega);have HX:=Hz hbx;have HV:=Hz hvd;have b0:=hbx.cell 0;have bl:=hbx.lt;simp only [c8.cells,Lz] at b0;clear hrd hvd hbx;go_wp2_with fail;have hk0:=(Kz wr).alloc (.cells #[Value.int IntKind.i64 v.fst,Value.int IntKind.i64 v.snd] 170);refine (L.alive_c _ t F v.2 (L.J_keep HJ.out (HKW.out.trans (hk0.mono fun _ _ h=>h.elim)) (fun b h=>HKN.out b (L.J_lt HJ.out h))) HV.out.2).mono ?_;rintro e w1 ⟨rfl,hk1⟩;have HB1:=Hz (hk1.ai (hk0.ai HBL.out (fun h=>h)) (fun h=>h));have HK1:=Hz (HKR.out.trans ((hk0.trans hk1).mono fun _ _ h=>h.elim));clear hk0 hk1;obtain ⟨aV,q0⟩:∃ aV,w1.cell? ⟨w.heap.size+1,k,none⟩=some aV:=⟨_,by rw [HB1.out.cell,Le (by rw [mA (Nat.le_of_lt hlt)];exact hlt)]⟩;have qf:=HB1.out.free k;have ql:=HB1.out.lt;go_wp2_with fail;go_roundw
   case rel=>exact ⟨k+1,by omega,by go_num,by rw [HDS.out];exact HB1.out.aF k _,HK1.out.setCell (p:=⟨w.heap.size+1,k,none⟩) (.inl rfl) _⟩
   case measure=>simp [intOf];omega
  ·obtain rfl:k=regs.length:=by omega
   have p0:=(HKW.out.ai H.out.hp (HKN.out _ hpl)).cell 2;have pl:=(HKW.out.ai H.out.hp (HKN.out _ hpl)).lt;simp only [Lz,Ls] at p0;have hbx:ah wr w.heap.size L.cells 178:=HKR.out.ai (HKD.out.ai HBB.out (fun h=>h)) (by omega);generalize hwm:wr.alloc (.cells (Array.replicate regs.length (.bool false)) 4)=wm;have hst:=fO.start (wm:=wm) HJ.out H.out HA.out HD1.out HD.out HKW.out hbx HBL.out (by rw [←hwm];exact (aa.refl _ _).alloc _) (by rw [←hwm];exact ah.newAt _ rfl (by simp));have hr0:w.heap.size+2≤wr.heap.size:=HBL.out.lt;have HST:=Hz hst;have HWM:=Hz hwm;have HR0:=Hz hr0;clear hst hwm hbx hr0;go_wp2_with fail;rw [HWM.out];generalize wr.heap.size=b2 at *;go_loopw [8] (fun v wx=>∃ more items,v=.bool more∧fO L w F (.slice ro regs.length rc) wv w.heap.size (w.heap.size+1) b2 t regs wait (wait.length+regs.length) wx more items) (fun v wx=>2*cntF wx b2+bit v)
   case atStart=>exact ⟨true,_,rfl,HST.out⟩
   case round=>
    obtain ⟨more,items,rfl,n,t',q',F',wv',hm,hf,hN,hun,he⟩:=hrel;have GM:=Hz hm;have GF:=Hz hf;have GN:=Hz hN;have GU:=Hz hun;have GE:=Hz he;have hsr:=hm.hS;rw [hf] at hsr;have GS:=Hz hsr;have x0:=hm.hS.hp.cell 2;have xl:=hm.hS.hp.lt;simp only [Lz,Ls] at x0;have hbl:=Nat.le_trans (Nat.le_refl _) hm.h2.lt;have hcn:=mz hm.h2;have HCN:=Hz hcn;clear hm hf hN hun he hsr hcn p0 pl c0 HST;have p0:=x0;clear x0;cases more
    ·have he:=GE.out;simp only [Bool.false_eq_true,if_false] at he;have GE2:=Hz he;clear he GE;go_wp2_with fail;go_loopw [12,106] (fun v i wx=>∃ (k:Nat),k≤regs.length∧i=.int .i64 k∧eL wr wx v (bR L.alive L.now t' (items.take k))) (fun _ i _=>regs.length-(intOf i).toNat)
     case atStart=>exact ⟨0,Nat.zero_le _,rfl,eL.nil wr⟩
     case round=>
      obtain ⟨k,hk,rfl,hnl⟩:=hrel;have KNL:=Hz hnl;have hmk:=GM.out.ae hnl.2.1;have hil:items.length=regs.length:=by rw [←GF.out];simp
      clear hnl;by_cases hlt:k<regs.length
      ·have hki:k<items.length:=by omega
       have hst:=mC (alive:=L.alive) (now:=L.now) (t:=t') hki;have hvd0:=(hmk.hr items[k] (List.getElem_mem hki)).1;have hvd:=And.intro hvd0.1 (L.DK_D hvd0.2);clear hvd0;have hgk:items[k]? = some items[k]:=Le hki;have hfs:regs.getD k (0,0)=items[k].1:=by rw [←GF.out];simp [List.getD,hki]
       have hsr:=hmk.hS;rw [GF.out] at hsr;obtain ⟨_,_,e',hrd,_,_⟩:=hsr.hr.rd;cases e';obtain ⟨g,o,rfl,hgl,d0,d1⟩:=hrd.dA k hlt;rw [hfs] at d0 d1;have f0:=hmk.h0.cell 0;have fl:=hmk.h0.lt;have r1:=hmk.h1.cell k;have r1l:=hmk.h1.lt;rw [List.getElem?_map,hgk] at r1;simp only [Option.map_some] at r1;simp only [c8.cells,Lz,Ls] at f0;have hle:(bR L.alive L.now t' (items.take k)).length≤100000:=Nat.le_trans n9 (Nat.le_trans (List.length_take_le _ _) (by omega));generalize items[k]=i at *;obtain ⟨v,dd,mv⟩:=i;have KM:=Hz hmk;have KST:=Hz hst;have KV:=Hz hvd;have KLE:=Hz hle;clear hmk hst hvd hgk hfs hsr hrd hle;cases dd
       ·go_wp2_with fail;have hk0:=(Kz wr).alloc (.cells #[Value.int IntKind.i64 v.fst,Value.int IntKind.i64 v.snd] 170);refine (L.alive_c _ t' F' v.1 (L.J_keep KM.out.hJ hk0 (fun _ _ h=>h)) KV.out.1).mono ?_;rintro e w1 ⟨rfl,hk1⟩;have KK1:=Hz (hk0.trans hk1);have KE1:=Hz (hk1.ai (ah.newAt (w:=wr) _ rfl rfl) (fun h=>h));clear hk0 hk1;cases ha:L.alive t' v.1
        ·go_wp2_with fail;go_roundw
         case rel=>exact ⟨k+1,by omega,by go_num,by rw [KST.out,ha];simpa using KNL.out.ae KK1.out⟩
         case measure=>simp [intOf];omega
        ·have hm1:=KM.out.ae KK1.out;clear f0 fl r1 r1l d0 d1;have f2:=hm1.h0.cell 2;have e0:=KE1.out.cell 0;have e1:=KE1.out.cell 1;simp only [c8.cells,Lz,Ls] at f2 e0 e1;clear hm1;go_wp2_with fail;refine cI [(0,0),(1,0),(3,0),(6,0),(8,0),(2,0),(4,0),(7,0),(9,0),(5,1),(10,1),(11,0),(12,1),(13,1),(14,0)] (fun w'=>w'.cell? ⟨w.heap.size,2,none⟩=some (.func (.func L.fn) L.n1 L.n2)∧w'.cell? ⟨wr.heap.size,0,none⟩=some (.int .i64 v.1)∧w'.cell? ⟨wr.heap.size,1,none⟩=some (.int .i64 v.2)) (by kernel_rfl) (by kernel_rfl) ⟨f2,e0,e1⟩ ?_
         iterate 9 (refine bj rfl rfl _ (fun w' hG=>by obtain ⟨g0,g1,g2⟩:=hG;go_simp;exact bA.mk _ _) (fun K hK=>?_);go_simp;refine hK _ ?_;clear hK K)
         refine bF rfl rfl (fun K hK=>?_);unfold aM;go_simp;have kd1:aa (fun _=>False) wr w1.drew:=KK1.out.trans ((aa.refl _ w1).drew);refine (L.now_c _ t' F' v.1 (KM.out.ae kd1).hJ KV.out.1).mono ?_;rintro e w2 ⟨rfl,hk2⟩;have kd2:=kd1.trans hk2;have be2:=hk2.ai (KE1.out.drew) (fun h=>h);refine hK _ _ ⟨(KM.out.ae kd2).h0.cell 2,be2.cell 0,be2.cell 1⟩ ?_;clear hK K;refine bF rfl rfl (fun K hK=>?_);unfold aM;go_simp;refine (L.now_c _ t' F' v.2 (KM.out.ae kd2).hJ KV.out.2).mono ?_;rintro e w3 ⟨rfl,hk3⟩;have kd3:=kd2.trans hk3;have be3:=hk3.ai be2 (fun h=>h);refine hK _ _ ⟨(KM.out.ae kd3).h0.cell 2,be3.cell 0,be3.cell 1⟩ ?_;clear hK K;have KD3:=Hz kd3;have KB3:=Hz be3;clear kd1 kd2 kd3 be2 be3 hk2 hk3 f2 e0 e1
         iterate 1 (refine bj rfl rfl _ (fun w' hG=>by obtain ⟨g0,g1,g2⟩:=hG;go_simp;exact bA.mk _ _) (fun K hK=>?_);go_simp;refine hK _ ?_;clear hK K)
         refine bF rfl rfl (fun K hK=>?_);unfold aM;go_simp;refine hK _ _ ?_ ?_
         ·have k:=(Kz w3).alloc (.cells #[.int .i64 (L.now t' v.1), .int .i64 (L.now t' v.2)] 170);exact ⟨(KM.out.ae (KD3.out.trans k)).h0.cell 2,(k.ai KB3.out (fun h=>h)).cell 0,(k.ai KB3.out (fun h=>h)).cell 1⟩
         clear hK K;refine bF rfl rfl (fun K hK=>?_);have hle:=KLE.out;refine de (.tmp 123) (.tmp 135) 127 rfl 170 ie (.agg #[.int .i64 0, .int .i64 0]) 2 16 Try.underlying127 Hi.out Hz0.out Hz1.out Hz2.out rfl (by decide) _ (bR L.alive L.now t' (items.take k)).length (aC (bR L.alive L.now t' (items.take k))) rfl ?ja ⟨w3.heap.size,0,none⟩ 1 1 [.int .i64 (L.now t' v.1), .int .i64 (L.now t' v.2)] rfl rfl ?jb ?jc ?jd ?je ?jf
         case ja=>exact (KNL.out.ae (KD3.out.trans ((Kz w3).alloc _))).1
         case jb=>exact bM w3 170 #[.int .i64 (L.now t' v.1), .int .i64 (L.now t' v.2)]
         case jc=>intro u hu;simp at hu;rcases hu with rfl | rfl <;> rfl
         case jd=>unfold maxLen;omega
         case je=>omega
         case jf=>
          intro v5 w5 hs5 hk5 ho5;have hka:aa (fun _=>False) w3 (w3.alloc (.cells #[.int .i64 (L.now t' v.1), .int .i64 (L.now t' v.2)] 170)):=(Kz w3).alloc _;have hnw:=eL.app (e:=(L.now t' v.1,L.now t' v.2)) KNL.out (KD3.out.trans hka) hs5 hk5 ho5;have kd5:=KD3.out.trans hka;have KNW:=Hz hnw;have hm5:=KM.out.ae (w2:=w3.alloc (.cells #[.int .i64 (L.now t' v.1), .int .i64 (L.now t' v.2)] 170)) kd5;have be5:=hka.ai KB3.out (fun h=>h);have nb0:¬ ag u12 w.heap.size:=fun h=>by
           obtain ⟨_,cur,hc⟩:=KNL.out.1.own h;exact KM.out.h0.ne hc (by decide) rfl
          have nb1:¬ ag u12 wr.heap.size:=fun h=>by
           have:=(KNL.out.1.own h).1;omega
          refine hK _ _ ⟨(hk5.ai hm5.h0 nb0).cell 2,(hk5.ai be5 nb1).cell 0,(hk5.ai be5 nb1).cell 1⟩ ?_;clear hK K hs5 hk5 ho5 hka hnw kd5 hm5 be5 nb0 nb1
          iterate 1 (refine bj rfl rfl _ (fun w' hG=>by obtain ⟨g0,g1,g2⟩:=hG;go_simp;exact bA.mk _ _) (fun K hK=>?_);go_simp;refine hK _ ?_;clear hK K)
          refine dI ?_;go_wp2_with fail;go_roundw
          case rel=>exact ⟨k+1,by omega,by go_num,by rw [KST.out,ha];exact KNW.out⟩
          case measure=>simp [intOf];omega
       ·go_wp2_with fail;go_roundw
        case rel=>exact ⟨k+1,by omega,by go_num,by rw [KST.out];simpa using KNL.out.ae ((aa.refl _ _).alloc _)⟩
        case measure=>simp [intOf];omega
      ·obtain rfl:k=regs.length:=by omega
       have htk:items.take regs.length=items:=by rw [←hil];exact List.take_length
       have hnl:=KNL.out;rw [htk] at hnl;obtain ⟨n1,c1,rfl,_,_,_⟩:=hnl.1.rd;obtain ⟨wo,wc,rfl,_,_,_⟩:=hmk.hS.hw.rd;have p1:=hmk.hS.hp.cell 3;have pl1:=hmk.hS.hp.lt;simp only [Lz,Ls] at p1;have hql:q'.length≤200000:=by have:=GN.out;omega
       have KN1:=Hz hnl;have KM0:=Hz hmk;clear hnl hmk htk KNL;go_wp2_with fail;go_loopw [13,143] (fun v i wx=>∃ (k:Nat),k≤q'.length∧i=.int .i64 k∧eL wr wx v (bG L.alive L.now t' (q'.take k))) (fun _ i _=>q'.length-(intOf i).toNat)
       case atStart=>exact ⟨0,Nat.zero_le _,rfl,eL.nil wr⟩
       case round=>
        obtain ⟨k,hk,rfl,hnl⟩:=hrel;have KNL:=Hz hnl;have hmk:=KM0.out.ae hnl.2.1;clear hnl;by_cases hlt:k<q'.length
        ·have hst:=mD (alive:=L.alive) (now:=L.now) (t:=t') hlt;have hvd:=(hmk.hq (q'.getD k (0,0)) (by simp [List.getD,hlt])).1;obtain ⟨_,_,e',hrd,_,_⟩:=hmk.hS.hw.rd;cases e';obtain ⟨g,o,rfl,hgl,d0,d1⟩:=hrd.dA k hlt;have f0:=hmk.h0.cell 0;have fl:=hmk.h0.lt;simp only [c8.cells,Lz,Ls] at f0;have hle:(bG L.alive L.now t' (q'.take k)).length≤200000:=Nat.le_trans oc (Nat.le_trans (List.length_take_le _ _) (by omega));generalize q'.getD k (0,0)=v at *;have KM:=Hz hmk;have KST:=Hz hst;have KV:=Hz hvd;have KLE:=Hz hle;clear hmk hst hvd hrd hle;go_wp2_with fail;have hk0:=(Kz wr).alloc (.cells #[Value.int IntKind.i64 v.fst,Value.int IntKind.i64 v.snd] 170);refine (L.alive_c _ t' F' v.1 (L.J_keep KM.out.hJ hk0 (fun _ _ h=>h)) KV.out.1).mono ?_;rintro e w1 ⟨rfl,hk1⟩;have KK1:=Hz (hk0.trans hk1);have KE1:=Hz (hk1.ai (ah.newAt (w:=wr) _ rfl rfl) (fun h=>h));clear hk0 hk1;cases ha:L.alive t' v.1
         ·go_wp2_with fail;go_roundw
          case rel=>exact ⟨k+1,by omega,by go_num,by rw [KST.out,ha];simpa using KNL.out.ae KK1.out⟩
          case measure=>simp [intOf];omega
         ·have hm1:=KM.out.ae KK1.out;clear f0 fl d0 d1;have f2:=hm1.h0.cell 2;have e0:=KE1.out.cell 0;have e1:=KE1.out.cell 1;simp only [c8.cells,Lz,Ls] at f2 e0 e1;clear hm1;go_wp2_with fail;refine cI [(0,0),(1,0),(3,0),(6,0),(8,0),(2,0),(4,0),(7,0),(9,0),(5,1),(10,1),(11,0),(12,1),(13,1),(14,0)] (fun w'=>w'.cell? ⟨w.heap.size,2,none⟩=some (.func (.func L.fn) L.n1 L.n2)∧w'.cell? ⟨wr.heap.size,0,none⟩=some (.int .i64 v.1)∧w'.cell? ⟨wr.heap.size,1,none⟩=some (.int .i64 v.2)) (by kernel_rfl) (by kernel_rfl) ⟨f2,e0,e1⟩ ?_
          iterate 9 (refine bj rfl rfl _ (fun w' hG=>by obtain ⟨g0,g1,g2⟩:=hG;go_simp;exact bA.mk _ _) (fun K hK=>?_);go_simp;refine hK _ ?_;clear hK K)
          refine bF rfl rfl (fun K hK=>?_);unfold aM;go_simp;have kd1:aa (fun _=>False) wr w1.drew:=KK1.out.trans ((aa.refl _ w1).drew);refine (L.now_c _ t' F' v.1 (KM.out.ae kd1).hJ KV.out.1).mono ?_;rintro e w2 ⟨rfl,hk2⟩;have kd2:=kd1.trans hk2;have be2:=hk2.ai (KE1.out.drew) (fun h=>h);refine hK _ _ ⟨(KM.out.ae kd2).h0.cell 2,be2.cell 0,be2.cell 1⟩ ?_;clear hK K;refine bF rfl rfl (fun K hK=>?_);unfold aM;go_simp;refine (L.now_c _ t' F' v.2 (KM.out.ae kd2).hJ KV.out.2).mono ?_;rintro e w3 ⟨rfl,hk3⟩;have kd3:=kd2.trans hk3;have be3:=hk3.ai be2 (fun h=>h);refine hK _ _ ⟨(KM.out.ae kd3).h0.cell 2,be3.cell 0,be3.cell 1⟩ ?_;clear hK K;have KD3:=Hz kd3;have KB3:=Hz be3;clear kd1 kd2 kd3 be2 be3 hk2 hk3 f2 e0 e1
          iterate 1 (refine bj rfl rfl _ (fun w' hG=>by obtain ⟨g0,g1,g2⟩:=hG;go_simp;exact bA.mk _ _) (fun K hK=>?_);go_simp;refine hK _ ?_;clear hK K)
          refine bF rfl rfl (fun K hK=>?_);unfold aM;go_simp;refine hK _ _ ?_ ?_
          ·have k:=(Kz w3).alloc (.cells #[.int .i64 (L.now t' v.1), .int .i64 (L.now t' v.2)] 170);exact ⟨(KM.out.ae (KD3.out.trans k)).h0.cell 2,(k.ai KB3.out (fun h=>h)).cell 0,(k.ai KB3.out (fun h=>h)).cell 1⟩
          clear hK K;refine bF rfl rfl (fun K hK=>?_);have hle:=KLE.out;refine de (.tmp 152) (.tmp 164) 127 rfl 170 ie (.agg #[.int .i64 0, .int .i64 0]) 2 16 Try.underlying127 Hi.out Hz0.out Hz1.out Hz2.out rfl (by decide) _ (bG L.alive L.now t' (q'.take k)).length (aC (bG L.alive L.now t' (q'.take k))) rfl ?la ⟨w3.heap.size,0,none⟩ 1 1 [.int .i64 (L.now t' v.1), .int .i64 (L.now t' v.2)] rfl rfl ?lb ?lc ?ld ?le ?lf
          case la=>exact (KNL.out.ae (KD3.out.trans ((Kz w3).alloc _))).1
          case lb=>exact bM w3 170 #[.int .i64 (L.now t' v.1), .int .i64 (L.now t' v.2)]
          case lc=>intro u hu;simp at hu;rcases hu with rfl | rfl <;> rfl
          case ld=>unfold maxLen;omega
          case le=>omega
          case lf=>
           intro v5 w5 hs5 hk5 ho5;have hka:aa (fun _=>False) w3 (w3.alloc (.cells #[.int .i64 (L.now t' v.1), .int .i64 (L.now t' v.2)] 170)):=(Kz w3).alloc _;have hnw:=eL.app (e:=(L.now t' v.1,L.now t' v.2)) KNL.out (KD3.out.trans hka) hs5 hk5 ho5;have kd5:=KD3.out.trans hka;have KNW:=Hz hnw;have hm5:=KM.out.ae (w2:=w3.alloc (.cells #[.int .i64 (L.now t' v.1), .int .i64 (L.now t' v.2)] 170)) kd5;have be5:=hka.ai KB3.out (fun h=>h);have nb0:¬ ag u13 w.heap.size:=fun h=>by
            obtain ⟨_,cur,hc⟩:=KNL.out.1.own h;exact KM.out.h0.ne hc (by decide) rfl
           have nb1:¬ ag u13 wr.heap.size:=fun h=>by
            have:=(KNL.out.1.own h).1;omega
           refine hK _ _ ⟨(hk5.ai hm5.h0 nb0).cell 2,(hk5.ai be5 nb1).cell 0,(hk5.ai be5 nb1).cell 1⟩ ?_;clear hK K hs5 hk5 ho5 hka hnw kd5 hm5 be5 nb0 nb1
           iterate 1 (refine bj rfl rfl _ (fun w' hG=>by obtain ⟨g0,g1,g2⟩:=hG;go_simp;exact bA.mk _ _) (fun K hK=>?_);go_simp;refine hK _ ?_;clear hK K)
           refine dI ?_;go_wp2_with fail;go_roundw
           case rel=>exact ⟨k+1,by omega,by go_num,by rw [KST.out,ha];exact KNW.out⟩
           case measure=>simp [intOf];omega
        ·obtain rfl:k=q'.length:=by omega
         have hnl:=KNL.out;rw [List.take_length] at hnl;obtain ⟨n2,c2,rfl,_,_,_⟩:=hnl.1.rd;have hmk:=KM0.out.ae KNL.out.2.1;have p0:=hmk.hS.hp.cell 2;have p1:=hmk.hS.hp.cell 3;have fz0:=hmk.hS.hp.free 2;have fz1:=hmk.hS.hp.free 3;have pl:=hmk.hS.hp.lt;simp only [Lz,Ls] at p0 p1;have KN2:=Hz hnl;clear hnl hmk KNL;go_wp2_with fail;go_end0;exact gd.done GE2.out GM.out KN1.out KN2.out
    ·have he:=GE.out;simp only [if_true] at he;have GE2:=Hz he;have hun:=GU.out rfl;clear he GE;have hl0:items.length=regs.length:=by rw [←GF.out];simp
     have HI:dT L w F (.slice ro regs.length rc) wv w.heap.size (w.heap.size+1) b2 t' q' items (wait.length+regs.length) wr 0 false:=
      ⟨t',q',F',wv',[],rfl,by simpa using GM.out,by simpa using GN.out,by simp⟩
     have HL0:=Hz hl0;clear hl0;go_wp2_with fail;go_loopw [8,56] (fun v i wx=>∃ (k:Nat) (more:Bool),k≤regs.length∧i=.int .i64 k∧v=.bool more∧dT L w F (.slice ro regs.length rc) wv w.heap.size (w.heap.size+1) b2 t' q' items (wait.length+regs.length) wx k more) (fun _ i _=>regs.length-(intOf i).toNat)
     case atStart=>exact ⟨0,false,Nat.zero_le _,rfl,rfl,HI⟩
     case round=>
      clear HI;obtain ⟨k,more,hk,rfl,rfl,hsc⟩:=hrel;by_cases hlt:k<regs.length
      ·obtain ⟨t2,q2,F2,v2,done,hd,hm,hN,hE⟩:=hsc;have hki:k<items.length:=by rw [HL0.out];exact hlt
       have hdr:items.drop k=items[k] :: items.drop (k+1):=List.drop_eq_getElem_cons hki;rw [hdr] at hm hN hE;generalize items[k]=i at *;obtain ⟨v,dd,mv⟩:=i;have hln:((done ++ (v,dd,mv) :: items.drop (k+1)).map (·.1)).length=regs.length:=by
        have:=HL0.out;simp [hd];omega
       have hgt:((done ++ (v,dd,mv) :: items.drop (k+1)).map (·.1)).getD k (0,0)=v:=by simp [List.getD,hd]
       obtain ⟨_,_,e',hrd,_,_⟩:=hm.hS.hr.rd;rw [hln] at e';cases e';obtain ⟨g,o,rfl,hgl,d0,d1⟩:=hrd.dA k (by omega);rw [hgt] at d0 d1;have f0:=hm.h0.cell 0;have f1:=hm.h0.cell 1;have fl:=hm.h0.lt;have r1:=hm.h1.cell k;have r1l:=hm.h1.lt;have r2:=hm.h2.cell k;have r2l:=hm.h2.lt;simp only [c8.cells,Lz,Ls] at f0 f1;have hgk:(done ++ (v,dd,mv) :: items.drop (k+1))[k]? = some (v,dd,mv):=by simp [hd]
       rw [List.getElem?_map,hgk] at r1 r2;simp only [Option.map_some] at r1 r2;have fz:=hm.h2.free k;have hvd:=(hm.hr (v,dd,mv) (by simp)).1;have hvq:=(hm.hr (v,dd,mv) (by simp)).2;have KM:=Hz hm;have KD:=Hz hd;have KDR:=Hz hdr;have KN:=Hz hN;have KE:=Hz hE;have KV:=Hz hvd;have KQ:=Hz hvq;have KL:=Hz hln;clear hm hd hdr hN hE hgt hrd hgk hvd hvq hln;have SKIP:Hid (∀ w2,aa (fun _=>False) wr w2→((dd && !mv) && L.alive t2 v.1)=false→dT L w F (.slice (some ⟨g,o,none⟩) regs.length rc) wv w.heap.size (w.heap.size+1) b2 t' q' items (wait.length+regs.length) w2 (k+1) more):=fun w2 h1 h2=>dT.skip KD.out KDR.out KM.out KN.out KE.out h1 h2;cases dd
       ·go_wp2_with fail;go_roundw
        case rel=>exact ⟨k+1,more,by omega,by go_num,rfl,SKIP.out _ ((aa.refl _ _).alloc _) rfl⟩
        case measure=>simp [intOf];omega
       ·cases mv
        ·go_wp2_with fail;have hk0:=(Kz wr).alloc (.cells #[Value.int IntKind.i64 v.fst,Value.int IntKind.i64 v.snd] 170);refine (L.alive_c _ t2 F2 v.1 (L.J_keep KM.out.hJ hk0 (fun _ _ h=>h)) KV.out.1).mono ?_;rintro e w1 ⟨rfl,hk1⟩;have KK1:=Hz (hk0.trans hk1);have KE1:=Hz (hk1.ai (ah.newAt (w:=wr) _ rfl rfl) (fun h=>h));cases ha:L.alive t2 v.1
         ·clear hk0 hk1;go_wp2_with fail;go_roundw
          case rel=>exact ⟨k+1,more,by omega,by go_num,rfl,SKIP.out _ KK1.out (by rw [ha];rfl)⟩
          case measure=>simp [intOf];omega
         ·have hm1:=KM.out.ae KK1.out;have hm2:=hm1.move;rw [KD.out] at hm2;clear f0 f1 fl r1 r1l r2 r2l fz d0 d1 hk0 hk1;have r2:=hm1.h2.cell k;have r2l:=hm1.h2.lt;have hgk:(done ++ (v,true,false) :: items.drop (k+1))[k]? = some (v,true,false):=by simp [KD.out]
          rw [List.getElem?_map,hgk] at r2;simp only [Option.map_some] at r2;have fz:=hm1.h2.free k;have f1:=hm1.h0.cell 1;have fl:=hm1.h0.lt;simp only [c8.cells,Lz,Ls] at f1;have e1:=KE1.out.cell 1;have el:=KE1.out.lt;simp only [Lz,Ls] at e1;have hbe:b2<wr.heap.size:=KM.out.h2.lt;have hbl0:w.heap.size<wr.heap.size:=KM.out.h0.lt;have hr0:=HR0.out;have hr1:w.heap.size≠b2:=by omega
          have KM2:=Hz hm2;clear hm1 hm2 hgk;go_wp2_with fail;refine (L.keep_c _ t2 F2 _ v2 _ q2 v.2 KM2.out.hJ KM2.out.hS KM2.out.hA KV.out.2 KM2.out.hq (by have:=KN.out;omega)).mono ?_;rintro e w4 ⟨rfl,F4,hJ4,hS4,hA4,hk4,hF4⟩;have hm4:=KM2.out.kept KV.out.2 hJ4 hS4 hA4 hk4 hF4;have hlen:(L.ae t2 q2 v.2).2.1.length=q2.length:=L.keep_len;have hql:(L.ae t2 q2 v.2).2.1.length≤200000:=by have:=KN.out;omega
          have hdn:=L.D_new (wait:=q2) KV.out.2;have hdg:=L.D_keep (wait:=q2) KV.out.2 KV.out.1;have hdq:=L.Q_new (wait:=q2) KV.out.2 KQ.out;have hb4:=hk4.ai ((KE1.out).cA (a:=⟨b2,k,none⟩) (by show wr.heap.size≠b2;omega) (.bool true)) (by
           rintro (h | h)
           ·have:=L.J_lt KM.out.hJ h;omega
           ·have:=KM.out.hS.lJ h;omega)
          obtain ⟨wo,wc,rfl,_,_,_⟩:=hm4.hS.hw.rd;clear hJ4 hS4 hA4 hk4 hF4 hlen f1 fl r2 r2l fz e1 el;generalize hr:L.ae t2 q2 v.2=r at *;have KR:=Hz hr;have KM4:=Hz hm4;have KDN:Hid ((L.D r.1 v.1∧L.D r.1 r.2.2)∧L.Q (v.1,r.2.2)):=⟨⟨hdg,hdn⟩,hdq⟩;have KB4:=Hz hb4;have p1:=hm4.hS.hp.cell 3;have pl1:=hm4.hS.hp.lt;have e0:=hb4.cell 0;have el:=hb4.lt;have fz:=hm4.hS.hp.free 3;simp only [Lz,Ls] at p1 e0;clear hr hm4 hdn hdg hdq hb4;go_wp2_with fail;refine cI [(0,0),(1,0),(2,0),(3,0),(5,0),(7,0),(4,0),(6,0),(8,0),(9,1),(10,1),(11,0),(12,0),(13,2)] (fun w'=>w'.cell? ⟨p,3,none⟩=some (.slice wo r.2.1.length wc)∧w'.cell? ⟨wr.heap.size,0,none⟩=some (.int .i64 v.1)) (by kernel_rfl) (by kernel_rfl) ⟨p1,e0⟩ ?_
          iterate 9 (refine bj rfl rfl _ (fun w' hG=>by obtain ⟨g0,g1⟩:=hG;go_simp;exact bA.mk _ _) (fun K hK=>?_);go_simp;refine hK _ ?_;clear hK K)
          refine bF rfl rfl (fun K hK=>?_);unfold aM;go_simp;refine hK _ _ ?_ ?_
          ·have k:=(Kz w4).alloc (.cells #[.int .i64 v.1, .int .i64 r.2.2] 170);exact ⟨(k.ai KM4.out.hS.hp (fun h=>h)).cell 3,(k.ai KB4.out (fun h=>h)).cell 0⟩
          clear hK K;refine bF rfl rfl (fun K hK=>?_);refine de (.tmp 91) (.tmp 96) 127 rfl 170 ie (.agg #[.int .i64 0, .int .i64 0]) 2 16 Try.underlying127 Hi.out Hz0.out Hz1.out Hz2.out rfl (by decide) _ r.2.1.length (aC r.2.1) rfl ?ha ⟨w4.heap.size,0,none⟩ 1 1 [.int .i64 v.1, .int .i64 r.2.2] rfl rfl ?hb ?hc ?hd ?he ?hf
          case ha=>exact KM4.out.hS.hw.ae (((Kz w4).alloc _).drew) (fun _ _ h=>h)
          case hb=>exact bM w4 170 #[.int .i64 v.1, .int .i64 r.2.2]
          case hc=>intro u hu;simp at hu;rcases hu with rfl | rfl <;> rfl
          case hd=>unfold maxLen;omega
          case he=>omega
          case hf=>
           intro v5 w5 hs5 hk5 ho5;have hka:aa (fun _=>False) w4 ((w4.alloc (.cells #[.int .i64 v.1, .int .i64 r.2.2] 170)).drew):=((Kz w4).alloc _).drew;have hm5:=KM4.out.ae hka;have hp5:=hk5.ai hm5.hS.hp hm5.hS.pw;have hb5:=hk5.ai (hka.ai KB4.out (fun h=>h)) (fun h=>by
            have:=(KM.out.hS.hw.own h).1
            omega)
           refine hK _ _ ⟨hp5.cell 3,hb5.cell 0⟩ ?_;clear hK K;have hs6:Sl w5 170 2 v5 (r.2.1 ++ [(v.1,r.2.2)]).length (aC (r.2.1 ++ [(v.1,r.2.2)])):=by simpa [aC] using hs5
           obtain ⟨vo,vc,rfl,_,_,_⟩:=hs6.rd;have KM6:=Hz (hm5.app (e:=(v.1,r.2.2)) KDN.out hs6 hk5 ho5);have d0:=hp5.cell 3;have dl:=hp5.lt;have f0:=hp5.free 3;simp only [Lz,Ls] at d0;rw [List.length_append] at KM6;clear hs5 hk5 ho5 hka hm5 hp5 hb5 hs6 p1 pl1 e0 el fz
           iterate 2 (refine bj rfl rfl _ (fun w' hG=>by obtain ⟨g0,g1⟩:=hG;go_simp;exact bA.mk _ _) (fun K hK=>?_);go_simp;refine hK _ ?_;clear hK K)
           refine j9 rfl rfl (fun K hK=>?_);unfold aM;go_simp;refine hK _ _ ?_;clear hK K;refine dI ?_;go_wp2_with fail;go_roundw
           case rel=>exact ⟨k+1,true,by omega,by go_num,rfl,dT.tr KD.out KN.out KE.out (by rw [KR.out];exact KM6.out) (by rw [ha];rfl)⟩
           case measure=>simp [intOf];omega
        ·go_wp2_with fail;go_roundw
         case rel=>exact ⟨k+1,more,by omega,by go_num,rfl,SKIP.out _ ((aa.refl _ _).alloc _) rfl⟩
         case measure=>simp [intOf];omega
      ·obtain rfl:k=regs.length:=by omega
       obtain ⟨done,hmi,h1,h2,h3⟩:=fO.next GF.out hun GE2.out hsc
       have HMI:=Hz hmi;have hc2:=mz h3;have HC2:=Hz hc2;clear hmi h3 hsc hc2;go_wp2_with fail;go_roundw
       case rel=>exact ⟨more,done,rfl,HMI.out⟩
       case measure=>
        rw [HCN.out,HC2.out];cases more
        ·show 2*ck done+0<2*ck items+1
         omega
        ·have:=h2 rfl
         show 2*ck done+1<2*ck items+1
         omega
end
section
open Go.RowKit
structure bT where
 p:Nat
 tv:Value
 rv:Value
 gv:Value
 wv:Value
 fv:Nat→Value
def bT.Own (h:bT) (k:Nat):Prop:=k=h.p∨ag h.tv k∨ag h.rv k∨ag h.gv k∨ag h.wv k∨∃ i,ag (h.fv i) k
structure iS (w:World) (u:Value) (t:Th) (c0 c1 c2 c3:Option Value):Prop where
 d:c3=some (.bool t.dead)
 k:t.dead=false→c0=some (.int .i64 t.k)
 f:t.dead=false→c1=some u
 o:t.dead=false→c2=some (.bool t.aV)
 s:t.dead=false→Sl w 78 2 u t.fs.length (aC t.fs)
 c:∃ (a:Int) (b:Value) (c:Bool),c0=some (.int .i64 a)∧c1=some b∧c2=some (.bool c)
def cY (w:World) (v:Value) (fv:Nat→Value) (T:List Th):Prop:=
 ∃ cs,Sl w 188 4 v T.length cs∧∀ i,i<T.length→iS w (fv i) (T.getD i Th.none) cs[i*4]? cs[i*4+1]? cs[i*4+2]? cs[i*4+3]?
theorem cY.ae {w w':World} {v:Value} {fv:Nat→Value} {T:List Th} {S:Nat→Prop} (h:cY w v fv T) (k:aa S w w') (hv:∀ b,ag v b→¬ S b) (hf:∀ i b,ag (fv i) b→¬ S b):cY w' v fv T:=by
 obtain ⟨cs,hs,hr⟩:=h;exact ⟨cs,hs.ae k hv,fun i hi=>⟨(hr i hi).d,(hr i hi).k,(hr i hi).f,(hr i hi).o,fun hd=>((hr i hi).s hd).ae k (hf i),(hr i hi).c⟩⟩
structure aG (w:World) (h:bT) (W:Wd):Prop where
 hp:ah w h.p [h.tv,h.rv,h.gv,h.wv, .int .i64 W.aL, .int .i64 W.bq, .int .i64 W.most, .int .i64 W.grow] 146
 ht:cY w h.tv h.fv W.T
 hr:Sl w 78 2 h.rv W.roots.length (aC W.roots)
 hg:Sl w 170 2 h.gv W.regs.length (aC W.regs)
 hw:Sl w 170 2 h.wv W.wait.length (aC W.wait)
 ap:∀ k,¬ (ag h.gv k∧ag h.wv k)
 af:∀ i k,ag (h.fv i) k→k<w.heap.size∧(∃ c,ah w k c 78)∧¬ ag h.rv k
 fi:∀ i j k,ag (h.fv i) k→ag (h.fv j) k→i=j
 fl:∀ (i:Nat) k,ag (h.fv i) k→W.live (i:Int)
 ok:W.ok
def aI (w:World) (h:bT) (w':World) (W':Wd):Prop:=
 ∃ h',aG w' h' W'∧h'.p=h.p∧aa h.Own w w'∧∀ k,h'.Own k→h.Own k∨w.heap.size≤k
section
variable {w w':World} {h:bT} {W W':Wd}
theorem aG.ae {S:Nat→Prop} (H:aG w h W) (k:aa S w w') (hn:∀ b,h.Own b→¬ S b):aG w' h W:=
 ⟨k.ai H.hp (hn _ (.inl rfl)),H.ht.ae k (fun b hb=>hn b (.inr (.inl hb))) (fun i b hb=>hn b (.inr (.inr (.inr (.inr (.inr ⟨i,hb⟩)))))),H.hr.ae k (fun b hb=>hn b (.inr (.inr (.inl hb)))),H.hg.ae k (fun b hb=>hn b (.inr (.inr (.inr (.inl hb))))),
  H.hw.ae k (fun b hb=>hn b (.inr (.inr (.inr (.inr (.inl hb)))))),H.ap,fun i b hb=>by
   obtain ⟨h1,⟨c,h2⟩,h3⟩:=H.af i b hb
   exact ⟨Nat.lt_of_lt_of_le h1 k.size,⟨c,k.ai h2 (hn b (.inr (.inr (.inr (.inr (.inr ⟨i,hb⟩))))))⟩,h3⟩,H.fi,H.fl,H.ok⟩
theorem aG.same (H:aG w h W) (k:aa (fun _=>False) w w'):aG w' h W:=H.ae k (fun _ _ h=>h)
theorem aI.same (H:aG w h W) (k:aa (fun _=>False) w w'):aI w h w' W:=⟨h,H.same k,rfl,k.mono (fun _ _ h=>h.elim),fun k hk=>.inl hk⟩
theorem aI.aY {w1:World} {W1:Wd} (k:aa (fun _=>False) w w1) (t:aI w1 h w' W1):aI w h w' W1:=by
 obtain ⟨h1,H1,e1,k1,o1⟩:=t;exact ⟨h1,H1,e1,(k.mono (fun _ _ h=>h.elim)).trans k1,fun b hb=>(o1 b hb).imp id (fun h=>Nat.le_trans k.size h)⟩
theorem aI.step {w1 w2:World} {h1:bT} {W':Wd} (ep:h1.p=h.p) (k:aa h.Own w w1) (o:∀ b,h1.Own b→h.Own b∨w.heap.size≤b) (t:aI w1 h1 w2 W'):aI w h w2 W':=by
 obtain ⟨h2,H2,e2,k2,o2⟩:=t;refine ⟨h2,H2,e2.trans ep,k.then k2 o,fun b hb=>?_⟩;rcases o2 b hb with h | h
 ·exact o b h
 ·exact .inr (Nat.le_trans k.size h)
theorem aG.cO (H:aG w h W) {k:Nat} (hk:h.Own k):k<w.heap.size∧∃ c T,ah w k c T∧(T=146∨T=188∨T=78∨T=170):=by
 rcases hk with rfl | hk | hk | hk | hk | ⟨i,hk⟩
 ·exact ⟨H.hp.lt,_,_,H.hp, .inl rfl⟩
 ·obtain ⟨cs,hs,_⟩:=H.ht;obtain ⟨h1,c,hc⟩:=hs.own hk;exact ⟨h1,c,_,hc, .inr (.inl rfl)⟩
 ·obtain ⟨h1,c,hc⟩:=H.hr.own hk;exact ⟨h1,c,_,hc, .inr (.inr (.inl rfl))⟩
 ·obtain ⟨h1,c,hc⟩:=H.hg.own hk;exact ⟨h1,c,_,hc, .inr (.inr (.inr rfl))⟩
 ·obtain ⟨h1,c,hc⟩:=H.hw.own hk;exact ⟨h1,c,_,hc, .inr (.inr (.inr rfl))⟩
 ·obtain ⟨h1,⟨c,hc⟩,_⟩:=H.af i k hk;exact ⟨h1,c,_,hc, .inr (.inr (.inl rfl))⟩
theorem aG.dE (H:aG w h W) {k:Nat} (hk:h.Own k):k<w.heap.size:=(H.cO hk).1
theorem aG.cells (H:aG w h W):w.cell? ⟨h.p,0,none⟩=some h.tv∧w.cell? ⟨h.p,1,none⟩=some h.rv∧w.cell? ⟨h.p,2,none⟩=some h.gv∧w.cell? ⟨h.p,3,none⟩=some h.wv ∧
  w.cell? ⟨h.p,4,none⟩=some (.int .i64 W.aL)∧w.cell? ⟨h.p,5,none⟩=some (.int .i64 W.bq)∧w.cell? ⟨h.p,6,none⟩=some (.int .i64 W.most)∧w.cell? ⟨h.p,7,none⟩=some (.int .i64 W.grow):=
 ⟨H.hp.cell 0,H.hp.cell 1,H.hp.cell 2,H.hp.cell 3,H.hp.cell 4,H.hp.cell 5,H.hp.cell 6,H.hp.cell 7⟩
def bT.gx (h:bT) (W:Wd):GX:=⟨h.tv,h.rv, .int .i64 W.aL, .int .i64 W.bq, .int .i64 W.most, .int .i64 W.grow⟩
theorem aG.side (H:aG w h W):aZ (h.gx W) w h.p h.gv h.wv W.regs W.wait:=⟨H.hp,H.hg,H.hw,H.ap⟩
theorem aG.tv (H:aG w h W):∃ no nc,h.tv=.slice no W.T.length nc:=by
 obtain ⟨cs,hs,-⟩:=H.ht;obtain ⟨no,nc,e,-,-,-⟩:=hs.rd;exact ⟨no,nc,e⟩
theorem aG.nth (H:aG w h W) {i:Nat} (hi:i<W.T.length):∃ g o nc,h.tv=.slice (some ⟨g,o,none⟩) W.T.length nc∧ag h.tv g∧g<w.heap.size∧(∀ j,w.frozen? ⟨g,j,none⟩=false) ∧
  iS w (h.fv i) (W.T.getD i Th.none) (w.cell? ⟨g,o+i*4,none⟩) (w.cell? ⟨g,o+i*4+1,none⟩) (w.cell? ⟨g,o+i*4+2,none⟩) (w.cell? ⟨g,o+i*4+3,none⟩):=by
 obtain ⟨cs,hs,hr⟩:=H.ht;obtain ⟨g,o,cap,cur,e,hb,h1,h2,h3,h4⟩:=hs.laid (by omega);have hl:=hs.1;have hc:∀ j,j<W.T.length*4→w.cell? ⟨g,o+j,none⟩=cs[j]? := fun j hj=>by
  rw [hb.cell,←h4,List.getElem?_take,if_pos hj,List.getElem?_drop]
 refine ⟨g,o,cap,e,by rw [e];rfl,hb.lt,hb.free,?_⟩;have:=hr i hi;rw [hc (i*4) (by omega),Nat.add_assoc o (i*4) 1,hc (i*4+1) (by omega),Nat.add_assoc o (i*4) 2,hc (i*4+2) (by omega),Nat.add_assoc o (i*4) 3,hc (i*4+3) (by omega)];exact this
theorem Wd.dR (W:Wd) (i:Nat):W.th (i:Int)=W.T.getD i Th.none:=by unfold Wd.th;rw [Int.toNat_natCast]
theorem aG.root (H:aG w h W) {k:Nat} (hk:k<12):∃ g o rc,h.rv=.slice (some ⟨g,o,none⟩) W.roots.length rc∧g<w.heap.size∧w.cell? ⟨g,o+k*2,none⟩=some (.int .i64 (W.rt k).1)∧w.cell? ⟨g,o+k*2+1,none⟩=some (.int .i64 (W.rt k).2):=by
 have hl:=H.ok.hr;obtain ⟨ao,rc,e,hrd,-,-⟩:=H.hr.rd;obtain ⟨g,o,rfl,hg,h0,h1⟩:=hrd.dA k (by omega);exact ⟨g,o,rc,e,hg,by rw [h0];unfold Wd.rt;rw [Int.toNat_natCast],by rw [h1];unfold Wd.rt;rw [Int.toNat_natCast]⟩
end
end
section
def a9 (t:List Bool × List Nat) (v:Vl):List Bool × List Nat:=if v.1=3∧av t.1 v.2=false then (t.1.set v.2.toNat true,t.2 ++ [v.2.toNat]) else t
def bw (l:List Bool):Nat:=(l.map fun b=>if b then 0 else 1).sum
theorem mE:∀ {l:List Bool} {i:Nat},i<l.length→l.getD i false=false→bw (l.set i true)+1=bw l
 | [],i,h,_=>by simp at h
 | b :: l,0,_,h=>by
  have hb:b=false:=by simpa using h
  subst hb;simp [bw];omega
 | b :: l,i+1,h,h2=>by
  have ih:=mE (l:=l) (i:=i) (by simpa using h) (by simpa using h2);have e1:bw ((b :: l).set (i+1) true)=(if b then 0 else 1)+bw (l.set i true):=by simp [bw]
  have e2:bw (b :: l)=(if b then 0 else 1)+bw l:=by simp [bw]
  omega
def eH (W:Wd) (is:List Bool) (i:Int):Prop:=
 (((W.th i).k=1∨(W.th i).k=2)→∀ v ∈ (W.th i).fs,v.1=3→av is v.2=true)∧((W.th i).k=3→∀ v,(W.th i).fs[1]? = some v→v.1=3→av is v.2=true)
def fU (W:Wd) (is:List Bool) (i:Int):Prop:=
 av is i=true→(W.th i).k=4→aO is ((W.th i).fs.getD 0 (0,0))=true→∀ v,(W.th i).fs[1]? = some v→v.1=3→av is v.2=true
def kB (is:List Bool) (e:Int × Int):Prop:=av is e.1=true→av is e.2=true
structure GI (W:Wd) (q:List (Int × Int)) (s0:List Bool) (E:Int→Prop) (t:List Bool × List Nat):Prop where
 len:t.1.length=W.T.length
 up:∀ i,av s0 i=true→av t.1 i=true
 al:∀ i,av t.1 i=true→aU W.nd q (fun k=>av s0 k=true) i
 lv:∀ i,av t.1 i=true→W.live i
 nx:∀ k ∈ t.2,av t.1 ((k:Nat):Int)=true
 nd:t.2.Nodup
 lk:∀ i,av t.1 i=true→i.toNat ∉ t.2→¬ E i→eH W t.1 i
theorem eH.mono {W:Wd} {is is':List Bool} {i:Int} (h:eH W is i) (hs:∀ k,av is k=true→av is' k=true):eH W is' i:=
 ⟨fun hk v hv h3=>hs _ (h.1 hk v hv h3),fun hk v hv h3=>hs _ (h.2 hk v hv h3)⟩
section
variable {W:Wd} {q:List (Int × Int)} {s0:List Bool} {E:Int→Prop} {t:List Bool × List Nat}
theorem j0 (hl:t.1.length=W.T.length) (v:Vl) (hv:v.1=3→W.live v.2):∀ i,av t.1 i=true→av (a9 t v).1 i=true:=by
 intro i hi;unfold a9;split
 ·rename_i h;have hlv:=hv h.1;exact (eE hlv.1 (by rw [hl];exact hlv.2.1)).2 (.inr hi)
 ·exact hi
theorem gC {v:Vl} (h:(a9 t v).2=[]):a9 t v=t:=by
 unfold a9 at h ⊢;split
 ·rename_i hc;rw [if_pos hc] at h;simp at h
 ·rfl
theorem g4 {v:Vl} (h:(a9 t v).2=[]):t.2=[]:=by rw [gC h] at h;exact h
theorem fP (hl:t.1.length=W.T.length) (v:Vl) (hv:v.1=3→W.live v.2) (h3:v.1=3):av (a9 t v).1 v.2=true:=by
 have hlv:=hv h3;unfold a9;split
 ·exact (eE hlv.1 (by rw [hl];exact hlv.2.1)).2 (.inl rfl)
 ·rename_i hc;cases h:av t.1 v.2
  ·exact absurd ⟨h3,h⟩ hc
  ·rfl
theorem gD (hl:t.1.length=W.T.length) (v:Vl) (hv:v.1=3→W.live v.2):2*bw (a9 t v).1+(a9 t v).2.length≤2*bw t.1+t.2.length∧bw (a9 t v).1≤bw t.1∧((a9 t v).2=t.2∨bw (a9 t v).1<bw t.1)∧t.2.length≤(a9 t v).2.length:=by
 unfold a9;split
 ·rename_i h;have hlv:=hv h.1;have hlt:v.2.toNat<t.1.length:=by rw [hl];have:=hlv.1;have:=hlv.2.1;omega
  have hf:t.1.getD v.2.toNat false=false:=by rw [cJ hlv.1];exact h.2
  have:=mE hlt hf;simp only [List.length_append,List.length_singleton];exact ⟨by omega,by omega, .inr (by omega),by omega⟩
 ·exact ⟨Nat.le_refl _,Nat.le_refl _, .inl rfl,Nat.le_refl _⟩
theorem GI.mark (G:GI W q s0 E t) {v:Vl} (hv:v.1=3→W.live v.2∧aU W.nd q (fun k=>av s0 k=true) v.2):GI W q s0 E (a9 t v):=by
 have hup:=j0 G.len v (fun h=>(hv h).1);unfold a9 at hup ⊢;split
 ·rename_i h;rw [if_pos h] at hup;obtain ⟨hlv,hal⟩:=hv h.1;have hset:=fun i=>eE (is:=t.1) (x:=v.2) (i:=i) hlv.1 (by rw [G.len];exact hlv.2.1);have hnm:v.2.toNat ∉ t.2:=fun hm=>by
   have:=G.nx _ hm;rw [show ((v.2.toNat:Nat):Int)=v.2 by have:=hlv.1;omega,h.2] at this;cases this
  refine ⟨by simp [G.len],fun i hi=>hup i (G.up i hi),fun i hi=>?_,fun i hi=>?_,fun k hk=>?_,?_,fun i hi hn he=>?_⟩
  ·rcases (hset i).1 hi with rfl | h1
   ·exact hal
   ·exact G.al i h1
  ·rcases (hset i).1 hi with rfl | h1
   ·exact hlv
   ·exact G.lv i h1
  ·rcases List.mem_append.1 hk with h1 | h1
   ·exact hup _ (G.nx k h1)
   ·simp at h1;subst h1;exact (hset _).2 (.inl (by have:=hlv.1;omega))
  ·rw [List.nodup_append];exact ⟨G.nd,by simp,fun a ha b hb=>by simp at hb;subst hb;rintro rfl;exact hnm ha⟩
  ·simp only [List.mem_append,List.mem_singleton,not_or] at hn;rcases (hset i).1 hi with rfl | h1
   ·exact absurd rfl hn.2
   ·exact (G.lk i h1 hn.1 he).mono hup
 ·exact G
theorem GI.iw (G:GI W q s0 E t):t.2.length≤W.T.length:=by
 have h:∀ k ∈ t.2,k<W.T.length:=fun k hk=>by have:=(G.lv _ (G.nx k hk)).2.1;omega
 have:=List.Nodup.length_le_of_subset (l₁:=t.2) (l₂:=List.range W.T.length) G.nd (fun k hk=>List.mem_range.2 (h k hk));simpa using this
theorem GI.pop {is:List Bool} {k:Nat} {r:List Nat} (G:GI W q s0 (fun _=>False) (is,k :: r)):GI W q s0 (fun i=>i=(k:Int)) (is,r):=
 ⟨G.len,G.up,G.al,G.lv,fun j hj=>G.nx j (by simp [hj]),(List.nodup_cons.1 G.nd).2,fun i hi hn he=>G.lk i hi (by
  simp only [List.mem_cons,not_or];refine ⟨fun e=>he ?_,hn⟩
  have:=(G.lv i hi).1;omega) (fun h=>h)⟩
theorem GI.done {k:Nat} (G:GI W q s0 (fun i=>i=(k:Int)) t) (h:eH W t.1 (k:Int)):GI W q s0 (fun _=>False) t:=
 ⟨G.len,G.up,G.al,G.lv,G.nx,G.nd,fun i hi hn _=>by
  by_cases e:i=(k:Int)
  ·subst e;exact h
  ·exact G.lk i hi hn e⟩
theorem GI.closed {is:List Bool} (hok:W.ok) (G:GI W q s0 (fun _=>False) (is,[])) (hs:s0.length=W.T.length) (he:∀ i:Nat,i<W.T.length→fU W is (i:Int)) (hw:∀ e ∈ q,kB is e):is=W.b8 q s0:=by
 refine q9 (by rw [hs];exact G.len) G.up G.al (fun a b ha hl=>?_);have hlk:=G.lk a ha (by simp) (fun h=>h);have hlv:=G.lv a ha;rcases hl with ⟨h1,h2⟩ | ⟨h1,h2⟩ | ⟨h1,h2,h3⟩ | ⟨h1,h2⟩
 ·exact hlk.1 h1 (3,b) h2 rfl
 ·exact hlk.2 h1 (3,b) h2 rfl
 ·have:=he a.toNat (by have:=hlv.1;have:=hlv.2.1;omega);rw [show ((a.toNat:Nat):Int)=a by have:=hlv.1;omega] at this;refine this ha h1 ?_ (3,b) h2 rfl;have h2':(W.th a).fs[1]? = some (3,b):=h2;have h0:1<(W.th a).fs.length:=(List.getElem?_eq_some_iff.1 h2').1;have e0:(W.th a).fs[0]? = some (W.th a).fs[0]:=Le (by omega);unfold aO;rw [Ld,e0];dsimp only [Option.getD_some];by_cases h4:((W.th a).fs[0]).1=3
  ·simp [h3 _ e0 h4]
  ·simp [h4]
 ·exact hw (a,b) h2 ha
end
end
section
open Go.RowKit
def fV (l:List Nat):List Value:=l.map fun (k:Nat)=>Value.int .i64 (k:Int)
structure b6 (w:World) (gp lb ib:Nat) (nv:Value) (t:List Bool × List Nat):Prop where
 hp:ah w lb [.pointer (some ⟨gp,0,none⟩), .slice (some ⟨ib,0,none⟩) t.1.length t.1.length,nv] 197
 hi:ah w ib (t.1.map Value.bool) 4
 hn:Sl w 3 1 nv t.2.length (fV t.2)
def dF (lb ib:Nat) (nv:Value) (k:Nat):Prop:=k=lb∨k=ib∨ag nv k
def dV (w:World) (gp lb ib:Nat) (nv:Value) (w':World) (t:List Bool × List Nat):Prop:=
 ∃ nv',b6 w' gp lb ib nv' t∧aa (dF lb ib nv) w w'∧∀ k,ag nv' k→ag nv k∨w.heap.size≤k
def gfalsW (w:World) (b:Nat):Nat:=match w.heap[b]? with
 | some (.cells a _ _)=>(a.toList.map fun v=>match v with | .bool false=>1 | _=>0).sum
 | _=>0
def lL (w:World) (b i:Nat):Nat:=match w.cell? ⟨b,i,none⟩ with
 | some (.slice _ n _)=>n
 | _=>0
theorem oe {w:World} {b:Nat} {l:List Bool} {T:TypeId} (h:ah w b (l.map Value.bool) T):gfalsW w b=bw l:=by
 unfold ah at h;unfold gfalsW;rw [h];simp only [bw];congr 1;simp only [List.map_map];refine List.map_congr_left fun x _=>?_;cases x <;> rfl
section
variable {w w':World} {gp lb ib:Nat} {nv:Value} {t:List Bool × List Nat}
theorem b6.jt (L:b6 w gp lb ib nv t):gfalsW w ib=bw t.1:=oe L.hi
theorem b6.mF (L:b6 w gp lb ib nv t):lL w lb 2=t.2.length:=by
 obtain ⟨no,nc,e,-,-,-⟩:=L.hn.rd;have:=L.hp.cell 2;simp only [Lz,Ls] at this;unfold lL;rw [this,e]
theorem b6.ae {S:Nat→Prop} (L:b6 w gp lb ib nv t) (k:aa S w w') (hn:∀ b,dF lb ib nv b→¬ S b):b6 w' gp lb ib nv t:=
 ⟨k.ai L.hp (hn _ (.inl rfl)),k.ai L.hi (hn _ (.inr (.inl rfl))),L.hn.ae k (fun b hb=>hn b (.inr (.inr hb)))⟩
theorem b6.same (L:b6 w gp lb ib nv t) (k:aa (fun _=>False) w w'):b6 w' gp lb ib nv t:=L.ae k (fun _ _ h=>h)
theorem dV.same (L:b6 w gp lb ib nv t) (k:aa (fun _=>False) w w'):dV w gp lb ib nv w' t:=⟨nv,L.same k,k.mono (fun _ _ h=>h.elim),fun k hk=>.inl hk⟩
theorem b6.cO (L:b6 w gp lb ib nv t) {k:Nat} (hk:dF lb ib nv k):k<w.heap.size∧∃ c T,ah w k c T∧(T=197∨T=4∨T=3):=by
 rcases hk with rfl | rfl | hk
 ·exact ⟨L.hp.lt,_,_,L.hp, .inl rfl⟩
 ·exact ⟨L.hi.lt,_,_,L.hi, .inr (.inl rfl)⟩
 ·obtain ⟨h1,c,hc⟩:=L.hn.own hk;exact ⟨h1,c,_,hc, .inr (.inr rfl)⟩
theorem b6.bool (L:b6 w gp lb ib nv t) {i:Nat} (hi:i<t.1.length):w.cell? ⟨ib,i,none⟩=some (.bool (t.1.getD i false)):=by
 rw [L.hi.cell,List.getElem?_map,Ld,Le hi];rfl
theorem qd (i:Nat) (L:b6 w gp lb ib nv t) (hi:i<t.1.length) (hl:t.1.length≤1000000) :
  Calls Try.prog 140 #[.pointer (some ⟨lb,0,none⟩), .int .i64 i] w fun e w'=>e=.returned (.bool (av t.1 i))∧w=w':=by
 have hc:=L.bool hi;have hg:=L.hi.lt;have c1:=L.hp.cell 1;have cl:=L.hp.lt;simp only [Lz,Ls] at c1;have HE:=Hz (cG t.1 i);generalize t.1.getD i false=bv at *;have hii:(i:Int)<t.1.length:=by omega
 clear L;go_enter Try.func140,Try.ntmps140;go_wp2_with fail;go_ret;rw [HE.out];exact ⟨rfl,rfl⟩
theorem b6.rp (L:b6 w gp lb ib nv t) (i:Nat):b6 (w.setCell ⟨ib,i,none⟩ (.bool true)) gp lb ib nv (t.1.set i true,t.2)∧aa (dF lb ib nv) w (w.setCell ⟨ib,i,none⟩ (.bool true)):=by
 have K:=(aa.refl (·=ib) w).setCell (p:=⟨ib,i,none⟩) (.inl rfl) (.bool true);refine ⟨⟨?_,?_,L.hn.ae K (fun b hb h=>?_)⟩,K.mono (fun b _ h=>.inr (.inl h))⟩
 ·have:=K.ai L.hp (fun h=>L.hp.ne L.hi (by decide) h);simpa using this
 ·have:=L.hi.aF i (.bool true);dsimp only;rw [List.map_set];exact this
 ·obtain ⟨_,c',hc'⟩:=L.hn.own hb;exact hc'.ne L.hi (by decide) h
theorem jD (v:Vl) (L:b6 w gp lb ib nv t) (hv:v.1=3→0≤v.2∧v.2<t.1.length) (hl:t.1.length≤100000) (hn:t.2.length≤100000) :
  Calls Try.prog 137 #[.pointer (some ⟨lb,0,none⟩), .agg #[.int .i64 v.1, .int .i64 v.2]] w fun e w'=>e=.returned (.tuple #[])∧dV w gp lb ib nv w' (a9 t v):=by
 obtain ⟨i0,hi,hz0,hz1,hz2⟩:=info_parts iC;have Hi:=Hz hi;have Hz0:=Hz hz0;have Hz1:=Hz hz1;have Hz2:=Hz hz2;clear hi hz0 hz1 hz2;obtain ⟨kd,x⟩:=v;dsimp only at hv ⊢;have hb1:ah (w.alloc (.cells #[.int .i64 kd, .int .i64 x] 78)) w.heap.size [.int .i64 kd, .int .i64 x] 78:=ah.newAt _ rfl rfl;have ka:=(Kz w).alloc (.cells #[.int .i64 kd, .int .i64 x] 78);have L0:=Hz L;have L1:=Hz (L.same ka);have K1:=Hz ka;have B1:=Hz hb1;clear hb1 ka L;go_enter Try.func137,Try.ntmps137;go_upto_region 1 with (fail)
 generalize w.alloc (.cells #[.int .i64 kd, .int .i64 x] 78)=w1 at *;generalize hsb:w.heap.size=sb at *;have HSB:=Hz hsb;clear hsb;have s0:=B1.out.cell 0;have s1:=B1.out.cell 1;have sl:=B1.out.lt;simp only [Lz,Ls] at s0 s1;have cl:=L1.out.hp.lt;by_cases h3:kd=3
 case neg=>
  have hd:(kd == 3)=false:=by simpa using h3
  have HE:=Hz (show a9 t (kd,x)=t by unfold a9;rw [if_neg (fun h=>h3 h.1)]);clear h3;go_wp2_with fail;refine aq (.free 0 (.pure 1 (.free 2 (.free 3 (.free 4 (.free 5 (.free 6 (.free 8 (.pure 7 (.pure 9 (.free 10 (.pure 11 (.free 12 (.free 13 (.fin))))))))))))))) [] (fun w'=>w'.cell? ⟨sb,0,none⟩=some (.int .i64 kd)) (by kernel_rfl) (by kernel_rfl) s0 ?_
  iterate 14 ((first | refine ak rfl rfl fun K hK=>?_ | refine aj rfl rfl fun K hK=>?_ | refine aB rfl rfl fun K hK=>?_ | refine aw rfl rfl fun K hK=>?_ | refine aA rfl rfl fun K hK=>?_);go_simp;refine hK _ ?_;clear hK K)
  refine aD ?_;go_wp2_with fail;go_end0;refine ⟨rfl,?_⟩;rw [HE.out];exact dV.same L0.out K1.out.drew
 subst h3;obtain ⟨x0,x1⟩:=hv rfl;obtain ⟨x,rfl⟩:=Int.eq_ofNat_of_zero_le x0;have hxl:x<t.1.length:=by omega
 have hc:=L1.out.bool hxl;have hg:=L1.out.hi.lt;have hfx:=L1.out.hi.free x;have c1:=L1.out.hp.cell 1;simp only [Lz,Ls] at c1;have hat:=cG t.1 x;have hxi:(x:Int)<t.1.length:=x1;clear x0 hv;obtain ⟨bv,hbv⟩:∃ b,t.1.getD x false=b:=⟨_,rfl⟩;rw [hbv] at hc hat
 cases bv
 case true=>
  have HE:=Hz (show a9 t (3,(x:Int))=t by unfold a9;rw [if_neg (fun h=>by have:=h.2;dsimp only at this;rw [hat] at this;cases this)]);clear hat hbv hfx;go_wp2_with fail;refine aq (.free 0 (.pure 1 (.free 2 (.free 3 (.free 4 (.free 5 (.free 6 (.free 8 (.pure 7 (.pure 9 (.free 10 (.pure 11 (.free 12 (.free 13 (.fin))))))))))))))) [] (fun w'=>w'.cell? ⟨sb,0,none⟩=some (.int .i64 3)∧w'.cell? ⟨sb,1,none⟩=some (.int .i64 x)∧w'.cell? ⟨lb,1,none⟩=some (.slice (some ⟨ib,0,none⟩) t.1.length t.1.length)∧w'.cell? ⟨ib,x,none⟩=some (.bool true)) (by kernel_rfl) (by kernel_rfl) ⟨s0,s1,c1,hc⟩ ?_
  iterate 14 ((first | refine ak rfl rfl fun K hK=>?_ | refine aj rfl rfl fun K hK=>?_ | refine aB rfl rfl fun K hK=>?_ | refine aw rfl rfl fun K hK=>?_ | refine aA rfl rfl fun K hK=>?_);go_simp;refine hK _ ?_;clear hK K)
  refine aD ?_;go_wp2_with fail;go_end0;refine ⟨rfl,?_⟩;rw [HE.out];exact dV.same L0.out K1.out.drew
 have HE:=Hz (show a9 t (3,(x:Int))=(t.1.set x true,t.2 ++ [x]) by unfold a9;rw [if_pos ⟨rfl,hat⟩];rfl);clear hat hbv;go_wp2_with fail;refine aq (.free 0 (.pure 1 (.free 2 (.free 3 (.free 4 (.free 5 (.free 6 (.free 8 (.pure 7 (.pure 9 (.free 10 (.pure 11 (.free 12 (.free 13 (.fin))))))))))))))) [] (fun w'=>w'.cell? ⟨sb,0,none⟩=some (.int .i64 3)∧w'.cell? ⟨sb,1,none⟩=some (.int .i64 x)∧w'.cell? ⟨lb,1,none⟩=some (.slice (some ⟨ib,0,none⟩) t.1.length t.1.length)∧w'.cell? ⟨ib,x,none⟩=some (.bool false)) (by kernel_rfl) (by kernel_rfl) ⟨s0,s1,c1,hc⟩ ?_
 iterate 14 ((first | refine ak rfl rfl fun K hK=>?_ | refine aj rfl rfl fun K hK=>?_ | refine aB rfl rfl fun K hK=>?_ | refine aw rfl rfl fun K hK=>?_ | refine aA rfl rfl fun K hK=>?_);go_simp;refine hK _ ?_;clear hK K)
 refine aD ?_;go_wp2_with fail;refine aq (.free 0 (.free 1 (.free 2 (.free 4 (.pure 3 (.pure 5 (.free 6 (.run 7 (.swi [] (.fin)))))))))) [7] (fun w'=>w'.cell? ⟨sb,1,none⟩=some (.int .i64 x)∧w'.cell? ⟨lb,1,none⟩=some (.slice (some ⟨ib,0,none⟩) t.1.length t.1.length)) (by kernel_rfl) (by kernel_rfl) ⟨s1,c1⟩ ?_
 iterate 7 ((first | refine ak rfl rfl fun K hK=>?_ | refine aj rfl rfl fun K hK=>?_ | refine aB rfl rfl fun K hK=>?_ | refine aw rfl rfl fun K hK=>?_ | refine aA rfl rfl fun K hK=>?_);go_simp;refine hK _ ?_;clear hK K)
 refine aK rfl rfl rfl (fun K hK=>?_);unfold aM;go_simp;refine hK _ _ ?_;clear hK K;refine aH (fun _=>True) trivial (aD ?_);have hL2:=(L1.out.rp x);have kd2:=(Kz (w1.setCell ⟨ib,x,none⟩ (.bool true))).drew.drew;have L2:=Hz (hL2.1.same kd2);have K2:=Hz ((hL2.2.trans (kd2.mono (fun _ _ h=>h.elim))));have BS2:=Hz (show ah _ sb _ _ from kd2.ai (B1.out.cA (a:=⟨ib,x,none⟩) (B1.out.ne L1.out.hi (by decide)) (.bool true)) (fun h=>h));clear hL2 kd2 s0 s1 sl c1 hc hfx hg cl;generalize (w1.setCell ⟨ib,x,none⟩ (.bool true)).drew.drew=w2 at *;have s1:=BS2.out.cell 1;have sl:=BS2.out.lt;have c2:=L2.out.hp.cell 2;have cl:=L2.out.hp.lt;simp only [Lz,Ls] at s1 c2;obtain ⟨no,nc,en,-,-,-⟩:=L2.out.hn.rd;rw [en] at c2;have HN2:=Hz (show Sl w2 3 1 (.slice no t.2.length nc) t.2.length (fV t.2) by have:=L2.out.hn;rw [en] at this;exact this);have HEN:=Hz en;have HSZ:=Hz (show w.heap.size≤w2.heap.size from by have:=K1.out.size;have:=K2.out.size;omega);clear en;go_wp2_with fail;refine aq (.free 0 (.free 1 (.free 2 (.free 3 (.free 5 (.pure 4 (.pure 6 (.run 7 (.run 8 (.swi [11] (.free 9 (.free 10 (.run 11 (.swi [] (.fin))))))))))))))) [8,9,10,11] (fun w'=>w'.cell? ⟨lb,2,none⟩=some (.slice no t.2.length nc)∧w'.cell? ⟨sb,1,none⟩=some (.int .i64 x)) (by kernel_rfl) (by kernel_rfl) ⟨c2,s1⟩ ?_
 iterate 7 ((first | refine ak rfl rfl fun K hK=>?_ | refine aj rfl rfl fun K hK=>?_ | refine aB rfl rfl fun K hK=>?_ | refine aw rfl rfl fun K hK=>?_ | refine aA rfl rfl fun K hK=>?_);go_simp;refine hK _ ?_;clear hK K)
 refine bO rfl rfl (fun K hK=>?_);unfold aM;go_simp;have hka:aa (fun _=>False) w2 ((w2.alloc (.cells #[.int .i64 x] 3)).drew):=((Kz w2).alloc (.cells #[.int .i64 x] 3)).drew;refine hK _ _ (fun _=>⟨(hka.ai L2.out.hp (fun h=>h)).cell 2 |>.trans (by simp [HEN.out]),(hka.ai BS2.out (fun h=>h)).cell 1⟩) ?_;clear hK K;refine aK rfl rfl rfl (fun K hK=>?_);refine de (.tmp 29) (.tmp 32) 50 rfl 3 i0 (.int .i64 0) 1 8 Try.underlying50 Hi.out Hz0.out Hz1.out Hz2.out rfl (by decide) _ t.2.length (fV t.2) rfl (HN2.out.ae hka (fun _ _ h=>h)) ⟨w2.heap.size,0,none⟩ 1 1 [.int .i64 x] rfl rfl (bM w2 3 #[.int .i64 x]) (by intro u hu;simp at hu;subst hu;rfl) (by unfold maxLen;omega) (by omega) ?_;intro v3 w3 hs3 hk3 ho3;refine hK _ _ ?_;clear hK K;obtain ⟨vo3,vc3,rfl,-,-,-⟩:=hs3.rd;have hnl:¬ ag (.slice no t.2.length nc) lb:=fun e=>by
  obtain ⟨_,c,hc⟩:=HN2.out.own e;exact L2.out.hp.ne hc (by decide) rfl
 have hp3:=hk3.ai (hka.ai L2.out.hp (fun h=>h)) hnl;have x0:=hp3.cell 2;have xl:=hp3.lt;have xf:=hp3.free 2;simp only [Lz,Ls] at x0;have set:=(aa.refl (·=lb) w3).setCell (p:=⟨lb,2,none⟩) (.inl rfl) (.slice vo3 (t.2.length+1) vc3);have K13:aa (dF lb ib nv) w1 w3:=(K2.out.then hka (fun _ h=>h.elim)).then hk3 (fun k hk=>.inl (.inr (.inr (by rw [HEN.out];exact hk))));have L4:=Hz (show b6 (w3.setCell ⟨lb,2,none⟩ (.slice vo3 (t.2.length+1) vc3)) gp lb ib (.slice vo3 (t.2.length+1) vc3) (t.1.set x true,t.2 ++ [x]) from
  ⟨by simpa using hp3.aF 2 (.slice vo3 (t.2.length+1) vc3),set.ai (hk3.ai (hka.ai L2.out.hi (fun h=>h)) (fun e=>by
   obtain ⟨_,c',hc'⟩:=HN2.out.own e
   exact L2.out.hi.ne hc' (by decide) rfl)) (fun e=>L2.out.hi.ne L2.out.hp (by decide) e),by
   have e1:fV (t.2 ++ [x])=fV t.2 ++ [.int .i64 x]:=by simp [fV]
   have e2:(t.2 ++ [x]).length=t.2.length+1:=by simp
   dsimp only;rw [e1,e2];exact hs3.ae set (fun b hb e=>by
    obtain ⟨_,c,hc⟩:=hs3.own hb
    exact hc.ne hp3 (by decide) e)⟩)
 have K4:=Hz (K13.then set (fun k hk=>.inl (.inl hk)));have O4:=Hz (show ∀ k,ag (.slice vo3 (t.2.length+1) vc3) k→ag nv k∨w.heap.size≤k from fun k hk=>by
  rcases ho3 k hk with h1 | h1
  ·exact .inl (by rw [HEN.out];exact h1)
  ·refine .inr (Nat.le_trans HSZ.out ?_)
   have:=hka.size;omega)
 clear hs3 hk3 ho3 hnl hp3 set K13 c2 cl s1 sl hka;refine aH (fun _=>True) trivial ?_
 iterate 2 ((first | refine ak rfl rfl fun K hK=>?_ | refine aj rfl rfl fun K hK=>?_);go_simp;refine hK _ ?_;clear hK K)
 refine aK rfl rfl rfl (fun K hK=>?_);unfold aM;go_simp;refine hK _ _ ?_;clear hK K;refine aH (fun _=>True) trivial (aD ?_);clear x0 xl xf;go_wp2_with fail;go_end0;refine ⟨rfl,?_⟩;rw [HE.out];exact ⟨_,L4.out,(K1.out.mono (fun _ _ h=>h.elim)).trans K4.out,O4.out⟩
end
end
end Go.Proofs.Ytjifdalflepcoab
