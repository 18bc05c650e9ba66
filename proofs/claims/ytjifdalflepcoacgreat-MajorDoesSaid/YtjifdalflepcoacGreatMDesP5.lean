/-
  Parts of the proof, merged: what the functions do, and plain laws.
-/
import Derived.Test.YtjifdalflepcoacGreatMDesP4
import Derived.Test.YtjifdalflepcoacGreatMDesP3
import Derived.Test.YtjifdalflepcoacGreatMDesP2
import Derived.Test.YtjifdalflepcoacGreatMDesP0
import Derived.Test.YtjifdalflepcoacGreatMDesP1
set_option maxHeartbeats 16000000
set_option maxRecDepth 100000
set_option linter.unusedVariables false
set_option linter.unusedSimpArgs false
namespace Go.Proofs.YtjifdalflepcoacGreat
section
open Go.RowKit
def MinorRet (w:World) (h:WH) (O:Wo) (e:Ending) (w':World):Prop:=e=.returned (.int .i64 (mCut O).1)∧WoodTo w h w' (mCut O).2
section
variable {w w':World} {h:WH} {O:Wo}
theorem minorCut_c {W:Wd} {φ:Int→Int} (R:Rep O W φ) (H:WoodAt w h O) :
  Calls Tryz.prog 16 #[.pointer (some ⟨h.p,0,none⟩)] w (MinorRet w h O):=by
 have HH:=Hz H
 have hok:=H.ok
 obtain ⟨p0,p1,p2,p3⟩:=H.ptrs
 have pl:=H.hp.lt
 have o1:=hok.ha.h1;have o2:=hok.ha.h2;have o3:=hok.ha.h3;have o4:=hok.ha.h4
 have HR:=Hz R
 clear H R
 have HOK:=Hz hok
 clear hok
 go_enter Tryz.func16,Tryz.ntmps16
 go_wp2_with fail
 refine (Used_c w HH.out.ha).mono ?_
 rintro e w1 ⟨rfl,hk⟩
 have H1:=Hz (HH.out.keep hk (fun _ _ h=>h));have K1:=Hz hk
 clear p0 p1 p2 p3 pl hk
 obtain ⟨p0,p1,p2,p3⟩:=H1.out.ptrs
 have pl:=H1.out.hp.lt
 go_wp2_with fail
 refine (Free_c w1 H1.out.ha).mono ?_
 rintro e w2 ⟨rfl,hk⟩
 have H2:=Hz (H1.out.keep hk (fun _ _ h=>h));have K2:=Hz (K1.out.trans hk)
 clear p0 p1 p2 p3 pl hk H1 K1
 by_cases hfull:(O.ar.yng:Int) > (O.ar.ws.length:Int)-O.ar.grn
 ·have HE:=Hz (show mCut O=(3,O) by unfold mCut;rw [if_pos hfull])
  have hd:decide (((O.ar.ws.length-O.ar.grn:Nat):Int)<(O.ar.yng:Int))=true:=by simp;omega
  have hd2:decide (O.ar.ws.length-O.ar.grn<O.ar.yng)=true:=by simp;omega
  clear hfull
  go_wp2_with fail
  go_ret
  refine ⟨by rw [HE.out];rfl,?_⟩
  rw [HE.out]
  exact WoodTo.same HH.out K2.out
 ·have hd:decide (((O.ar.ws.length-O.ar.grn:Nat):Int)<(O.ar.yng:Int))=false:=by simp;omega
  have hd2:decide (O.ar.ws.length-O.ar.grn<O.ar.yng)=false:=by simp;omega
  have HF:=Hz hfull
  clear hfull
  obtain ⟨p0,p1,p2,p3⟩:=H2.out.ptrs
  have pl:=H2.out.hp.lt
  go_wp2_with fail
  clear hd hd2
  refine (Bounds_c w2 H2.out.ha).mono ?_
  rintro e w3 ⟨rfl,hk⟩
  have H3:=Hz (H2.out.keep hk (fun _ _ h=>h));have K3:=Hz (K2.out.trans hk)
  clear p0 p1 p2 p3 pl hk H2 K2
  obtain ⟨p0,p1,p2,p3⟩:=H3.out.ptrs
  have pl:=H3.out.hp.lt
  go_wp2_with fail
  generalize hwb:w3.alloc (.cells #[.pointer (some ⟨h.p,0,none⟩), .int .i64 O.ar.nur, .int .i64 0, .slice none 0 0, .slice none 0 0] 104)=wb
  have KB:=Hz (show Keeps (fun _=>False) w3 wb by rw [←hwb];exact (Keeps.refl _ _).alloc _)
  have HB:=Hz (show Blk wb w3.heap.size [.pointer (some ⟨h.p,0,none⟩), .int .i64 O.ar.nur, .int .i64 0, .slice none 0 0, .slice none 0 0] 104 by rw [←hwb];exact Blk.newAt _ rfl rfl)
  have MB:=Hz (show MC w h wb w3.heap.size O.ar.nur (.slice none 0 0) (.slice none 0 0) h.rv h.wv O.cd O.rt O.rg ⟨⟨O.ar,[],[]⟩,0,O.wt⟩ by
   have HBW:=H3.out.keep KB.out (fun _ _ h=>h)
   have hok:=HOK.out
   refine ⟨⟨⟨HBW.hp,HBW.ha,HB.out,Sl.nil _ _ _,Sl.nil _ _ _,fun k hk=>nil_own hk.1⟩,HBW.hs,⟨hok.ha,⟨by simp,(fun i hi=>by cases hi),(fun i hi=>by cases hi)⟩,by show (0:Int)≤0;omega,by show (0:Int)≤1300;omega⟩,fun e he=>hok.hw e he,rfl,by have:=hok.hq;dsimp only;omega⟩,HBW.hc,HBW.hr,HBW.ap,(K3.out.trans KB.out).mono (fun _ _ h=>h.elim),?_⟩
   rintro k ((rfl | rfl | rfl | rfl | hk | hk) | hk)
   ·exact .inl (.inl rfl)
   ·exact .inl (.inr (.inl (.inl rfl)))
   ·exact .inl (.inr (.inl (.inr rfl)))
   ·exact .inr K3.out.size
   ·exact (nil_own hk).elim
   ·exact (nil_own hk).elim
   ·exact .inl (.inr (.inr (.inr (.inl hk)))))
  clear hwb p0 p1 p2 p3 pl H3 HB KB
  generalize w3.heap.size=pc at *
  go_wp2_with fail
  refine (Things_c wb MB.out.C.J.ha).mono ?_
  rintro e w4 ⟨ao,ac,bo,bc,rfl,-,hls,hk,-,hlo⟩
  have M4:=Hz (MB.out.same hk);have HLS:=Hz hls;have HLO:=Hz hlo
  have HLT:=Hz (fun b hb=>(hls.own (k:=b) hb).1)
  clear hls hlo hk
  have cl:=M4.out.C.J.hc.lt
  go_wp2_with fail
  refine (mTop_c M4.out.C.J M4.out.C.nb).mono ?_
  rintro e w5 ⟨rfl,hk⟩
  have HSZ5:=Hz hk.size
  have M5:=Hz (M4.out.same hk);have HLS5:=Hz (HLS.out.keep hk (fun _ _ h=>h))
  clear hk cl HLS
  have q2:=M5.out.C.J.cells.2.2.1;have cl:=M5.out.C.J.hc.lt;have fz:=M5.out.C.J.hc.free 2
  have q3:=M5.out.C.J.cells.2.2.2.2.2.2.2.2;have pl:=M5.out.C.J.hp.lt
  dsimp only at q2 q3
  obtain ⟨gr,og,rcap,ero,-,-,-⟩:=M5.out.rootCells HOK.out.h12
  have HRO:=Hz ero
  rw [ero] at q3
  clear ero
  have HA5:=Hz M5.out.C.ok.ok
  have hsto:=(M5.out.C.J.setC (O.ar.grn:Int))
  obtain ⟨wv6,ev6,M6',o6⟩:=M5.out.step (M5.out.C.cut hsto ⟨M5.out.C.ok.ok,M5.out.C.ok.ms.more (by dsimp only;omega),by omega,by omega⟩ rfl)
  have M6:=Hz M6'
  have HI6:=Hz ((OwnI.nil h pc O.ar.nur w4.heap.size).step o6 HSZ5.out)
  have HLS6:=Hz (HLS5.out.keep ((Keeps.refl (·=pc) w5).setCell (p:=⟨pc,2,none⟩) (.inl rfl) (.int .i64 (O.ar.grn:Int))) (fun b hb e=>by
   obtain ⟨_,l,h'⟩:=HLS5.out.own hb
   exact h'.ne M5.out.C.J.hc (by decide) e))
  clear M6' hsto o6
  dsimp only at M6 HLS6
  go_wp2_with fail
  have HSZ6:=Hz (show w5.heap.size≤(w5.setCell ⟨pc,2,none⟩ (.int .i64 (O.ar.grn:Int))).heap.size by simp)
  generalize w5.setCell ⟨pc,2,none⟩ (.int .i64 (O.ar.grn:Int))=w6 at *
  clear M5 HLS5 q2 q3 cl fz pl MB M4
  go_loopw [65] (fun u wr=>∃ k:Nat,k≤12∧u=.int .i64 k∧∃ wv ev,MC w h wr pc O.ar.nur wv ev h.rv h.wv O.cd (rootsN O.ar O.rt k) O.rg ⟨⟨(mRoots O.ar (O.rt.take k)).1,[],[]⟩,O.ar.grn,O.wt⟩∧OwnI h pc O.ar.nur w4.heap.size wv ev∧w4.heap.size≤wr.heap.size∧Sl wr 3 1 (.slice bo O.ar.things.2.length bc) O.ar.things.2.length (O.ar.things.2.map (Value.int .i64))) (fun u _=>12-(intOf u).toNat)
  case atStart=>exact ⟨0,Nat.zero_le _,rfl,_,_,M6.out,HI6.out,by have:=HSZ5.out;have:=HSZ6.out;omega,HLS6.out⟩
  case round=>
   clear M6 HLS6 HI6 ev6 wv6
   obtain ⟨k,hk,rfl,wv,ev,hM,hI,hsz,hls⟩:=hrel
   have M:=Hz hM;have HLS:=Hz hls;have HI:=Hz hI;have HSR:=Hz hsz
   clear hM hls hI hsz
   by_cases hlt:k<12
   ·have hl12:=HOK.out.h12
    have hrl:(rootsN O.ar O.rt k).length=12:=by rw [rootsN_len (by omega)];exact hl12
    have hst:=rootsN_step (A:=O.ar) (rt:=O.rt) (k:=k) (by omega)
    have hgt:=rootsN_get (A:=O.ar) (rt:=O.rt) (k:=k) (by omega)
    have HST:=Hz hst
    obtain ⟨gr',og',rcap',ero,hgl,hfz,hcl⟩:=M.out.rootCells hrl
    rw [HRO.out] at ero
    cases ero
    have d0:=hcl k (by omega)
    rw [hgt] at d0
    have q3:=M.out.C.J.cells.2.2.2.2.2.2.2.2;have pl:=M.out.C.J.hp.lt
    dsimp only at q3
    rw [HRO.out] at q3
    have hf:=hfz (og+k)
    have HFZ:=Hz hfz
    clear hst hgt hcl hl12 hfz
    generalize O.rt.getD k 0=x at *
    go_wp2_with fail
    have MD:=Hz (M.out.same ((Kz wr).drew))
    refine wp_region_ro (.free 0 (.free 1 (.free 2 (.free 4 (.free 5 (.free 6 (.pure 3 (.run 7 (.free 8 (.run 9 (.swi [] (.fin)))))))))))) [9] (fun w'=>w'.cell? ⟨h.p,3,none⟩=some (.slice (some ⟨gr,og,none⟩) 12 rcap)) (by kernel_rfl) (by kernel_rfl) q3 ?_
    iterate 7 first | (refine wpRO_free rfl rfl _ (fun w'=>by go_simp;exact Gives.mk _ _) (fun K hK=>?_);go_simp;refine hK _ ?_;clear hK K) | (refine wpRO_skipF rfl rfl (fun K hK=>?_);go_simp;refine hK _ ?_;clear hK K) | (refine wpRO_pure rfl rfl _ (fun w' hG=>by obtain g0:=hG;exact gives_agg2 rfl (by decide +kernel) rfl (by assumption) (by assumption)) (fun K hK=>?_);go_simp;refine hK _ ?_;clear hK K) | (refine wpRO_pure rfl rfl _ (fun w' hG=>by obtain g0:=hG;go_simp;exact Gives.mk _ _) (fun K hK=>?_);go_simp;refine hK _ ?_;clear hK K) | (refine wpRO_skip rfl rfl (fun K hK=>?_);go_simp;refine hK _ ?_;clear hK K)
    refine wpRO_run rfl rfl (fun K hK=>?_);unfold gRun;go_simp
    refine (mBring_c x MD.out.C.J).mono ?_
    rintro e w7 ⟨rfl,t⟩
    have T:=Hz t
    have hsm:=Sm.bring MD.out.C.ok.ok x
    obtain ⟨wv7,ev7,M7',o7⟩:=MD.out.step (MD.out.C.cut (MD.out.C.J.arenaTo t) (MD.out.C.ok.arena hsm.ok) hsm.nur)
    have M7:=Hz M7'
    have HI7:=Hz (HI.out.step o7 HSR.out)
    have HS7:=Hz (Nat.le_trans HSR.out t.k.size)
    have q3':=M7.out.C.J.cells.2.2.2.2.2.2.2.2
    dsimp only at q3'
    rw [HRO.out] at q3'
    refine hK _ _ (fun _=>q3') ?_
    clear hK K M7' o7 hsm t q3 q3' d0 hgl pl hf
    obtain ⟨gr',og',rcap',ero,hgl,hfz,hcl⟩:=M7.out.rootCells hrl
    rw [HRO.out] at ero
    cases ero
    have d0:=hcl k (by omega)
    have hf:=hfz (og+k)
    clear hcl hfz
    iterate 1 first | (refine wpRO_free rfl rfl _ (fun w'=>by go_simp;exact Gives.mk _ _) (fun K hK=>?_);go_simp;refine hK _ ?_;clear hK K) | (refine wpRO_skipF rfl rfl (fun K hK=>?_);go_simp;refine hK _ ?_;clear hK K)
    refine wpRO_chg rfl rfl rfl (fun K hK=>?_);unfold gRun;go_simp
    refine hK _ _ ?_
    clear hK K d0 hf
    refine wpRO_swi (fun _=>True) trivial (wpRO_fin ?_)
    have M8:=Hz (M7.out.root (x:=mNow (mBring (mRoots O.ar (O.rt.take k)).1 x) x) (by rw [HRO.out,hrl]) (by rw [hrl];exact hlt))
    have HL8:=Hz (show Sl (w7.setCell ⟨gr,og+k,none⟩ (.int .i64 (mNow (mBring (mRoots O.ar (O.rt.take k)).1 x) x))) 3 1 (.slice bo O.ar.things.2.length bc) O.ar.things.2.length (O.ar.things.2.map (Value.int .i64)) by
     have k1:=(Kz wr).drew
     have h1:=HLS.out.keep k1 (fun _ _ h=>h)
     have h2:=h1.keep T.out.k (fun b hb e=>MD.out.list_apart HI.out h1 HLT.out hb (.inl (e.elim (fun e=>.inr (.inl e)) (fun e=>.inr (.inr (.inl e))))))
     refine h2.keep ((Keeps.refl (·=gr) w7).setCell (p:=⟨gr,og+k,none⟩) (.inl rfl) _) (fun b hb e=>?_)
     obtain ⟨_,l,h'⟩:=M7.out.hr.own (k:=gr) (by rw [HRO.out];rfl)
     obtain ⟨_,l2,h3⟩:=h2.own hb
     exact h3.ne h' (by decide) e)
    rw [HST.out.2] at M8
    clear M7 T MD
    go_wp2_with fail
    go_roundw
    case rel=>exact ⟨k+1,hlt,by go_num,_,_,by rw [HST.out.1];exact M8.out,HI7.out,by have:=HS7.out;simpa using this,HL8.out⟩
    case measure=>simp [intOf];omega
   ·obtain rfl:k=12:=by omega
    have hr12:rootsN O.ar O.rt 12=(mRoots O.ar O.rt).2:=by
     unfold rootsN
     rw [List.take_of_length_le (by rw [HOK.out.h12];exact Nat.le_refl _),List.drop_eq_nil_of_le (by rw [HOK.out.h12];exact Nat.le_refl _),List.append_nil]
    rw [hr12,List.take_of_length_le (by rw [HOK.out.h12];exact Nat.le_refl _)] at M
    clear hr12 hlt hk
    obtain ⟨w7,rfl⟩:∃ x:World,x=wr:=⟨wr,rfl⟩
    have HLL:=Hz (show O.ar.things.2.length≤1300 from Ar.list_len O.ar 1300 _ _)
    have HLB:=Hz (show ∀ p ∈ O.ar.things.2,0≤p∧p≤1300 from fun p hp=>by have:=list_bounds O.ar 1300 _ _ p hp;omega)
    obtain ⟨L,hL⟩:∃ L,O.ar.things.2=L:=⟨_,rfl⟩
    have HLE:=Hz hL
    rw [hL] at HLS HLL HLB HLT
    obtain ⟨A1,hA1⟩:∃ A,(mRoots O.ar O.rt).1=A:=⟨_,rfl⟩
    have HA1:=Hz hA1
    rw [hA1] at M
    obtain ⟨rt1,hrt1⟩:∃ l,(mRoots O.ar O.rt).2=l:=⟨_,rfl⟩
    have HRT:=Hz hrt1
    rw [hrt1] at M
    rw [hL]
    clear hL hA1 hrt1
    have hll:=HLL.out
    go_wp2_with fail
    go_loopw [82] (fun u wr=>∃ k:Nat,k≤L.length∧u=.int .i64 k∧∃ wv ev,MC w h wr pc O.ar.nur wv ev h.rv h.wv O.cd rt1 O.rg ⟨mDirty O.ar.nur O.cd ⟨A1,[],[]⟩ (L.take k),O.ar.grn,O.wt⟩∧MsOk (mDirty O.ar.nur O.cd ⟨A1,[],[]⟩ (L.take k)) k∧OwnI h pc O.ar.nur w4.heap.size wv ev∧w4.heap.size≤wr.heap.size∧Sl wr 3 1 (.slice bo L.length bc) L.length (L.map (Value.int .i64))) (fun u _=>L.length-(intOf u).toNat)
    case atStart=>exact ⟨0,Nat.zero_le _,rfl,_,_,M.out,⟨by simp [mDirty],(fun i hi=>by cases hi),(fun i hi=>by cases hi)⟩,HI.out,HSR.out,HLS.out⟩
    case round=>
     clear M HI HSR HLS wv ev
     obtain ⟨k,hk,rfl,wv,ev,hM,hms,hI,hsz,hls⟩:=hrel
     have M:=Hz hM;have HLS:=Hz hls;have HI:=Hz hI;have HSR:=Hz hsz;have HMS:=Hz hms
     clear hM hls hI hsz hms
     by_cases hlt:k<L.length
     ·obtain ⟨_,_,e',rd,-,-⟩:=HLS.out.rd
      cases e'
      obtain ⟨ge,oe,rfl,d0⟩:=rd.int k hlt
      have hgl:=(HLS.out.own rfl).1
      have hin:=HLB.out (L.getD k 0) (by rw [List.getD_eq_getElem?_getD,List.getElem?_eq_getElem hlt];exact List.getElem_mem hlt)
      have HDS:=Hz (mDirty_snoc (base:=O.ar.nur) (cd:=O.cd) (s:=⟨A1,[],[]⟩) hlt)
      have hml:=HMS.out.len
      generalize L.getD k 0=i at *
      obtain ⟨sk,hsk⟩:∃ s,mDirty O.ar.nur O.cd ⟨A1,[],[]⟩ (L.take k)=s:=⟨_,rfl⟩
      rw [hsk] at M HMS HDS hml
      clear hsk rd
      have p1:=M.out.C.J.cells.2.2.2.2.2.2.1;have pl:=M.out.C.J.hp.lt
      dsimp only at p1
      have hcd:=HOK.out.hc
      go_wp2_with fail
      refine (Dirty_c h.pc h.cb O.ar.nur i O.cd wr M.out.hc (by omega) (by omega) (by omega) (by omega) (by omega)).mono ?_
      rintro e w8 ⟨rfl,rfl⟩
      clear p1 pl d0
      cases hdi:dirtyL O.ar.nur O.cd i
      ·have HE:=Hz (HDS.out.trans (if_neg (by rw [hdi];decide)))
       clear hdi HDS
       go_wp2_with fail
       go_roundw
       case rel=>
        (repeat apply Exists.intro)
        exact ⟨⟨k+1,hlt,by go_num,wv,ev,by rw [HE.out];exact M.out,by rw [HE.out];exact HMS.out.more (by omega),HI.out,HSR.out,HLS.out⟩,rfl⟩
       case measure=>simp [intOf];omega
      ·have HE:=Hz (HDS.out.trans (if_pos hdi))
       clear hdi HDS
       go_wp2_with fail
       refine (mLook_c i M.out.C.J hin.1 hin.2 (by dsimp only;have:=HLL.out;omega)).mono ?_
       rintro e w8 ⟨rfl,t⟩
       have hml2:=(HMS.out.look hin.1 hin.2)
       have HMS2:=Hz hml2
       have hsm:=Sm.look M.out.C.ok.ok i
       obtain ⟨_,_,_,kt,_⟩:=id t
       have HL8:=Hz (HLS.out.keep kt (fun b hb ho=>M.out.list_apart HI.out HLS.out HLT.out hb (.inl ho)))
       obtain ⟨wv8,ev8,M8',o8⟩:=M.out.step (M.out.C.cut t ⟨hsm.ok,hml2.more (by have:=HLL.out;dsimp only;omega),by dsimp only;omega,by dsimp only;omega⟩ hsm.nur)
       have M8:=Hz M8'
       have HI8:=Hz (HI.out.step o8 HSR.out)
       have HS8:=Hz (Nat.le_trans HSR.out kt.size)
       clear t kt hml2 hsm M8' o8
       go_wp2_with fail
       go_roundw
       case rel=>
        (repeat apply Exists.intro)
        exact ⟨⟨k+1,hlt,by go_num,wv8,ev8,by rw [HE.out];exact M8.out,by rw [HE.out];exact HMS2.out.more (by omega),HI8.out,HS8.out,HL8.out⟩,rfl⟩
       case measure=>simp [intOf];omega
     ·obtain rfl:k=L.length:=by omega
      rw [List.take_length] at M
      clear HMS HLS hlt hk
      have HPRE:=Hz (show mPre O=mDrain 2000 ⟨mDirty O.ar.nur O.cd ⟨A1,[],[]⟩ L,O.ar.grn,O.wt⟩ by unfold mPre;rw [HLE.out,HA1.out])
      go_wp2_with fail
      refine (mDrain_c M.out.C).mono ?_
      rintro e w8 ⟨rfl,t⟩
      obtain ⟨wv8,ev8,M8',-⟩:=M.out.step t
      rw [←HPRE.out] at M8'
      have M8:=Hz M8'
      clear t M8' M
      have p2:=M8.out.C.J.cells.2.2.2.2.2.2.2.1;have pl:=M8.out.C.J.hp.lt
      dsimp only at p2
      go_wp2_with fail
      refine wp_region_ro (.free 0 (.free 1 (.free 2 (.free 4 (.pure 3 (.run 5 (.run 6 (.swi [] (.fin))))))))) [6] (fun w'=>w'.cell? ⟨h.p,2,none⟩=some (.pointer (some ⟨h.ps,0,none⟩))) (by kernel_rfl) (by kernel_rfl) p2 ?_
      iterate 5 first | (refine wpRO_free rfl rfl _ (fun w'=>by go_simp;exact Gives.mk _ _) (fun K hK=>?_);go_simp;refine hK _ ?_;clear hK K) | (refine wpRO_skipF rfl rfl (fun K hK=>?_);go_simp;refine hK _ ?_;clear hK K) | (refine wpRO_pure rfl rfl _ (fun w' hG=>by obtain g0:=hG;exact gives_agg2 rfl (by decide +kernel) rfl (by assumption) (by assumption)) (fun K hK=>?_);go_simp;refine hK _ ?_;clear hK K) | (refine wpRO_pure rfl rfl _ (fun w' hG=>by obtain g0:=hG;go_simp;exact Gives.mk _ _) (fun K hK=>?_);go_simp;refine hK _ ?_;clear hK K) | (refine wpRO_skip rfl rfl (fun K hK=>?_);go_simp;refine hK _ ?_;clear hK K)
      refine wpRO_run rfl rfl (fun K hK=>?_);unfold gRun;go_simp
      refine (mSaved_c (M8.out.same ((Kz w8).drew)).C.J).mono ?_
      rintro e w9 ⟨b,rfl,hb,hk,hlo⟩
      have M9:=Hz (M8.out.same ((Kz w8).drew.trans hk))
      have HB9:=Hz hb;have HLO9:=Hz (show w8.heap.size≤b from hlo)
      have p2':=M9.out.C.J.cells.2.2.2.2.2.2.2.1
      dsimp only at p2'
      refine hK _ _ (fun _=>p2') ?_
      clear hK K hb hk hlo p2 p2' pl
      skip
      refine wpRO_chg rfl rfl rfl (fun K hK=>?_);unfold gRun;go_simp
      have hq24:=HOK.out.hq
      refine (Settle_c h.ps (mSettleL ⟨h.p,h.pa,h.g,h.pc,h.ps,h.ro,pc,O.ar.nur⟩ b) ((mPre O).s,(mPre O).c) (fun k=>(CH.mk h.p h.pa h.g h.pc h.ps h.ro pc O.ar.nur).Own wv8 ev8 k∨k=b) h.rv h.wv O.rg (mPre O).q w9 ⟨wv8,ev8,M9.out.C.J,M9.out.C.ok,M9.out.C.nb,HB9.out,rfl⟩ M9.out.C.S (fun k hk=>by
       rcases hk with ⟨h1 | h1,h2⟩
       ·exact M9.out.C.J.side_apart M9.out.C.S h1 h2
       ·subst h1
        obtain ⟨_,U,h3,hU⟩:=M9.out.C.S.fp_type h2
        refine HB9.out.ne h3 ?_ rfl
        rcases hU with rfl | rfl <;> decide) (by omega) (by rw [HPRE.out,mDrain_len];dsimp only;omega) (fun e he=>HOK.out.hg e he) (fun e he=>M9.out.C.q e he)).mono ?_
      rintro e w10 ⟨rfl,F',rv',qv',⟨wv',ev',hJ',hsc,hnb,hb',rfl⟩,hS',-,hk',-,hsf⟩
      refine hK _ _ ?_
      clear hK K
      refine wpRO_swi (fun _=>True) trivial (wpRO_fin ?_)
      have HPS:=Hz (show passM (mSettleL ⟨h.p,h.pa,h.g,h.pc,h.ps,h.ro,pc,O.ar.nur⟩ b).alive (mSettleL ⟨h.p,h.pa,h.g,h.pc,h.ps,h.ro,pc,O.ar.nur⟩ b).keep ((mPre O).s,(mPre O).c) O.rg (mPre O).q=mPass O from rfl)
      rw [HPS.out] at hJ' hsc hnb hS'
      have M10:=Hz (show ME w h w10 pc O.ar.nur wv' ev' rv' qv' O.cd rt1 (newRegs mtAlive mtNow (mPass O).1 (mPass O).2.2) (newWait mtAlive mtNow (mPass O).1 (mPass O).2.1) (mPass O).1.1 (mPass O).1.2 by
       have hne:∀ {k:Nat} {l:List Value} {T:TypeId},Blk w9 k l T→T≠102→¬ ((CH.mk h.p h.pa h.g h.pc h.ps h.ro pc O.ar.nur).Own wv8 ev8 k∨SideFp h.ps h.rv h.wv k)→¬ (((CH.mk h.p h.pa h.g h.pc h.ps h.ro pc O.ar.nur).Own wv8 ev8 k∨k=b)∨SideFp h.ps h.rv h.wv k):=fun hb hT hn hx=>by
        rcases hx with (h1 | h1) | h1
        ·exact hn (.inl h1)
        ·subst h1;exact hb.ne HB9.out hT rfl
        ·exact hn (.inr h1)
       have M:=M9.out
       refine ⟨hJ',hS',M.hc.keep hk' (hne M.hc.hp (by decide) (M.type M.hc.hp (by decide))) (hne M.hc.hq (by decide) (M.type M.hc.hq (by decide))),M.hr.keep hk' (fun k hk=>?_),M.ap,M.K.then hk' (fun k hk=>?_),fun k hk=>?_⟩
       ·obtain ⟨_,l,h'⟩:=M.hr.own hk
        exact hne h' (by decide) (M.roots_ne hk)
       ·rcases hk with (h1 | h1) | h1
        ·exact M.own k (.inl h1)
        ·subst h1;exact .inr (Nat.le_trans M8.out.K.size HLO9.out)
        ·exact M.own k (.inr h1)
       ·rcases hsf k hk with h1 | h1
        ·exact M.own k (.inr h1)
        ·exact .inr (Nat.le_trans M.K.size h1))
      have HSC:=Hz (show ScOk (mPass O).1.1 (mPass O).1.2 from hsc)
      have HNB:=Hz (show (O.ar.nur:Int)=(mPass O).1.1.A.nur from hnb)
      clear hJ' hsc hnb hb' hS' hk' hsf HPS M8 M9
      go_wp2_with fail
      refine (mGone_c M10.out.J (HSC.out.ms.more (by have:=HSC.out.c1;omega))).mono ?_
      rintro e w11 ⟨rfl,t⟩
      have M11:=Hz (M10.out.arena t)
      clear t M10
      have p1:=M11.out.J.cells.2.2.2.2.2.2.1;have pl:=M11.out.J.hp.lt
      dsimp only at p1
      go_wp2_with fail
      refine (Clear_c h.pc h.cb O.ar.nur O.cd w11 M11.out.hc).mono ?_
      rintro e w12 ⟨rfl,hc,hk⟩
      have M12:=Hz (M11.out.cards hc hk)
      clear hc hk p1 pl M11
      have p0:=M12.out.J.cells.2.2.2.2.2.1;have pl:=M12.out.J.hp.lt
      dsimp only at p0
      go_wp2_with fail
      refine (AClear_c w12 M12.out.J.ha).mono ?_
      rintro e w13 ⟨rfl,t⟩
      have M13:=Hz (M12.out.arena t)
      clear t M12 p0 pl
      have HE:=Hz (show mCut O=(0,⟨(mGone (mPass O).1.1).clear,List.replicate O.cd.length false,rt1,newRegs mtAlive mtNow (mPass O).1 (mPass O).2.2,newWait mtAlive mtNow (mPass O).1 (mPass O).2.1⟩) by
       unfold mCut
       rw [if_neg (by have:=HF.out;omega),HRT.out]
       congr 2
       simp [List.eq_replicate_iff])
      have HRM:=Hz (HR.out.minor.2)
      go_wp2_with fail
      go_ret
      refine ⟨by rw [HE.out];rfl,?_⟩
      obtain ⟨ψ,R'⟩:=HRM.out
      have hok':=R'.ho
      rw [HE.out] at hok' ⊢
      refine M13.out.done ?_ hok'
      rw [HNB.out]
      have:=(Sm.gone HSC.out.ok).nur
      show ((mPass O).1.1.A.nur:Int)=((mGone (mPass O).1.1).clear.nur:Int)
      rw [←this];rfl
end
end
section
open Go.RowKit
def mB1:Wo:=(woC (Wo.new 16 8) 0 1 2 1 0).2
theorem rootN0:rootN 0=0:=by decide +kernel
theorem rootN1:rootN 1=1:=by decide +kernel
section
variable {w w':World} {h:BH} {O O':Wo} {W W':Wd}
theorem bothDoX_c (d xa xb xc:Int) (B:BothAt w h O W) (hd:d<0∨5<d) (hb:R64 xa) :
  Calls Tryz.prog 15 #[.pointer (some ⟨h.p,0,none⟩), .agg #[.int .i64 d, .int .i64 xa, .int .i64 xb, .int .i64 xc]] w (BothDoRet w h O W d xa xb (rootN xa) (rootN xc)):=by
 have e0:(d == 0)=false:=by simp;omega
 have e1:(d == 1)=false:=by simp;omega
 have e2:(d == 2)=false:=by simp;omega
 have e3:(d == 3)=false:=by simp;omega
 have e4:(d == 4)=false:=by simp;omega
 have e5:(d == 5)=false:=by simp;omega
 have HWO:=Hz (show woC O d xa xb (rootN xa) (rootN xc)=(0,O) by unfold woC;repeat (rw [if_neg (by omega)]))
 have HWD:=Hz (show wdC W d xa xb (rootN xa) (rootN xc)=(0,W) by unfold wdC;repeat (rw [if_neg (by omega)]))
 clear hd
 have HBW:=Hz B
 have ka:=(Kz w).alloc (.cells #[.int .i64 d, .int .i64 xa, .int .i64 xb, .int .i64 xc] 31)
 have hs:Blk (w.alloc (.cells #[.int .i64 d, .int .i64 xa, .int .i64 xb, .int .i64 xc] 31)) w.heap.size [.int .i64 d, .int .i64 xa, .int .i64 xb, .int .i64 xc] 31:=Blk.newAt _ rfl rfl
 have HB1:=Hz (B.same ka);have SB:=Hz hs;have K1:=Hz ka;have HBB:=Hz hb
 clear ka hs B hb
 go_enter Tryz.func15,Tryz.ntmps15
 go_wp2_with fail
 generalize w.alloc (.cells #[.int .i64 d, .int .i64 xa, .int .i64 xb, .int .i64 xc] 31)=w1 at *
 generalize w.heap.size=sb at *
 have s0:=SB.out.cell 0;have s1:=SB.out.cell 1;have s2:=SB.out.cell 2;have s3:=SB.out.cell 3;have sl:=SB.out.lt
 simp only [List.getElem?_cons_zero,List.getElem?_cons_succ] at s0 s1 s2 s3
 refine wp_region_ro (.free 0 (.free 3 (.pure 1 (.pure 4 (.run 2 (.run 5 (.swi [] (.free 6 (.free 7 (.fin)))))))))) [5,6,7] (fun w'=>w'.cell? ⟨sb,1,none⟩=some (.int .i64 xa)∧w'.cell? ⟨sb,3,none⟩=some (.int .i64 xc)) (by kernel_rfl) (by kernel_rfl) ⟨s1,s3⟩ ?_
 iterate 4 first | (refine wpRO_free rfl rfl _ (fun w'=>by go_simp;exact Gives.mk _ _) (fun K hK=>?_);go_simp;refine hK _ ?_;clear hK K) | (refine wpRO_skipF rfl rfl (fun K hK=>?_);go_simp;refine hK _ ?_;clear hK K) | (refine wpRO_pure rfl rfl _ (fun w' hG=>by obtain ⟨s1,s3⟩:=hG;exact gives_agg2 rfl (by decide +kernel) rfl (by assumption) (by assumption)) (fun K hK=>?_);go_simp;refine hK _ ?_;clear hK K) | (refine wpRO_pure rfl rfl _ (fun w' hG=>by obtain ⟨s1,s3⟩:=hG;go_simp;exact Gives.mk _ _) (fun K hK=>?_);go_simp;refine hK _ ?_;clear hK K) | (refine wpRO_skip rfl rfl (fun K hK=>?_);go_simp;refine hK _ ?_;clear hK K)
 refine wpRO_run rfl rfl (fun K hK=>?_);unfold gRun;go_simp
 refine (Root_c xa _).mono ?_
 rintro e w2 ⟨rfl,rfl⟩
 refine hK _ _ (fun hg=>hg) ?_
 clear hK K
 refine wpRO_chg rfl rfl rfl (fun K hK=>?_);unfold gRun;go_simp
 refine (Root_c xc _).mono ?_
 rintro e w2 ⟨rfl,rfl⟩
 refine hK _ _ ?_
 clear hK K
 refine wpRO_swi (fun _=>True) trivial ?_
 iterate 2 first | (refine wpRO_free rfl rfl _ (fun w'=>by go_simp;exact Gives.mk _ _) (fun K hK=>?_);go_simp;refine hK _ ?_;clear hK K) | (refine wpRO_skipF rfl rfl (fun K hK=>?_);go_simp;refine hK _ ?_;clear hK K)
 refine wpRO_fin ?_
 have ha12:=rootN_lt xa;have hc12:=rootN_lt xc
 generalize rootN xa=a at *
 generalize rootN xc=c at *
 have HB2:=Hz (HB1.out.same ((Kz w1).drew));have K2:=Hz (K1.out.drew);have SB2:=Hz (show Blk w1.drew sb _ _ from SB.out.drew)
 clear s0 s1 s2 s3 sl HB1 K1 SB
 generalize w1.drew=w2 at *
 have s0:=SB2.out.cell 0;have s1:=SB2.out.cell 1;have s2:=SB2.out.cell 2;have s3:=SB2.out.cell 3;have sl:=SB2.out.lt
 simp only [List.getElem?_cons_zero,List.getElem?_cons_succ] at s0 s1 s2 s3
 have b0:=HB2.out.hp.cell 0;have b1:=HB2.out.hp.cell 1;have bl:=HB2.out.hp.lt
 simp only [List.getElem?_cons_zero,List.getElem?_cons_succ] at b0 b1
 have hor12:=HB2.out.H.ok.h12
 obtain ⟨g,o,cap,hro,hown,hgl,q3,fz,rcs⟩:=HB2.out.H.roots
 obtain ⟨q0,q1,q2,-⟩:=HB2.out.H.ptrs
 have ra:=rcs a (by omega);have rc:=rcs c (by omega)
 have fc:=fz (o+c)
 rw [hor12] at q3 hro
 have HRO:=Hz hro;have HOWN:=Hz hown;have HO12:=Hz hor12;have HFZ:=Hz fz;have HRCS:=Hz rcs
 have ql:=HB2.out.H.hp.lt
 clear hro hown hor12 fz rcs
 have yl:(O.ar.yng:Int)≤1280:=by have:=HB2.out.H.ok.ha.h1;have:=HB2.out.H.ok.ha.h2;have:=HB2.out.H.ok.ha.h3;have:=HB2.out.H.ok.ha.h4;omega
 have ha12i:(a:Int)<12:=by omega
 have hc12i:(c:Int)<12:=by omega
 clear q0 q1 q2 q3 ql ra rc b0 b1 bl hgl fc
 go_wp2_with fail
 go_ret
 unfold BothDoRet
 rw [HWO.out,HWD.out]
 exact ⟨rfl,BothTo.same HBW.out K2.out⟩
theorem bothDo_c (d xa xb xc:Int) (B:BothAt w h O W) (hT:W.T.length≤90000) (ha:R64 xa) (hb:R64 xb) :
  Calls Tryz.prog 15 #[.pointer (some ⟨h.p,0,none⟩), .agg #[.int .i64 d, .int .i64 xa, .int .i64 xb, .int .i64 xc]] w (BothDoRet w h O W d xa xb (rootN xa) (rootN xc)):=by
 rcases (by omega:d=0∨d=1∨d=2∨d=3∨d=4∨d=5∨(d<0∨5<d)) with rfl | rfl | rfl | rfl | rfl | rfl | hd
 ·exact bothDo0_c xa xb xc B hT hb
 ·exact bothDo1_c xa xb xc B hb
 ·exact bothDo2_c xa xb xc B hb
 ·exact bothDo3_c xa xb xc B ha
 ·exact bothDo4_c xa xb xc B ha
 ·exact bothDo5_c xa xb xc B ha
 ·exact bothDoX_c d xa xb xc B hd ha
end
section
variable {w0 w w':World} {p:Nat} {h:BH} {O O':Wo} {W W':Wd}
theorem BM.pc (M:BM w0 w p h O W):w.cell? ⟨p,0,none⟩=some (.pointer (some ⟨h.a.p,0,none⟩))∧w.cell? ⟨p,1,none⟩=some (.pointer (some ⟨h.b.p,0,none⟩))∧p<w.heap.size:=by
 have:=M.B.pcells
 rw [M.e] at this
 exact this
theorem BM.do_c (M:BM w0 w p h O W) (d xa xb xc:Int) (hT:W.T.length≤90000) (ha:R64 xa) (hb:R64 xb) :
  Calls Tryz.prog 15 #[.pointer (some ⟨p,0,none⟩), .agg #[.int .i64 d, .int .i64 xa, .int .i64 xb, .int .i64 xc]] w (BothDoRet w h O W d xa xb (rootN xa) (rootN xc)):=by
 have:=bothDo_c d xa xb xc M.B hT ha hb
 rw [M.e] at this
 exact this
theorem BM.wood (M:BM w0 w p h O W) (t:WoodTo w h.a w' O'):∃ h',BM w0 w' p h' O' W:=M.to (BothTo.wood M.B t)
end
end
section
section
variable {O:Wo} {W:Wd} {φ:Int→Int}
theorem setR_len (W:Wd) (r:Int) (v:Vl):(W.setR r v).T.length=W.T.length:=rfl
theorem setF_len (W:Wd) (i:Int) (fs:List Vl):(W.setF i fs).T.length=W.T.length:=by simp [Wd.setF]
theorem wdC_len (W:Wd) (d xa b:Int) {a c:Nat} (ha:a<12) (hc:c<12):(wdC W d xa b a c).2.T.length≤W.T.length+1:=by
 unfold wdC
 by_cases d0:d=0
 ·rw [if_pos d0]
  unfold Wd.fresh
  split
  ·simp [Wd.put]
  ·simp
 rw [if_neg d0]
 by_cases d1:d=1
 ·rw [if_pos d1]
  unfold Wd.do
  rw [if_pos (check12 ha hc b)]
  show (W.set _).2.T.length≤_
  unfold Wd.set
  split
  ·rw [setF_len];omega
  ·dsimp only;omega
 rw [if_neg d1]
 by_cases d2:d=2
 ·rw [if_pos d2]
  unfold Wd.do
  rw [if_pos (check11 ha hc b)]
  show (W.get _).2.T.length≤_
  unfold Wd.get
  split
  ·rw [setR_len];omega
  ·dsimp only;omega
 rw [if_neg d2]
 by_cases d3:d=3
 ·rw [if_pos d3]
  unfold Wd.do
  split
  ·show (W.setR _ _).T.length≤_
   rw [setR_len];omega
  ·dsimp only;omega
 rw [if_neg d3]
 by_cases d4:d=4
 ·rw [if_pos d4]
  unfold Wd.do
  rw [if_pos (check2 hc)]
  show (W.setR _ _).T.length≤_
  rw [setR_len];omega
 rw [if_neg d4]
 by_cases d5:d=5
 ·rw [if_pos d5]
  unfold Wd.do
  rw [if_pos (check9 ha hc)]
  show (W.reg _).2.T.length≤_
  unfold Wd.reg
  split
  ·dsimp only;omega
  ·split <;> (dsimp only;omega)
 rw [if_neg d5]
 dsimp only;omega
end
end
section
open Go.RowKit
section
variable {p g:Nat} {A:Ar}
end
def faultM (n o:Int):Int × Int:=if Ar.fits n o=true then (0,0) else (1,-1)
theorem F_c (a b:Int) (w:World) :
  Calls Tryz.prog 45 #[.int .i64 a, .int .i64 b] w fun e w'=>e=.returned (.agg #[.int .i64 a, .int .i64 b])∧Keeps (fun _=>False) w w':=by
 go_enter Tryz.func45,Tryz.ntmps45
 go_wp2_with fail
 exact bodyPost_ret (v:=.agg #[.int .i64 a, .int .i64 b]) (by simp [results,Tryz.results45,go_sem]) rfl ⟨rfl,(Keeps.refl _ _).alloc _⟩
theorem RoomFault_c (n o:Int) (w:World) :
  Calls Tryz.prog 14 #[.int .i64 n, .int .i64 o] w fun e w'=>e=.returned (.agg #[.int .i64 (faultM n o).1, .int .i64 (faultM n o).2])∧Keeps (fun _=>False) w w':=by
 cases hf:Ar.fits n o
 ·have HE:=Hz (show faultM n o=(1,-1) by unfold faultM;rw [hf];rfl)
  have hc:n<16∨256<n∨o<0∨1024<o:=by
   by_cases h1:16≤n
   ·by_cases h2:n≤256
    ·by_cases h3:0≤o
     ·by_cases h4:o≤1024
      ·simp [Ar.fits,h1,h2,h3,h4] at hf
      ·omega
     ·omega
    ·omega
   ·omega
  clear hf
  by_cases c1:n<16
  ·have d1:decide (n<16)=true:=by simpa using c1
   clear hc
   go_enter Tryz.func14,Tryz.ntmps14
   go_wp2_with fail
   refine (F_c 1 (-1) _).mono ?_
   rintro e w1 ⟨rfl,hk⟩
   have hka:=(Kz w).alloc (.cells #[.int .i64 0, .int .i64 0] 28)
   have hb:=hk.blk (show Blk (w.alloc (.cells #[.int .i64 0, .int .i64 0] 28)) w.heap.size [.int .i64 0, .int .i64 0] 28 from Blk.newAt _ rfl rfl) (fun h=>h)
   have HKA:=Hz (hka.trans hk);have HB:=Hz hb
   have l0:=hb.cell 0;have l1:=hb.cell 1;have ll:=hb.lt;have f0:=hb.free 0;have f1:=hb.free 1
   simp only [List.getElem?_cons_zero,List.getElem?_cons_succ] at l0 l1
   clear hk hka hb
   go_wp2_with fail
   have hb3:=(HB.out.setSame 0 (.int .i64 1)).setSame 1 (.int .i64 (-1))
   have x0:=hb3.cell 0;have x1:=hb3.cell 1
   simp only [List.set_cons_zero,List.set_cons_succ,List.getElem?_cons_zero,List.getElem?_cons_succ] at x0 x1
   refine bodyPost_ret (v:=.agg #[.int .i64 1, .int .i64 (-1)]) (by simp [results,Tryz.results14,go_sem,x0,x1]) rfl ⟨by rw [HE.out],?_⟩
   exact (HKA.out.setCell (p:=⟨w.heap.size,0,none⟩) (.inr (Nat.le_refl _)) _).setCell (p:=⟨w.heap.size,1,none⟩) (.inr (Nat.le_refl _)) _
  have d1:decide (n<16)=false:=by simpa using c1
  by_cases c2:256<n
  ·have d2:decide (256<n)=true:=by simpa using c2
   clear hc
   go_enter Tryz.func14,Tryz.ntmps14
   go_wp2_with fail
   refine (F_c 1 (-1) _).mono ?_
   rintro e w1 ⟨rfl,hk⟩
   have hka:=(Kz w).alloc (.cells #[.int .i64 0, .int .i64 0] 28)
   have hb:=hk.blk (show Blk (w.alloc (.cells #[.int .i64 0, .int .i64 0] 28)) w.heap.size [.int .i64 0, .int .i64 0] 28 from Blk.newAt _ rfl rfl) (fun h=>h)
   have HKA:=Hz (hka.trans hk);have HB:=Hz hb
   have l0:=hb.cell 0;have l1:=hb.cell 1;have ll:=hb.lt;have f0:=hb.free 0;have f1:=hb.free 1
   simp only [List.getElem?_cons_zero,List.getElem?_cons_succ] at l0 l1
   clear hk hka hb
   go_wp2_with fail
   have hb3:=(HB.out.setSame 0 (.int .i64 1)).setSame 1 (.int .i64 (-1))
   have x0:=hb3.cell 0;have x1:=hb3.cell 1
   simp only [List.set_cons_zero,List.set_cons_succ,List.getElem?_cons_zero,List.getElem?_cons_succ] at x0 x1
   refine bodyPost_ret (v:=.agg #[.int .i64 1, .int .i64 (-1)]) (by simp [results,Tryz.results14,go_sem,x0,x1]) rfl ⟨by rw [HE.out],?_⟩
   exact (HKA.out.setCell (p:=⟨w.heap.size,0,none⟩) (.inr (Nat.le_refl _)) _).setCell (p:=⟨w.heap.size,1,none⟩) (.inr (Nat.le_refl _)) _
  have d2:decide (256<n)=false:=by simpa using c2
  by_cases c3:o<0
  ·have d3:decide (o<0)=true:=by simpa using c3
   clear hc
   go_enter Tryz.func14,Tryz.ntmps14
   go_wp2_with fail
   refine (F_c 1 (-1) _).mono ?_
   rintro e w1 ⟨rfl,hk⟩
   have hka:=(Kz w).alloc (.cells #[.int .i64 0, .int .i64 0] 28)
   have hb:=hk.blk (show Blk (w.alloc (.cells #[.int .i64 0, .int .i64 0] 28)) w.heap.size [.int .i64 0, .int .i64 0] 28 from Blk.newAt _ rfl rfl) (fun h=>h)
   have HKA:=Hz (hka.trans hk);have HB:=Hz hb
   have l0:=hb.cell 0;have l1:=hb.cell 1;have ll:=hb.lt;have f0:=hb.free 0;have f1:=hb.free 1
   simp only [List.getElem?_cons_zero,List.getElem?_cons_succ] at l0 l1
   clear hk hka hb
   go_wp2_with fail
   have hb3:=(HB.out.setSame 0 (.int .i64 1)).setSame 1 (.int .i64 (-1))
   have x0:=hb3.cell 0;have x1:=hb3.cell 1
   simp only [List.set_cons_zero,List.set_cons_succ,List.getElem?_cons_zero,List.getElem?_cons_succ] at x0 x1
   refine bodyPost_ret (v:=.agg #[.int .i64 1, .int .i64 (-1)]) (by simp [results,Tryz.results14,go_sem,x0,x1]) rfl ⟨by rw [HE.out],?_⟩
   exact (HKA.out.setCell (p:=⟨w.heap.size,0,none⟩) (.inr (Nat.le_refl _)) _).setCell (p:=⟨w.heap.size,1,none⟩) (.inr (Nat.le_refl _)) _
  have d3:decide (o<0)=false:=by simpa using c3
  have d4:decide (1024<o)=true:=by simp;omega
  clear hc
  go_enter Tryz.func14,Tryz.ntmps14
  go_wp2_with fail
  refine (F_c 1 (-1) _).mono ?_
  rintro e w1 ⟨rfl,hk⟩
  have hka:=(Kz w).alloc (.cells #[.int .i64 0, .int .i64 0] 28)
  have hb:=hk.blk (show Blk (w.alloc (.cells #[.int .i64 0, .int .i64 0] 28)) w.heap.size [.int .i64 0, .int .i64 0] 28 from Blk.newAt _ rfl rfl) (fun h=>h)
  have HKA:=Hz (hka.trans hk);have HB:=Hz hb
  have l0:=hb.cell 0;have l1:=hb.cell 1;have ll:=hb.lt;have f0:=hb.free 0;have f1:=hb.free 1
  simp only [List.getElem?_cons_zero,List.getElem?_cons_succ] at l0 l1
  clear hk hka hb
  go_wp2_with fail
  have hb3:=(HB.out.setSame 0 (.int .i64 1)).setSame 1 (.int .i64 (-1))
  have x0:=hb3.cell 0;have x1:=hb3.cell 1
  simp only [List.set_cons_zero,List.set_cons_succ,List.getElem?_cons_zero,List.getElem?_cons_succ] at x0 x1
  refine bodyPost_ret (v:=.agg #[.int .i64 1, .int .i64 (-1)]) (by simp [results,Tryz.results14,go_sem,x0,x1]) rfl ⟨by rw [HE.out],?_⟩
  exact (HKA.out.setCell (p:=⟨w.heap.size,0,none⟩) (.inr (Nat.le_refl _)) _).setCell (p:=⟨w.heap.size,1,none⟩) (.inr (Nat.le_refl _)) _
 ·have HE:=Hz (show faultM n o=(0,0) by unfold faultM;rw [hf];rfl)
  simp [Ar.fits] at hf
  have d1:decide (n<16)=false:=by simp;omega
  have d2:decide (256<n)=false:=by simp;omega
  have d3:decide (o<0)=false:=by simp;omega
  have d4:decide (1024<o)=false:=by simp;omega
  clear hf
  go_enter Tryz.func14,Tryz.ntmps14
  go_wp2_with fail
  refine bodyPost_ret (v:=.agg #[.int .i64 0, .int .i64 0]) (by simp [results,Tryz.results14,go_sem]) rfl ⟨?_,(Keeps.refl _ _).alloc _⟩
  rw [HE.out]
end
section
open Go.RowKit
theorem Rd.nth {w:World} {ao:Option Addr} {l:List Int} (h:Rd w ao (l.map (Value.int .i64))) (i:Nat) (hi:i<l.length) :
  ∃ g o,ao=some ⟨g,o,none⟩∧g<w.heap.size∧w.cell? ⟨g,o+i,none⟩=some (.int .i64 (l.getD i 0)):=by
 obtain ⟨g,o,rfl,hg,hc⟩:=h (by intro e;simp at e;subst e;simp at hi)
 refine ⟨g,o,rfl,hg,?_⟩
 rw [hc i (by simpa using hi)]
 simp [List.getD,hi]
def bA1:Ar:=((Ar.new 16 8).make 1 2).2
def bA2:Ar:=(bA1.make 2 12).2
def bA3:Ar:=(bA2.make 5 0).2
def bA4:Ar:=(bA3.copy 0).2
theorem b1:((Ar.new 16 8).make 1 2).1=0:=by decide +kernel
theorem b2:(bA1.make 2 12).1=3:=by decide +kernel
theorem b3:(bA2.make 5 0).1=-1:=by decide +kernel
theorem b4:(bA3.copy 0).1=16:=by decide +kernel
theorem b5:bA4.thing 16=(1,2,0):=by decide +kernel
theorem b6:bA4.things=([0,3],[16]):=by decide +kernel
theorem b7:bA4.load 1=2:=by decide +kernel
end
section
section
variable {O:Wo} {W:Wd} {φ:Int→Int}
theorem Wd.cut_dims (W:Wd) (major:Bool):(W.cut major).2.most=W.most∧(W.cut major).2.grow=W.grow:=by
 unfold Wd.cut
 split
 ·exact ⟨rfl,rfl⟩
 ·split <;> exact ⟨rfl,rfl⟩
theorem Wd.cut_len (W:Wd) (major:Bool):(W.cut major).2.T.length=W.T.length:=by
 unfold Wd.cut
 split
 ·rfl
 ·split
  ·rfl
  ·exact Wd.after_len
theorem Rep.olds_eq (R:Rep O W φ):((O.ar.grn-O.ar.nur:Nat):Int)=W.olds:=by
 have h:=R.ho.ha.h2
 rw [←R.so];omega
end
end
section
open Go.RowKit
theorem wpList_agg2g {P:Program} {w:World} {ops:Array Oper} {o:Oper} {a:Act} {rest:List Oper} {Q:Exit→Act→World→Prop} (hw:Region.wanted o (yielded ops a.tmps)=true) (t:TypeId) (x:Operand) (ho:o.op=.load t x) (hr:rowB P t 2=true) (b off:Nat) (hx:a.eval x=.pointer (some ⟨b,off,none⟩)) (v0 v1:Value)
  (h0:w.cell? ⟨b,off,none⟩=some v0) (h1:w.cell? ⟨b,off+1,none⟩=some v1) (h:wpList P ops Q rest (a.put o.dst (.agg #[v0,v1])) w):wpList P ops Q (o :: rest) a w:=by
 obtain ⟨d,hu,hd,hi⟩:=rowB_spec hr
 exact wpList_step fun K hK=>by
  rw [if_pos hw]
  exact wp_load_mid t x ho b off hx [v0,v1] d (rangeAt2 h0 h1) hu hd hi (hK _ _ h)
end
section
open Go.RowKit
theorem Rep.lens {O:Wo} {W:Wd} {φ:Int→Int} (R:Rep O W φ):O.view.1.length=12∧O.view.2.length≤1300∧∀ n ∈ O.view.2,n.2.length≤100:=by
 rw [R.view]
 exact (Wd.seen R.hw).lens R.hw
theorem ViewV.rep {w:World} {lo:Nat} {v:Value} {O:Wo} {W:Wd} {φ:Int→Int} (H:ViewV w lo v O.view) (R:Rep O W φ):ViewR w v O.view:=by
 obtain ⟨h1,h2,h3⟩:=R.lens
 exact H.r (by omega) (by omega) (fun n hn=>Nat.le_trans (h3 n hn) (by decide))
section
variable {w w':World}
end
end
section
open Go.RowKit
structure RVH where
 mb:Nat
 wb:Nat
 vb:Nat
 fb:Nat
def RVH.fn (g:RVH):Value:=.func (.func 104) #[] #[.pointer (some ⟨g.mb,0,none⟩), .pointer (some ⟨g.wb,0,none⟩), .pointer (some ⟨g.vb,0,none⟩), .pointer (some ⟨g.fb,0,none⟩)]
structure RvAt (w:World) (g:RVH) (h:RW) (W:Wd) (rv mv nv:Value) (F:Nat→Prop) (s:VS):Prop where
 H:WorldAt w h W
 hm:Blk w g.mb [mv] 83
 hw:Blk w g.wb [.pointer (some ⟨h.p,0,none⟩)] 35
 hv:Blk w g.vb [rv,nv] 41
 hf:Blk w g.fb [g.fn] 155
 M:Sl w 3 1 mv s.1.length (s.1.map (Value.int .i64))
 N:NodesAt w nv F s.2
 hF:∀ k,F k→k<w.heap.size∧∃ c,Blk w k c 96
 bd:∀ i ∈ s.1,0≤i∧i≤1000000
def RvFp (g:RVH) (mv nv:Value) (k:Nat):Prop:=k=g.mb∨k=g.vb∨ownB mv k∨ownB nv k
section
variable {w w':World} {g:RVH} {h:RW} {W:Wd} {rv mv nv:Value} {F:Nat→Prop} {s:VS}
theorem RvAt.fp_ne (V:RvAt w g h W rv mv nv F s) {k:Nat} {c:List Value} {T:TypeId} (hc:Blk w k c T) (h1:T≠83) (h2:T≠41) (h3:T≠3) (h4:T≠139):¬ RvFp g mv nv k:=by
 rintro (rfl | rfl | hk | hk)
 ·exact hc.ne V.hm h1 rfl
 ·exact hc.ne V.hv h2 rfl
 ·obtain ⟨_,c',hc'⟩:=V.M.own hk;exact hc.ne hc' h3 rfl
 ·obtain ⟨_,c',hc'⟩:=V.N.own hk;exact hc.ne hc' h4 rfl
theorem RvAt.world_ne (V:RvAt w g h W rv mv nv F s) {k:Nat} (hk:h.Own k):¬ RvFp g mv nv k:=by
 obtain ⟨_,c,T,hc,hT⟩:=V.H.own_type hk
 rcases hT with rfl | rfl | rfl | rfl <;> exact V.fp_ne hc (by decide) (by decide) (by decide) (by decide)
theorem RvAt.keep {S:Nat→Prop} (V:RvAt w g h W rv mv nv F s) (k:Keeps S w w') (h1:∀ j,RvFp g mv nv j→¬ S j) (h2:∀ j,h.Own j→¬ S j) (h3:∀ j,F j→¬ S j) (h4:¬ S g.wb) (h5:¬ S g.fb):RvAt w' g h W rv mv nv F s:=
 ⟨V.H.keep k h2,k.blk V.hm (h1 _ (.inl rfl)),k.blk V.hw h4,k.blk V.hv (h1 _ (.inr (.inl rfl))),k.blk V.hf h5,V.M.keep k (fun j hj=>h1 j (.inr (.inr (.inl hj)))),V.N.keep k (fun j hj _=>h3 j hj) (fun j hj=>h1 j (.inr (.inr (.inr hj)))),
  fun j hj=>by obtain ⟨a,c,hc⟩:=V.hF j hj;exact ⟨Nat.lt_of_lt_of_le a k.size,c,k.blk hc (h3 j hj)⟩,V.bd⟩
theorem RvAt.same (V:RvAt w g h W rv mv nv F s) (k:Keeps (fun _=>False) w w'):RvAt w' g h W rv mv nv F s:=V.keep k (fun _ _ h=>h) (fun _ _ h=>h) (fun _ _ h=>h) (fun h=>h) (fun h=>h)
theorem RvAt.other {b:Nat} (V:RvAt w g h W rv mv nv F s) (k:Keeps (·=b) w w') (hb:¬ RvFp g mv nv b) (h2:¬ h.Own b) (h3:¬ F b) (h4:b≠g.wb) (h5:b≠g.fb):RvAt w' g h W rv mv nv F s:=
 V.keep k (fun j hj e=>hb (e ▸ hj)) (fun j hj e=>h2 (e ▸ hj)) (fun j hj e=>h3 (e ▸ hj)) (fun e=>h4 e.symm) (fun e=>h5 e.symm)
def RvTo (w:World) (g:RVH) (h:RW) (W:Wd) (rv mv nv:Value) (F:Nat→Prop) (s':VS) (w':World):Prop:=
 ∃ mv' nv' F',RvAt w' g h W rv mv' nv' F' s'∧Keeps (RvFp g mv nv) w w'∧(∀ k,ownB mv' k→ownB mv k∨w.heap.size≤k)∧(∀ k,ownB nv' k→ownB nv k∨w.heap.size≤k)∧∀ k,F' k→F k∨w.heap.size≤k
theorem RvTo.refl (V:RvAt w g h W rv mv nv F s) (k:Keeps (fun _=>False) w w'):RvTo w g h W rv mv nv F s w':=
 ⟨mv,nv,F,V.same k,k.mono (fun _ _ h=>h.elim),fun _ h=>.inl h,fun _ h=>.inl h,fun _ h=>.inl h⟩
theorem RvFp.step {mv' nv':Value} (o0:∀ k,ownB mv' k→ownB mv k∨w.heap.size≤k) (o1:∀ k,ownB nv' k→ownB nv k∨w.heap.size≤k) {k:Nat} (hk:RvFp g mv' nv' k):RvFp g mv nv k∨w.heap.size≤k:=by
 rcases hk with rfl | rfl | hk | hk
 ·exact .inl (.inl rfl)
 ·exact .inl (.inr (.inl rfl))
 ·exact (o0 k hk).imp (fun h=>.inr (.inr (.inl h))) id
 ·exact (o1 k hk).imp (fun h=>.inr (.inr (.inr h))) id
theorem RvTo.done {w1 w2 w3:World} {s':VS} {b:Nat} (k1:Keeps (fun _=>False) w w1) (t:RvTo w1 g h W rv mv nv F s' w2) (hb0:w.heap.size≤b) (hb1:b<w1.heap.size) (hF:¬ F b) (hO:¬ h.Own b) (hbt:∃ c,Blk w2 b c 96) (k:Keeps (·=b) w2 w3) :
  RvTo w g h W rv mv nv F s' w3:=by
 obtain ⟨mv',nv',F',V,k2,o0,o1,o2⟩:=t
 obtain ⟨c,hc⟩:=hbt
 refine ⟨mv',nv',F',V.other k (V.fp_ne hc (by decide) (by decide) (by decide) (by decide)) hO (fun hf=>?_) (hc.ne V.hw (by decide)) (hc.ne V.hf (by decide)),((k1.mono (fun _ _ h=>h.elim)).trans k2).then k (fun j hj=>.inr (by rw [hj];exact hb0)),
  fun j hj=>(o0 j hj).imp id (fun h=>Nat.le_trans k1.size h),fun j hj=>(o1 j hj).imp id (fun h=>Nat.le_trans k1.size h),fun j hj=>(o2 j hj).imp id (fun h=>Nat.le_trans k1.size h)⟩
 rcases o2 b hf with h1 | h1
 ·exact hF h1
 ·omega
def RvRet (w:World) (g:RVH) (h:RW) (W:Wd) (rv mv nv:Value) (F:Nat→Prop) (r:Vl × VS) (e:Ending) (w':World):Prop:=
 e=.returned (.agg #[.int .i64 r.1.1, .int .i64 r.1.2])∧RvTo w g h W rv mv nv F r.2 w'
theorem rvalue_plain (v:Vl) (n:Nat) (V:RvAt w g h W rv mv nv F s) (h3:v.1≠3) :
  Calls Tryz.prog 104 #[.agg #[.int .i64 v.1, .int .i64 v.2], .pointer (some ⟨g.mb,0,none⟩), .pointer (some ⟨g.wb,0,none⟩), .pointer (some ⟨g.vb,0,none⟩), .pointer (some ⟨g.fb,0,none⟩)] w (RvRet w g h W rv mv nv F (valM W.gr n v s)):=by
 have HE:=Hz (valM_plain W.gr n s h3)
 have HV:=Hz V
 obtain ⟨v1,v2⟩:=v
 dsimp only at h3 ⊢
 have hd:(v1 != 3)=true:=by simpa using h3
 clear h3 V
 go_enter Tryz.func104,Tryz.ntmps104
 go_upto_region 1 with (fail)
 have ka:=(Kz w).alloc (.cells #[.int .i64 (v1), .int .i64 v2] 96)
 have xb1:Blk (w.alloc (.cells #[.int .i64 (v1), .int .i64 v2] 96)) w.heap.size [.int .i64 (v1), .int .i64 v2] 96:=Blk.newAt _ rfl rfl
 have sz1:(w.alloc (.cells #[.int .i64 (v1), .int .i64 v2] 96)).heap.size=w.heap.size+1:=by simp
 have K1:=Hz (ka.alloc (.cells #[.int .i64 0, .int .i64 0] 96))
 have XB:=Hz (xb1.alloc (.cells #[.int .i64 0, .int .i64 0] 96))
 have RB:=Hz (show Blk ((w.alloc (.cells #[.int .i64 (v1), .int .i64 v2] 96)).alloc (.cells #[.int .i64 0, .int .i64 0] 96)) (w.heap.size+1) [.int .i64 0, .int .i64 0] 96 from Blk.newAt _ sz1.symm rfl)
 have V1:=Hz (HV.out.same K1.out)
 have RNF:Hid (¬ F (w.heap.size+1)):=fun hf=>by have:=(HV.out.hF _ hf).1;omega
 have RNO:Hid (¬ h.Own (w.heap.size+1)):=fun hf=>by have:=(HV.out.H.own_type hf).1;omega
 have XNO:Hid (¬ h.Own w.heap.size):=fun hf=>by have:=(HV.out.H.own_type hf).1;omega
 have XNF:Hid (¬ F w.heap.size):=fun hf=>by have:=(HV.out.hF _ hf).1;omega
 clear ka xb1 sz1
 generalize (w.alloc (.cells #[.int .i64 (v1), .int .i64 v2] 96)).alloc (.cells #[.int .i64 0, .int .i64 0] 96)=w1 at *
 generalize hxb:w.heap.size=xb at XB RB RNF RNO XNO XNF ⊢
 have HXB:=Hz hxb
 clear hxb
 generalize hrb:xb+1=rb at RB RNF RNO ⊢
 have HRX:=Hz hrb
 clear hrb
 have HRB:=Hz (show w.heap.size≤rb by have:=HXB.out;have:=HRX.out;omega)
 have b0:=XB.out.cell 0;have b1:=XB.out.cell 1;have bl:=XB.out.lt;have r0:=RB.out.cell 0;have r1:=RB.out.cell 1;have rl:=RB.out.lt;have f0:=RB.out.free 0;have f1:=RB.out.free 1
 simp only [List.getElem?_cons_zero,List.getElem?_cons_succ] at b0 b1 r0 r1
 go_wp2_with (refine wpList_agg2 rfl 96 (.tmp 5) rfl (by kernel_rfl) xb 0 rfl _ _ b0 b1 ?_)
 have hb3:=(RB.out.setSame 0 (.int .i64 v1)).setSame 1 (.int .i64 v2)
 have x0':=hb3.cell 0;have x1':=hb3.cell 1
 simp only [List.set_cons_zero,List.set_cons_succ,List.getElem?_cons_zero,List.getElem?_cons_succ] at x0' x1'
 refine bodyPost_ret (v:=.agg #[.int .i64 v1, .int .i64 v2]) (by simp [results,Tryz.results104,go_sem,x0',x1']) rfl ?_
 unfold RvRet
 rw [HE.out]
 refine ⟨rfl,?_⟩
 have set:=((Keeps.refl (·=rb) w1).setCell (p:=⟨rb,0,none⟩) (.inl rfl) (.int .i64 v1)).setCell (p:=⟨rb,1,none⟩) (.inl rfl) (.int .i64 v2)
 exact RvTo.done K1.out (RvTo.refl V1.out (Keeps.refl _ _)) HRB.out rl RNF.out RNO.out ⟨_,RB.out⟩ set
theorem idxOf_first {l:List Int} {x:Int} {k:Nat} (hk:k<l.length) (hx:l.getD k 0=x) (h:∀ j,j<k→l.getD j 0≠x):l.idxOf x=k:=by
 induction l generalizing k with
 | nil=>simp at hk
 | cons a l ih=>
  rw [List.idxOf_cons]
  cases k with
  | zero=>
   have:a=x:=by simpa using hx
   subst this;simp
  | succ k=>
   have h0:=h 0 (by omega)
   have h0:a≠x:=by simpa using h0
   have:(a == x)=false:=by simpa using h0
   rw [this]
   have:=ih (k:=k) (by simpa using hk) (by simpa using hx) (fun j hj=>by have:=h (j+1) (by omega);simpa using this)
   simp [this]
theorem rvalue_met (v2:Int) (n:Nat) (V:RvAt w g h W rv mv nv F s) (hm:v2 ∈ s.1) (hsl:s.1.length≤5000) :
  Calls Tryz.prog 104 #[.agg #[.int .i64 3, .int .i64 v2], .pointer (some ⟨g.mb,0,none⟩), .pointer (some ⟨g.wb,0,none⟩), .pointer (some ⟨g.vb,0,none⟩), .pointer (some ⟨g.fb,0,none⟩)] w (RvRet w g h W rv mv nv F (valM W.gr n (3,v2) s)):=by
 have HE:=Hz (valM_met W.gr n (v:=(3,v2)) (s:=s) rfl hm)
 have HV:=Hz V;have HM:=Hz hm;have HSL:=Hz hsl
 clear V hm hsl
 go_enter Tryz.func104,Tryz.ntmps104
 go_upto_region 1 with (fail)
 have ka:=(Kz w).alloc (.cells #[.int .i64 (3), .int .i64 v2] 96)
 have xb1:Blk (w.alloc (.cells #[.int .i64 (3), .int .i64 v2] 96)) w.heap.size [.int .i64 (3), .int .i64 v2] 96:=Blk.newAt _ rfl rfl
 have sz1:(w.alloc (.cells #[.int .i64 (3), .int .i64 v2] 96)).heap.size=w.heap.size+1:=by simp
 have K1:=Hz (ka.alloc (.cells #[.int .i64 0, .int .i64 0] 96))
 have XB:=Hz (xb1.alloc (.cells #[.int .i64 0, .int .i64 0] 96))
 have RB:=Hz (show Blk ((w.alloc (.cells #[.int .i64 (3), .int .i64 v2] 96)).alloc (.cells #[.int .i64 0, .int .i64 0] 96)) (w.heap.size+1) [.int .i64 0, .int .i64 0] 96 from Blk.newAt _ sz1.symm rfl)
 have V1:=Hz (HV.out.same K1.out)
 have RNF:Hid (¬ F (w.heap.size+1)):=fun hf=>by have:=(HV.out.hF _ hf).1;omega
 have RNO:Hid (¬ h.Own (w.heap.size+1)):=fun hf=>by have:=(HV.out.H.own_type hf).1;omega
 have XNO:Hid (¬ h.Own w.heap.size):=fun hf=>by have:=(HV.out.H.own_type hf).1;omega
 have XNF:Hid (¬ F w.heap.size):=fun hf=>by have:=(HV.out.hF _ hf).1;omega
 clear ka xb1 sz1
 generalize (w.alloc (.cells #[.int .i64 (3), .int .i64 v2] 96)).alloc (.cells #[.int .i64 0, .int .i64 0] 96)=w1 at *
 generalize hxb:w.heap.size=xb at XB RB RNF RNO XNO XNF ⊢
 have HXB:=Hz hxb
 clear hxb
 generalize hrb:xb+1=rb at RB RNF RNO ⊢
 have HRX:=Hz hrb
 clear hrb
 have HRB:=Hz (show w.heap.size≤rb by have:=HXB.out;have:=HRX.out;omega)
 have b0:=XB.out.cell 0;have b1:=XB.out.cell 1;have bl:=XB.out.lt
 simp only [List.getElem?_cons_zero,List.getElem?_cons_succ] at b0 b1
 have c0:=V1.out.hm.cell 0;have cl:=V1.out.hm.lt
 simp only [List.getElem?_cons_zero] at c0
 obtain ⟨mo,mc,emv,-,hml,-⟩:=V1.out.M.rd
 have EMV:=Hz emv
 rw [emv] at c0
 have hsl:=HSL.out
 clear emv hml
 go_wp2_with fail
 go_loopw [7] (fun i wr=>∃ k:Nat,k≤s.1.length∧i=.int .i64 k∧Keeps (fun _=>False) w1 wr∧∀ j,j<k→s.1.getD j 0≠v2) (fun i _=>s.1.length-(intOf i).toNat)
 case atStart=>exact ⟨0,Nat.zero_le _,rfl,Keeps.refl _ _,fun j hj=>by omega⟩
 case round=>
  clear c0 cl b0 b1 bl
  obtain ⟨k,hk,rfl,hK,hN⟩:=hrel
  have KR:=Hz hK;have HN:=Hz hN
  clear hK hN
  have VR:=Hz (V1.out.same KR.out);have XR:=Hz (KR.out.blk XB.out (fun h=>h));have RR:=Hz (KR.out.blk RB.out (fun h=>h))
  have b0:=XR.out.cell 0;have b1:=XR.out.cell 1;have bl:=XR.out.lt;have c0:=VR.out.hm.cell 0;have cl:=VR.out.hm.lt
  simp only [List.getElem?_cons_zero,List.getElem?_cons_succ] at b0 b1 c0
  rw [EMV.out] at c0
  by_cases hlt:k<s.1.length
  ·obtain ⟨_,_,e',rd,-,-⟩:=VR.out.M.rd
   rw [EMV.out] at e'
   cases e'
   obtain ⟨gm,om,rfl,d0⟩:=rd.int k hlt
   have hgm:=((VR.out.M).own (k:=gm) (by rw [EMV.out];rfl)).1
   generalize hy:s.1.getD k 0=y at *
   have HY:=Hz hy
   clear rd hy
   go_wp2_with fail
   refine wp_region_ro (.free 1 (.free 4 (.pure 0 (.free 2 (.pure 3 (.pure 5 (.free 6 (.fin)))))))) [] (fun w'=>w'.cell? ⟨g.mb,0,none⟩=some (.slice (some ⟨gm,om,none⟩) s.1.length mc)∧w'.cell? ⟨gm,om+k,none⟩=some (.int .i64 y)∧w'.cell? ⟨xb,1,none⟩=some (.int .i64 v2)) (by kernel_rfl) (by kernel_rfl) ⟨c0,d0,b1⟩ ?_
   iterate 7 first | (refine wpRO_free rfl rfl _ (fun w'=>by go_simp;exact Gives.mk _ _) (fun K hK=>?_);go_simp;refine hK _ ?_;clear hK K) | (refine wpRO_skipF rfl rfl (fun K hK=>?_);go_simp;refine hK _ ?_;clear hK K) | (refine wpRO_pure rfl rfl _ (fun w' hG=>by obtain ⟨c0,d0,b1⟩:=hG;exact gives_agg2 rfl (by decide +kernel) rfl (by assumption) (by assumption)) (fun K hK=>?_);go_simp;refine hK _ ?_;clear hK K) | (refine wpRO_pure rfl rfl _ (fun w' hG=>by obtain ⟨c0,d0,b1⟩:=hG;go_simp;exact Gives.mk _ _) (fun K hK=>?_);go_simp;refine hK _ ?_;clear hK K) | (refine wpRO_skip rfl rfl (fun K hK=>?_);go_simp;refine hK _ ?_;clear hK K)
   refine wpRO_fin ?_
   clear b0 b1 bl c0 cl d0 hgm
   by_cases he:y=v2
   ·subst he
    have HIX:=Hz (idxOf_first hlt HY.out HN.out)
    have RD:=Hz (show Blk wr.drew rb [.int .i64 0, .int .i64 0] 96 from RR.out.drew)
    have KD:=Hz (KR.out.drew)
    clear RR XR VR
    generalize wr.drew=wd at *
    have r0:=RD.out.cell 0;have r1:=RD.out.cell 1;have rl:=RD.out.lt;have f0:=RD.out.free 0;have f1:=RD.out.free 1
    simp only [List.getElem?_cons_zero,List.getElem?_cons_succ] at r0 r1
    go_wp2_with fail
    have hb3:=(RD.out.setSame 0 (.int .i64 3)).setSame 1 (.int .i64 k)
    have x0':=hb3.cell 0;have x1':=hb3.cell 1
    simp only [List.set_cons_zero,List.set_cons_succ,List.getElem?_cons_zero,List.getElem?_cons_succ] at x0' x1'
    refine bodyPost_ret (v:=.agg #[.int .i64 3, .int .i64 k]) (by simp [results,Tryz.results104,go_sem,x0',x1']) rfl ?_
    unfold RvRet
    rw [HE.out]
    dsimp only
    rw [HIX.out]
    refine ⟨rfl,?_⟩
    have set:=((Keeps.refl (·=rb) wd).setCell (p:=⟨rb,0,none⟩) (.inl rfl) (.int .i64 3)).setCell (p:=⟨rb,1,none⟩) (.inl rfl) (.int .i64 k)
    exact RvTo.done K1.out (RvTo.refl V1.out KD.out) HRB.out RB.out.lt RNF.out RNO.out ⟨_,RD.out⟩ set
   ·have hd:(y == v2)=false:=by simpa using he
    have HN2:=Hz (show ∀ j,j<k+1→s.1.getD j 0≠v2 from fun j hj=>by
     rcases Nat.lt_or_eq_of_le (Nat.le_of_lt_succ hj) with h1 | rfl
     ·exact HN.out j h1
     ·rw [HY.out];exact he)
    clear he
    go_wp2_with fail
    go_roundw
    case rel=>exact ⟨k+1,hlt,by go_num,KR.out.drew,HN2.out⟩
    case measure=>simp [intOf];omega
  ·exfalso
   obtain ⟨j,hj,he⟩:=List.mem_iff_getElem.1 HM.out
   refine HN.out j (by omega) ?_
   rw [List.getD_eq_getElem?_getD,List.getElem?_eq_getElem hj];exact he
end
end
section
open Go.RowKit
section
variable {w w':World} {g:RVH} {h:RW} {W:Wd} {rv mv nv:Value} {F:Nat→Prop} {s:VS}
theorem Keeps.cellAt {S:Nat→Prop} {w w':World} (k:Keeps S w w') {b:Nat} (hb:b<w.heap.size) (hn:¬ S b) (i:Nat):w'.cell? ⟨b,i,none⟩=w.cell? ⟨b,i,none⟩:=
 World.cell?_of_block (w:=w) (a:=⟨b,i,none⟩) (k.block b hb hn)
theorem RvAt.pushMet {x:Int} {wr wa w2:World} {v':Value} (V:RvAt wr g h W rv mv nv F s) (ka:Keeps (fun _=>False) wr wa) (hs:Sl w2 3 1 v' (s.1.length+1) (s.1.map (Value.int .i64) ++ [.int .i64 x])) (hk:Keeps (ownB mv) wa w2)
  (ho:∀ k,ownB v' k→ownB mv k∨wa.heap.size≤k) (h0:0≤x∧x≤1000000):RvTo wr g h W rv mv nv F (s.1 ++ [x],s.2) (w2.setCell ⟨g.mb,0,none⟩ v'):=by
 have k1:Keeps (ownB mv) wr w2:=(ka.mono (fun _ _ h=>h.elim)).trans hk
 have nm:∀ {b:Nat} {c:List Value} {T:TypeId},Blk wr b c T→T≠3→¬ ownB mv b:=fun hb hT e=>by obtain ⟨_,c',hc'⟩:=V.M.own e;exact hb.ne hc' hT rfl
 have hm2:=k1.blk V.hm (nm V.hm (by decide))
 have set:=(Keeps.refl (·=g.mb) w2).setCell (p:=⟨g.mb,0,none⟩) (.inl rfl) v'
 have kk:Keeps (fun k=>ownB mv k∨k=g.mb) wr (w2.setCell ⟨g.mb,0,none⟩ v'):=(k1.mono (fun _ _ h=>.inl h)).then set (fun b hb=>.inl (.inr hb))
 have nb:∀ {b:Nat} {c:List Value} {T:TypeId},Blk wr b c T→T≠3→T≠83→¬ (ownB mv b∨b=g.mb):=fun hb h1 h2 e=>by
  rcases e with e | e
  ·exact nm hb h1 e
  ·exact hb.ne V.hm h2 e
 refine ⟨v',nv,F,⟨V.H.keep kk (fun b hb=>?_),by simpa using hm2.setSame 0 v',kk.blk V.hw (nb V.hw (by decide) (by decide)),kk.blk V.hv (nb V.hv (by decide) (by decide)),kk.blk V.hf (nb V.hf (by decide) (by decide)),?_,V.N.keep kk (fun b hb _=>?_) (fun b hb=>?_),fun b hb=>?_,fun i hi=>?_⟩,kk.mono (fun b _ hb=>?_),fun k hk'=>(ho k hk').imp id (fun h=>Nat.le_trans ka.size h),fun k hk'=>.inl hk',fun k hk'=>.inl hk'⟩
 ·obtain ⟨_,c,T,hc,hT⟩:=V.H.own_type hb
  rcases hT with rfl | rfl | rfl | rfl <;> exact nb hc (by decide) (by decide)
 ·rw [List.length_append,List.map_append]
  exact hs.keep set (fun b hb e=>by obtain ⟨_,c,hc⟩:=hs.own hb;exact hc.ne hm2 (by decide) e)
 ·obtain ⟨_,c,hc⟩:=V.hF b hb;exact nb hc (by decide) (by decide)
 ·obtain ⟨_,c,hc⟩:=V.N.own hb;exact nb hc (by decide) (by decide)
 ·obtain ⟨a,c,hc⟩:=V.hF b hb
  exact ⟨Nat.lt_of_lt_of_le a kk.size,c,kk.blk hc (nb hc (by decide) (by decide))⟩
 ·rcases List.mem_append.1 hi with h1 | h1
  ·exact V.bd i h1
  ·simp at h1;subst h1;exact h0
 ·rcases hb with hb | hb
  ·exact .inr (.inr (.inl hb))
  ·exact .inl hb
theorem RvAt.pushNode {kd:Int} {wr wa w2:World} {v':Value} (V:RvAt wr g h W rv mv nv F s) (ka:Keeps (fun _=>False) wr wa) (cs:List Value) (hcs:RowsC 2 (NodeRow wr F) s.2 cs) (hs:Sl w2 139 2 v' (s.2.length+1) (cs ++ [.int .i64 kd, .slice none 0 0])) (hk:Keeps (ownB nv) wa w2)
  (ho:∀ k,ownB v' k→ownB nv k∨wa.heap.size≤k):RvTo wr g h W rv mv nv F (s.1,s.2 ++ [(kd,[])]) (w2.setCell ⟨g.vb,1,none⟩ v'):=by
 have k1:Keeps (ownB nv) wr w2:=(ka.mono (fun _ _ h=>h.elim)).trans hk
 have nm:∀ {b:Nat} {c:List Value} {T:TypeId},Blk wr b c T→T≠139→¬ ownB nv b:=fun hb hT e=>by obtain ⟨_,c',hc'⟩:=V.N.own e;exact hb.ne hc' hT rfl
 have hv2:=k1.blk V.hv (nm V.hv (by decide))
 have set:=(Keeps.refl (·=g.vb) w2).setCell (p:=⟨g.vb,1,none⟩) (.inl rfl) v'
 have kk:Keeps (fun k=>ownB nv k∨k=g.vb) wr (w2.setCell ⟨g.vb,1,none⟩ v'):=(k1.mono (fun _ _ h=>.inl h)).then set (fun b hb=>.inl (.inr hb))
 have nb:∀ {b:Nat} {c:List Value} {T:TypeId},Blk wr b c T→T≠139→T≠41→¬ (ownB nv b∨b=g.vb):=fun hb h1 h2 e=>by
  rcases e with e | e
  ·exact nm hb h1 e
  ·exact hb.ne V.hv h2 e
 refine ⟨mv,v',F,⟨V.H.keep kk (fun b hb=>?_),kk.blk V.hm (nb V.hm (by decide) (by decide)),kk.blk V.hw (nb V.hw (by decide) (by decide)),by simpa using hv2.setSame 1 v',kk.blk V.hf (nb V.hf (by decide) (by decide)),V.M.keep kk (fun b hb=>?_),⟨_,by rw [List.length_append];exact hs.keep set (fun b hb e=>by obtain ⟨_,c,hc⟩:=hs.own hb;exact hc.ne hv2 (by decide) e),?_⟩,fun b hb=>?_,V.bd⟩,kk.mono (fun b _ hb=>?_),fun k hk'=>.inl hk',fun k hk'=>(ho k hk').imp id (fun h=>Nat.le_trans ka.size h),fun k hk'=>.inl hk'⟩
 ·obtain ⟨_,c,T,hc,hT⟩:=V.H.own_type hb
  rcases hT with rfl | rfl | rfl | rfl <;> exact nb hc (by decide) (by decide)
 ·obtain ⟨_,c,hc⟩:=V.M.own hb;exact nb hc (by decide) (by decide)
 ·refine RowsC.app (hcs.mono (fun a _ r hr=>hr.keep kk (fun b hb _=>?_))) rfl ⟨none,0,rfl,Rd.nil _ _,(fun a ha=>by cases ha),Nat.zero_le _⟩
  obtain ⟨_,c,hc⟩:=V.hF b hb;exact nb hc (by decide) (by decide)
 ·obtain ⟨a,c,hc⟩:=V.hF b hb
  exact ⟨Nat.lt_of_lt_of_le a kk.size,c,kk.blk hc (nb hc (by decide) (by decide))⟩
 ·rcases hb with hb | hb
  ·exact .inr (.inr (.inr hb))
  ·exact .inr (.inl hb)
structure InR (w1:World) (g:RVH) (h:RW) (W:Wd) (rv mv nv:Value) (F:Nat→Prop) (xb rb tb:Nat) (tc xc rc:List Value) (ao:Option Addr) (fs:List Vl) (s:VS) (lv:Value) (l:List Vl) (wr:World) (mv' nv':Value) (F':Nat→Prop):Prop where
 V:RvAt wr g h W rv mv' nv' F' s
 K:Keeps (RvFp g mv nv) w1 wr
 o0:∀ k,ownB mv' k→ownB mv k∨w1.heap.size≤k
 o1:∀ k,ownB nv' k→ownB nv k∨w1.heap.size≤k
 o2:∀ k,F' k→F k∨w1.heap.size≤k
 L:Sl wr 96 2 lv l.length (entV l)
 o3:∀ k,ownB lv k→w1.heap.size≤k∧¬ F' k
 T:Blk wr tb tc 154
 X:Blk wr xb xc 96
 R:Blk wr rb rc 96
 xl:xb<w1.heap.size
 rl:rb<w1.heap.size
 tl:¬ h.Own tb
 ol:∀ k,h.Own k→k<w1.heap.size
 wl:g.wb<w1.heap.size
 fl:g.fb<w1.heap.size
 D:Rd wr ao (entV fs)
 dF:∀ a,ao=some a→h.Own a.block
section
variable {ao:Option Addr} {fs:List Vl} {w1 wr w2 wa:World} {xb rb tb:Nat} {tc xc rc:List Value} {lv lv2 mv' nv':Value} {l:List Vl} {F':Nat→Prop} {s2:VS} {v:Vl}
theorem InR.lv_ne (I:InR w1 g h W rv mv nv F xb rb tb tc xc rc ao fs s lv l wr mv' nv' F') {k:Nat} (hk:ownB lv k):¬ RvFp g mv' nv' k:=by
 obtain ⟨_,c,hc⟩:=I.L.own hk
 exact I.V.fp_ne hc (by decide) (by decide) (by decide) (by decide)
theorem InR.toldE {mv2 nv2:Value} {F2:Nat→Prop} (I:InR w1 g h W rv mv nv F xb rb tb tc xc rc ao fs s lv l wr mv' nv' F') (V2:RvAt w2 g h W rv mv2 nv2 F2 s2) (k2:Keeps (RvFp g mv' nv') wr w2) (p0:∀ k,ownB mv2 k→ownB mv' k∨wr.heap.size≤k) (p1:∀ k,ownB nv2 k→ownB nv' k∨wr.heap.size≤k) (p2:∀ k,F2 k→F' k∨wr.heap.size≤k):InR w1 g h W rv mv nv F xb rb tb tc xc rc ao fs s2 lv l w2 mv2 nv2 F2:=by
 refine ⟨V2,I.K.then k2 (fun j hj=>RvFp.step I.o0 I.o1 hj),fun j hj=>?_,fun j hj=>?_,fun j hj=>?_,I.L.keep k2 (fun j hj=>I.lv_ne hj),fun j hj=>⟨(I.o3 j hj).1,fun hf=>?_⟩,k2.blk I.T (I.V.fp_ne I.T (by decide) (by decide) (by decide) (by decide)),k2.blk I.X (I.V.fp_ne I.X (by decide) (by decide) (by decide) (by decide)),k2.blk I.R (I.V.fp_ne I.R (by decide) (by decide) (by decide) (by decide)),I.xl,I.rl,I.tl,I.ol,I.wl,I.fl,I.D.keep k2 (fun a e _=>I.V.world_ne (I.dF a e)),I.dF⟩
 ·rcases p0 j hj with h | h
  ·exact I.o0 j h
  ·exact .inr (Nat.le_trans I.K.size h)
 ·rcases p1 j hj with h | h
  ·exact I.o1 j h
  ·exact .inr (Nat.le_trans I.K.size h)
 ·rcases p2 j hj with h | h
  ·exact I.o2 j h
  ·exact .inr (Nat.le_trans I.K.size h)
 ·rcases p2 j hf with h | h
  ·exact (I.o3 j hj).2 h
  ·have:=(I.L.own hj).1;omega
theorem InR.other {b:Nat} (I:InR w1 g h W rv mv nv F xb rb tb tc xc rc ao fs s lv l wr mv' nv' F') (k:Keeps (·=b) wr w2) (hb:∃ c,Blk wr b c 96) (h0:w1.heap.size≤b) (h1:¬ F' b) (h2:¬ ownB lv b):InR w1 g h W rv mv nv F xb rb tb tc xc rc ao fs s lv l w2 mv' nv' F':=by
 obtain ⟨c,hc⟩:=hb
 have ho:¬ h.Own b:=fun e=>by have:=I.ol b e;omega
 have fp:=I.V.fp_ne hc (by decide) (by decide) (by decide) (by decide)
 exact ⟨I.V.other k fp ho h1 (fun e=>by have:=I.wl;omega) (fun e=>by have:=I.fl;omega),I.K.then k (fun j hj=>.inr (by rw [hj];exact h0)),I.o0,I.o1,I.o2,I.L.keep k (fun j hj e=>h2 (e ▸ hj)),I.o3,k.blk I.T (fun e=>hc.ne I.T (by decide) e.symm),k.blk I.X (fun e=>by have:=I.xl;omega),k.blk I.R (fun e=>by have:=I.rl;omega),I.xl,I.rl,I.tl,I.ol,I.wl,I.fl,
  I.D.keep k (fun a e _ hl=>ho (hl ▸ I.dF a e)),I.dF⟩
theorem InR.app (I:InR w1 g h W rv mv nv F xb rb tb tc xc rc ao fs s lv l wr mv' nv' F') (ka:Keeps (fun _=>False) wr wa)
  (hs:Sl w2 96 2 lv2 (l.length+1) (entV l ++ [.int .i64 v.1, .int .i64 v.2])) (hk:Keeps (ownB lv) wa w2) (ho:∀ k,ownB lv2 k→ownB lv k∨wa.heap.size≤k):InR w1 g h W rv mv nv F xb rb tb tc xc rc ao fs s lv2 (l ++ [v]) w2 mv' nv' F':=by
 have k2:=(ka.mono (T:=ownB lv) (fun _ _ h=>h.elim)).trans hk
 refine ⟨I.V.keep k2 (fun j hj hl=>I.lv_ne hl hj) (fun j hj hl=>by have:=I.ol j hj;have:=(I.o3 j hl).1;omega) (fun j hj hl=>(I.o3 j hl).2 hj) (fun hl=>by have:=(I.o3 _ hl).1;have:=I.wl;omega) (fun hl=>by have:=(I.o3 _ hl).1;have:=I.fl;omega),I.K.then k2 (fun j hj=>.inr (I.o3 j hj).1),I.o0,I.o1,I.o2,?_,fun j hj=>?_,
  k2.blk I.T (fun hl=>by obtain ⟨_,c,hc⟩:=I.L.own hl;exact hc.ne I.T (by decide) rfl),k2.blk I.X (fun hl=>by have:=(I.o3 _ hl).1;have:=I.xl;omega),k2.blk I.R (fun hl=>by have:=(I.o3 _ hl).1;have:=I.rl;omega),I.xl,I.rl,I.tl,I.ol,I.wl,I.fl,I.D.keep k2 (fun a e _ hl=>by have:=I.ol _ (I.dF a e);have:=(I.o3 _ hl).1;omega),I.dF⟩
 ·have e:entV (l ++ [v])=entV l ++ [.int .i64 v.1, .int .i64 v.2]:=by simp [entV]
  rw [e,List.length_append];exact hs
 ·rcases ho j hj with h1 | h1
  ·exact I.o3 j h1
  ·have h2:=ka.size;have h3:=I.K.size
   refine ⟨by omega,fun hf=>?_⟩
   have:=(I.V.hF j hf).1;omega
theorem InR.same (I:InR w1 g h W rv mv nv F xb rb tb tc xc rc ao fs s lv l wr mv' nv' F') (k:Keeps (fun _=>False) wr w2):InR w1 g h W rv mv nv F xb rb tb tc xc rc ao fs s lv l w2 mv' nv' F':=
 ⟨I.V.same k,I.K.trans (k.mono (fun _ _ h=>h.elim)),I.o0,I.o1,I.o2,I.L.keep k (fun _ _ h=>h),I.o3,k.blk I.T (fun h=>h),k.blk I.X (fun h=>h),k.blk I.R (fun h=>h),I.xl,I.rl,I.tl,I.ol,I.wl,I.fl,I.D.keep k (fun _ _ _ h=>h),I.dF⟩
theorem InR.done {kd:Int} {n gn o cap lc:Nat} {ao2:Option Addr} (hlv:lv=.slice ao2 l.length lc) (I:InR w1 g h W rv mv nv F xb rb tb tc xc rc ao fs s lv l wr mv' nv' F')
  (hnv:nv'=.slice (some ⟨gn,o,none⟩) s.2.length cap) (hn:s.2[n]? = some (kd,[])):RvTo w1 g h W rv mv nv F (s.1,s.2.set n (kd,l)) (wr.setCell ⟨gn,o+n*2+1,none⟩ lv)∧Blk (wr.setCell ⟨gn,o+n*2+1,none⟩ lv) rb rc 96:=by
 subst hnv hlv
 have hlt:n<s.2.length:=(List.getElem?_eq_some_iff.1 hn).1
 have hgo:ownB (.slice (some ⟨gn,o,none⟩) s.2.length cap) gn:=rfl
 have setk:=(Keeps.refl (·=gn) wr).setCell (p:=⟨gn,o+n*2+1,none⟩) (.inl rfl) (.slice ao2 l.length lc)
 have K2:Keeps (RvFp g mv nv) w1 (wr.setCell ⟨gn,o+n*2+1,none⟩ (.slice ao2 l.length lc)):=I.K.setCell (p:=⟨gn,o+n*2+1,none⟩) (by
  rcases I.o1 gn hgo with h1 | h1
  ·exact .inl (.inr (.inr (.inr h1)))
  ·exact .inr h1) _
 obtain ⟨cs,hs,hr⟩:=I.V.N
 obtain ⟨_,gc,hgc⟩:=hs.own hgo
 have gne:∀ {b:Nat} {c:List Value} {T:TypeId},Blk wr b c T→T≠139→¬ b=gn:=fun hb hT e=>hb.ne hgc hT e
 obtain ⟨ao',cap',e1,hrd,hcm,hnc⟩:=I.L.rd
 cases e1
 refine ⟨⟨mv', .slice (some ⟨gn,o,none⟩) s.2.length cap,fun k=>F' k∨ownB (.slice ao2 l.length lc) k,⟨I.V.H.keep setk (fun b hb=>?_),setk.blk I.V.hm (gne I.V.hm (by decide)),setk.blk I.V.hw (gne I.V.hw (by decide)),setk.blk I.V.hv (gne I.V.hv (by decide)),setk.blk I.V.hf (gne I.V.hf (by decide)),I.V.M.keep setk (fun b hb=>?_),?_,fun j hj=>?_,I.V.bd⟩,K2,I.o0,I.o1,fun j hj=>?_⟩,setk.blk I.R (gne I.R (by decide))⟩
 ·obtain ⟨_,c,T,hc,hT⟩:=I.V.H.own_type hb
  rcases hT with rfl | rfl | rfl | rfl <;> exact gne hc (by decide)
 ·obtain ⟨_,c,hc⟩:=I.V.M.own hb;exact gne hc (by decide)
 ·have hsl:(s.2.set n (kd,l)).length=s.2.length:=by simp
  refine ⟨cs.set (n*2+1) (.slice ao2 l.length lc),?_,?_⟩
  ·rw [hsl]
   exact hs.set (j:=n*2+1) (by omega)
  ·have hr':RowsC 2 (NodeRow (wr.setCell ⟨gn,o+n*2+1,none⟩ (.slice ao2 l.length lc)) (fun k=>F' k∨ownB (.slice ao2 l.length lc) k)) s.2 cs:=
    hr.mono (fun a _ r h1=>(h1.keep setk (fun j hj _=>by obtain ⟨_,c,hc⟩:=I.V.hF j hj;exact gne hc (by decide))).more (fun j hj=>.inl hj))
   refine RowsC.setCell hlt (by decide) hr' (fun r h2 h3=>?_)
   have e2:s.2[n]=(kd,[]):=by rw [List.getElem?_eq_getElem hlt] at hn;exact Option.some.inj hn
   rw [e2] at h3
   obtain ⟨_,_,rfl,-⟩:=h3
   refine ⟨ao2,lc,rfl,hrd.keep setk (fun a ha _ e=>?_),fun a ha=>.inr ?_,hcm⟩
   ·subst ha;obtain ⟨_,c,hc⟩:=I.L.own (k:=a.block) rfl;exact gne hc (by decide) e
   ·subst ha;rfl
 ·rcases hj with hj | hj
  ·obtain ⟨a,c,hc⟩:=I.V.hF j hj
   exact ⟨Nat.lt_of_lt_of_le a setk.size,c,setk.blk hc (gne hc (by decide))⟩
  ·obtain ⟨a,c,hc⟩:=I.L.own hj
   exact ⟨Nat.lt_of_lt_of_le a setk.size,c,setk.blk hc (gne hc (by decide))⟩
 ·rcases hj with hj | hj
  ·exact I.o2 j hj
  ·exact .inr (I.o3 j hj).1
end
def cntW (l:List (Int × Int)) (g:Int) (p:Nat):Nat:=(waitAt (l.take p) g).length
theorem cntW_zero (l:List (Int × Int)) (g:Int):cntW l g 0=0:=rfl
theorem cntW_all (l:List (Int × Int)) (g:Int):cntW l g l.length=(waitAt l g).length:=by unfold cntW;rw [List.take_length]
theorem cntW_step {l:List (Int × Int)} {g:Int} {p:Nat} (hp:p<l.length):cntW l g (p+1)=cntW l g p+if (l.getD p (0,0)).1=g then 1 else 0:=by
 unfold cntW waitAt
 rw [List.take_add_one,List.getD_eq_getElem?_getD,List.getElem?_eq_getElem hp]
 simp only [Option.toList_some,Option.getD_some,List.filter_append,List.map_append,List.length_append,List.length_map,List.filter_cons,List.filter_nil]
 by_cases h:l[p].1=g
 ·simp [h]
 ·simp [h]
theorem cntW_at {l:List (Int × Int)} {g:Int} {p:Nat} (hp:p<l.length) (h:(l.getD p (0,0)).1=g):(waitAt l g)[cntW l g p]? = some (l.getD p (0,0)).2:=by
 have e:l=l.take p ++ l[p] :: l.drop (p+1):=by rw [←List.drop_eq_getElem_cons hp,List.take_append_drop]
 have h1:(l.getD p (0,0))=l[p]:=by rw [List.getD_eq_getElem?_getD,List.getElem?_eq_getElem hp];rfl
 rw [h1] at h ⊢
 have h2:waitAt l g=waitAt (l.take p) g ++ l[p].2 :: waitAt (l.drop (p+1)) g:=by
  conv=>lhs;rw [e]
  unfold waitAt
  rw [List.filter_append,List.filter_cons,if_pos (by simpa using h),List.map_append,List.map_cons]
 rw [h2]
 unfold cntW
 rw [List.getElem?_append_right (Nat.le_refl _),Nat.sub_self]
 rfl
theorem cntW_le {l:List (Int × Int)} {g:Int} (p:Nat):cntW l g p≤l.length:=by
 unfold cntW waitAt
 rw [List.length_map]
 exact Nat.le_trans (List.length_filter_le _ _) (by rw [List.length_take];omega)
theorem WorldAt.waitCell {w0:World} {wo:Option Addr} {len wc p:Nat} (H:WorldAt w0 h W) (hp:p<W.wait.length) (e:h.wv=.slice wo len wc) :
  ∃ gw ow,wo=some ⟨gw,ow,none⟩∧h.Own gw∧∀ w',WorldAt w' h W→gw<w'.heap.size∧w'.cell? ⟨gw,ow+p*2,none⟩=some (.int .i64 (W.wait.getD p (0,0)).1)∧w'.cell? ⟨gw,ow+p*2+1,none⟩=some (.int .i64 (W.wait.getD p (0,0)).2):=by
 obtain ⟨_,_,e',rd,-,-⟩:=H.hw.rd
 rw [e] at e';cases e'
 obtain ⟨gw,ow,rfl,-,-,-⟩:=rd.val p hp
 refine ⟨gw,ow,rfl, .inr (.inr (.inr (.inr (.inl (by rw [e];rfl))))),fun w' H'=>?_⟩
 obtain ⟨_,_,e2,rd2,-,-⟩:=H'.hw.rd
 rw [e] at e2;cases e2
 obtain ⟨g',o',e3,hl,d0,d1⟩:=rd2.val p hp
 cases e3
 exact ⟨hl,d0,d1⟩
theorem NSG_un {G:Gr} {U:List Int} (I:InU G U) {n:Nat} {x:Int} {s:VS} (hx:x ∈ U) (j:Nat) (h:unM U (s.1 ++ [x])≤n) (hc:(s.1 ++ [x]).length+unM U (s.1 ++ [x])≤5000) :
  unM U (NS G n x s j).2.1≤n∧(NS G n x s j).2.1.length+unM U (NS G n x s j).2.1≤5000:=by
 unfold NS
 obtain ⟨m,hm⟩:=fldM_pre (valM_pre G n) ((G x).2.take j) (s.1 ++ [x],s.2 ++ [((G x).1,[])])
 have h1:=unM_app U (s.1 ++ [x]) m
 have h2:=fldM_count (f:=valM G n) (U:=U) (valM_count I n) ((G x).2.take j) (s.1 ++ [x],s.2 ++ [((G x).1,[])]) (fun v hv=>I.shut x hx v (List.mem_of_mem_take hv))
 rw [hm] at h2 ⊢
 dsimp only at h2 ⊢
 exact ⟨by omega,by omega⟩
theorem NSG_len (G:Gr) (n:Nat) (x:Int) (s:VS) (j:Nat) (hl:s.2.length=s.1.length):(NS G n x s j).2.2.length=(NS G n x s j).2.1.length:=by
 unfold NS
 exact fldM_nodes (valM_nodes G n) _ _ (by simp [hl])
def RvOk (g:RVH) (h:RW) (W:Wd) (rv:Value) (n:Nat):Prop:=∀ (v:Vl) (mv nv:Value) (F:Nat→Prop) (s:VS) (w:World),RvAt w g h W rv mv nv F s→(v.1=3→v.2 ∈ W.all)→unM W.all s.1≤n→s.1.length+unM W.all s.1≤5000→s.2.length=s.1.length →
 Calls Tryz.prog 104 #[.agg #[.int .i64 v.1, .int .i64 v.2], .pointer (some ⟨g.mb,0,none⟩), .pointer (some ⟨g.wb,0,none⟩), .pointer (some ⟨g.vb,0,none⟩), .pointer (some ⟨g.fb,0,none⟩)] w (RvRet w g h W rv mv nv F (valM W.gr n v s))
theorem rvalue_new (n:Nat) (ih:RvOk g h W rv n) (v2:Int) (V:RvAt w g h W rv mv nv F s) (hx:v2 ∈ W.all) (hm:¬ v2 ∈ s.1) (hu:unM W.all s.1≤n+1) (hc:s.1.length+unM W.all s.1≤5000) (hl:s.2.length=s.1.length) (hT:W.T.length≤100000) :
  Calls Tryz.prog 104 #[.agg #[.int .i64 3, .int .i64 v2], .pointer (some ⟨g.mb,0,none⟩), .pointer (some ⟨g.wb,0,none⟩), .pointer (some ⟨g.vb,0,none⟩), .pointer (some ⟨g.fb,0,none⟩)] w (RvRet w g h W rv mv nv F (valM W.gr (n+1) (3,v2) s)):=by
 have HNEW:=Hz (valM_new W.gr n (v:=(3,v2)) (s:=s) rfl hm)
 have HV:=Hz V;have HM:=Hz hm;have HIH:=Hz ih
 have hlv:=Wd.mem_all.1 hx
 have HLV:=Hz hlv;have HX:=Hz hx
 have hp:=unM_push hx hm
 have HU:=Hz (show unM W.all (s.1 ++ [v2])≤n by omega)
 have HC:=Hz (show (s.1 ++ [v2]).length+unM W.all (s.1 ++ [v2])≤5000 by rw [List.length_append];simp;omega)
 have hsl:s.1.length≤5000:=by omega
 have HSL:=Hz hsl
 obtain ⟨ii,hi,hz0,hz1,hz2⟩:=info_parts1 info_int
 have Ii:=Hz hi;have Iz0:=Hz hz0;have Iz1:=Hz hz1;have Iz2:=Hz hz2;clear hi hz0 hz1 hz2
 obtain ⟨ni,hi,hz0,hz1,hz2⟩:=info_parts1 info_node
 have Ni:=Hz hi;have Nz0:=Hz hz0;have Nz1:=Hz hz1;have Nz2:=Hz hz2;clear hi hz0 hz1 hz2
 obtain ⟨vi,hi,hz0,hz1,hz2⟩:=info_parts1 info_val
 have Vi:=Hz hi;have Vz0:=Hz hz0;have Vz1:=Hz hz1;have Vz2:=Hz hz2;clear hi hz0 hz1 hz2
 have HLL:=Hz hl
 clear V hm hsl hlv hx hp hu hc ih hl
 go_enter Tryz.func104,Tryz.ntmps104
 go_upto_region 1 with (fail)
 have ka:=(Kz w).alloc (.cells #[.int .i64 (3), .int .i64 v2] 96)
 have xb1:Blk (w.alloc (.cells #[.int .i64 (3), .int .i64 v2] 96)) w.heap.size [.int .i64 (3), .int .i64 v2] 96:=Blk.newAt _ rfl rfl
 have sz1:(w.alloc (.cells #[.int .i64 (3), .int .i64 v2] 96)).heap.size=w.heap.size+1:=by simp
 have K1:=Hz (ka.alloc (.cells #[.int .i64 0, .int .i64 0] 96))
 have XB:=Hz (xb1.alloc (.cells #[.int .i64 0, .int .i64 0] 96))
 have RB:=Hz (show Blk ((w.alloc (.cells #[.int .i64 (3), .int .i64 v2] 96)).alloc (.cells #[.int .i64 0, .int .i64 0] 96)) (w.heap.size+1) [.int .i64 0, .int .i64 0] 96 from Blk.newAt _ sz1.symm rfl)
 have V1:=Hz (HV.out.same K1.out)
 have RNF:Hid (¬ F (w.heap.size+1)):=fun hf=>by have:=(HV.out.hF _ hf).1;omega
 have RNO:Hid (¬ h.Own (w.heap.size+1)):=fun hf=>by have:=(HV.out.H.own_type hf).1;omega
 have XNO:Hid (¬ h.Own w.heap.size):=fun hf=>by have:=(HV.out.H.own_type hf).1;omega
 have XNF:Hid (¬ F w.heap.size):=fun hf=>by have:=(HV.out.hF _ hf).1;omega
 clear ka xb1 sz1
 generalize (w.alloc (.cells #[.int .i64 (3), .int .i64 v2] 96)).alloc (.cells #[.int .i64 0, .int .i64 0] 96)=w1 at *
 generalize hxb:w.heap.size=xb at XB RB RNF RNO XNO XNF ⊢
 have HXB:=Hz hxb
 clear hxb
 generalize hrb:xb+1=rb at RB RNF RNO ⊢
 have HRX:=Hz hrb
 clear hrb
 have HRB:=Hz (show w.heap.size≤rb by have:=HXB.out;have:=HRX.out;omega)
 have b0:=XB.out.cell 0;have b1:=XB.out.cell 1;have bl:=XB.out.lt
 simp only [List.getElem?_cons_zero,List.getElem?_cons_succ] at b0 b1
 have c0:=V1.out.hm.cell 0;have cl:=V1.out.hm.lt
 simp only [List.getElem?_cons_zero] at c0
 obtain ⟨mo,mc,emv,-,hml,-⟩:=V1.out.M.rd
 have EMV:=Hz emv
 rw [emv] at c0
 have hsl:=HSL.out
 clear emv hml
 go_wp2_with fail
 go_loopw [7] (fun i wr=>∃ k:Nat,k≤s.1.length∧i=.int .i64 k∧Keeps (fun _=>False) w1 wr∧∀ j,j<k→s.1.getD j 0≠v2) (fun i _=>s.1.length-(intOf i).toNat)
 case atStart=>exact ⟨0,Nat.zero_le _,rfl,Keeps.refl _ _,fun j hj=>by omega⟩
 case round=>
  clear c0 cl b0 b1 bl
  obtain ⟨k,hk,rfl,hK,hN⟩:=hrel
  have KR:=Hz hK
  clear hK hN
  have VR:=Hz (V1.out.same KR.out);have XR:=Hz (KR.out.blk XB.out (fun h=>h));have RR:=Hz (KR.out.blk RB.out (fun h=>h))
  have b0:=XR.out.cell 0;have b1:=XR.out.cell 1;have bl:=XR.out.lt;have c0:=VR.out.hm.cell 0;have cl:=VR.out.hm.lt
  simp only [List.getElem?_cons_zero,List.getElem?_cons_succ] at b0 b1 c0
  rw [EMV.out] at c0
  by_cases hlt:k<s.1.length
  ·obtain ⟨_,_,e',rd,-,-⟩:=VR.out.M.rd
   rw [EMV.out] at e'
   cases e'
   obtain ⟨gm,om,rfl,d0⟩:=rd.int k hlt
   have hgm:=((VR.out.M).own (k:=gm) (by rw [EMV.out];rfl)).1
   have hne:s.1.getD k 0≠v2:=fun e=>HM.out (by rw [←e,List.getD_eq_getElem?_getD,List.getElem?_eq_getElem hlt];exact List.getElem_mem hlt)
   generalize s.1.getD k 0=y at *
   have hd:(y == v2)=false:=by simpa using hne
   clear rd hne
   go_wp2_with fail
   refine wp_region_ro (.free 1 (.free 4 (.pure 0 (.free 2 (.pure 3 (.pure 5 (.free 6 (.fin)))))))) [] (fun w'=>w'.cell? ⟨g.mb,0,none⟩=some (.slice (some ⟨gm,om,none⟩) s.1.length mc)∧w'.cell? ⟨gm,om+k,none⟩=some (.int .i64 y)∧w'.cell? ⟨xb,1,none⟩=some (.int .i64 v2)) (by kernel_rfl) (by kernel_rfl) ⟨c0,d0,b1⟩ ?_
   iterate 7 first | (refine wpRO_free rfl rfl _ (fun w'=>by go_simp;exact Gives.mk _ _) (fun K hK=>?_);go_simp;refine hK _ ?_;clear hK K) | (refine wpRO_skipF rfl rfl (fun K hK=>?_);go_simp;refine hK _ ?_;clear hK K) | (refine wpRO_pure rfl rfl _ (fun w' hG=>by obtain ⟨c0,d0,b1⟩:=hG;exact gives_agg2 rfl (by decide +kernel) rfl (by assumption) (by assumption)) (fun K hK=>?_);go_simp;refine hK _ ?_;clear hK K) | (refine wpRO_pure rfl rfl _ (fun w' hG=>by obtain ⟨c0,d0,b1⟩:=hG;go_simp;exact Gives.mk _ _) (fun K hK=>?_);go_simp;refine hK _ ?_;clear hK K) | (refine wpRO_skip rfl rfl (fun K hK=>?_);go_simp;refine hK _ ?_;clear hK K)
   refine wpRO_fin ?_
   clear b0 b1 bl c0 cl d0 hgm
   go_wp2_with fail
   go_roundw
   case rel=>exact ⟨k+1,hlt,by go_num,KR.out.drew,fun j hj e=>HM.out (by rw [←e,List.getD_eq_getElem?_getD,List.getElem?_eq_getElem (by omega)];exact List.getElem_mem _)⟩
   case measure=>simp [intOf];omega
  ·obtain rfl:k=s.1.length:=by omega
   have f0:=VR.out.hm.free 0
   have HSL2:=Hz (show Sl wr 3 1 (.slice mo s.1.length mc) s.1.length (s.1.map (Value.int .i64)) by have:=VR.out.M;rw [EMV.out] at this;exact this)
   go_wp2_with (at_builtin;refine wpList_app rfl (.tmp 36) (.tmp 39) 83 rfl 3 ii (.int .i64 0) 1 8 Tryz.underlying83 Ii.out Iz0.out Iz1.out Iz2.out rfl (by decide) _ s.1.length (s.1.map (Value.int .i64)) rfl (HSL2.out.keep ((Kz wr).alloc _) (fun _ _ h=>h)) ⟨wr.heap.size,0,none⟩ 1 1 [.int .i64 v2] rfl rfl (news_at wr 3 _) (by intro u hu;simp at hu;subst hu;rfl) (by have:=HSL.out;unfold maxLen;omega) (by have:=HSL.out;omega) ?_)
   intro v2' w2 hs2 hk2 ho2
   have ka:=(Kz wr).alloc (.cells #[.int .i64 v2] 3)
   have HT3:=Hz (VR.out.pushMet ka (by simpa using hs2) (by rw [EMV.out];exact hk2) (by rw [EMV.out];simpa using ho2) ⟨HLV.out.1,by have:=HLV.out.2.1;omega⟩)
   have hm2:=hk2.blk (ka.blk VR.out.hm (fun h=>h)) (fun e=>by obtain ⟨_,c,hc⟩:=HSL2.out.own e;exact hc.ne VR.out.hm (by decide) rfl)
   obtain ⟨mo2,mc2,rfl,-,-,-⟩:=hs2.rd
   have x0:=hm2.cell 0;have xl:=hm2.lt;have xf:=hm2.free 0
   simp only [List.getElem?_cons_zero] at x0
   have b1':=(hk2.blk (ka.blk XR.out (fun h=>h)) (fun e=>by obtain ⟨_,c,hc⟩:=HSL2.out.own e;exact hc.ne XR.out (by decide) rfl)).cell 1
   clear hs2 hk2 ho2 ka hm2 c0 cl b0 b1 bl f0 b1'
   go_wp2_with fail
   clear x0 xl xf
   generalize w2.setCell ⟨g.mb,0,none⟩ (.slice mo2 (s.1.length+1) mc2)=w3 at *
   obtain ⟨mv3,nv3,F3,V3',k3,p0,p1,p2⟩:=HT3.out
   have V3:=Hz V3'
   have XB3:=Hz (k3.blk XR.out (VR.out.fp_ne XR.out (by decide) (by decide) (by decide) (by decide)))
   have RB3:=Hz (k3.blk RR.out (VR.out.fp_ne RR.out (by decide) (by decide) (by decide) (by decide)))
   have KT3:=Hz ((KR.out.mono (T:=RvFp g mv nv) (fun _ _ h=>h.elim)).trans k3)
   have P0:=Hz (show ∀ k,ownB mv3 k→ownB mv k∨w1.heap.size≤k from fun k hk=>(p0 k hk).imp id (fun h=>Nat.le_trans KR.out.size h))
   have P1:=Hz (show ∀ k,ownB nv3 k→ownB nv k∨w1.heap.size≤k from fun k hk=>(p1 k hk).imp id (fun h=>Nat.le_trans KR.out.size h))
   have P2:=Hz (show ∀ k,F3 k→F k∨w1.heap.size≤k from fun k hk=>(p2 k hk).imp id (fun h=>Nat.le_trans KR.out.size h))
   clear HT3 VR XR RR V3' k3 p0 p1 p2 HSL2
   obtain ⟨m,rfl,-⟩:∃ m:Nat,v2=m∧True:=⟨v2.toNat,by have:=HLV.out.1;omega,trivial⟩
   have hmT:m<W.T.length:=by have:=HLV.out.2.1;omega
   obtain ⟨no,nc,etv,N⟩:=V3.out.H.ht.nth
   obtain ⟨gt,ot,ao,fc,rfl,hogt,hgt,t0,t1,t2,t3,hrd,hoF,hml2⟩:=N m hmT
   have HTH:=Hz (show W.th (m:Int)=W.T.getD m Th.none by unfold Wd.th;rw [Int.toNat_natCast])
   generalize hth:W.T.getD m Th.none=th at *
   have HRD:=Hz hrd
   obtain ⟨kd,fs,old,dead⟩:=th
   dsimp only at t0 t1 t2 t3 HRD hml2
   have a0:=V3.out.hw.cell 0;have al:=V3.out.hw.lt
   obtain ⟨e0,-,-,-,-,-⟩:=V3.out.H.cells
   have el:=V3.out.H.hp.lt
   rw [etv] at e0
   have b1:=XB3.out.cell 1;have bl:=XB3.out.lt
   simp only [List.getElem?_cons_zero,List.getElem?_cons_succ] at a0 b1
   have HAF:=Hz (show ∀ a,ao=some a→h.Own a.block from fun a e=>.inr (.inr (.inr (.inr (.inr (hoF a e))))))
   clear N hth hrd hoF
   go_wp2_with fail
   refine wp_region_ro (.free 4 (.pure 0 (.free 1 (.free 2 (.pure 3 (.pure 5 (.free 6 (.pure 7 (.run 8 (.run 9 (.swi [] (.fin)))))))))))) [9] (fun w'=>w'.cell? ⟨g.wb,0,none⟩=some (.pointer (some ⟨h.p,0,none⟩))∧w'.cell? ⟨h.p,0,none⟩=some (.slice (some ⟨gt,ot,none⟩) W.T.length nc)∧w'.cell? ⟨xb,1,none⟩=some (.int .i64 m)∧w'.cell? ⟨gt,ot+m*4,none⟩=some (.int .i64 kd)∧w'.cell? ⟨gt,ot+m*4+1,none⟩=some (.slice ao fs.length fc)∧w'.cell? ⟨gt,ot+m*4+1+1,none⟩=some (.bool old)∧w'.cell? ⟨gt,ot+m*4+1+1+1,none⟩=some (.bool dead)) (by kernel_rfl) (by kernel_rfl) ⟨a0,e0,b1,t0,t1,t2,t3⟩ ?_
   iterate 8 first | (refine wpRO_free rfl rfl _ (fun w'=>by go_simp;exact Gives.mk _ _) (fun K hK=>?_);go_simp;refine hK _ ?_;clear hK K) | (refine wpRO_skipF rfl rfl (fun K hK=>?_);go_simp;refine hK _ ?_;clear hK K) | (refine wpRO_pure rfl rfl _ (fun w' hG=>by obtain ⟨a0,e0,b1,t0,t1,t2,t3⟩:=hG;exact gives_agg (cs:=[_,_,_,_]) rfl (by decide +kernel) rfl (rangeAt_cons (by assumption) (rangeAt_cons (by assumption) (rangeAt_cons (by assumption) (rangeAt_cons (by assumption) rangeAt_nil))))) (fun K hK=>?_);go_simp;refine hK _ ?_;clear hK K) | (refine wpRO_pure rfl rfl _ (fun w' hG=>by obtain ⟨a0,e0,b1,t0,t1,t2,t3⟩:=hG;exact gives_agg2 rfl (by decide +kernel) rfl (by assumption) (by assumption)) (fun K hK=>?_);go_simp;refine hK _ ?_;clear hK K) | (refine wpRO_pure rfl rfl _ (fun w' hG=>by obtain ⟨a0,e0,b1,t0,t1,t2,t3⟩:=hG;go_simp;exact Gives.mk _ _) (fun K hK=>?_);go_simp;refine hK _ ?_;clear hK K) | (refine wpRO_skip rfl rfl (fun K hK=>?_);go_simp;refine hK _ ?_;clear hK K)
   refine wpRO_run rfl rfl (fun K hK=>?_);unfold gRun;go_simp
   have kz:Keeps (fun _=>False) w3 (w3.alloc (.cells #[.int .i64 0, .slice none 0 0, .bool false, .bool false] 154)).drew:=((Kz w3).alloc _).drew
   have tz:Blk (w3.alloc (.cells #[.int .i64 0, .slice none 0 0, .bool false, .bool false] 154)).drew w3.heap.size [.int .i64 0, .slice none 0 0, .bool false, .bool false] 154:=(Blk.new w3 [.int .i64 0, .slice none 0 0, .bool false, .bool false] 154).drew
   refine hK _ _ (fun _=>⟨(kz.cellAt al (fun h=>h) _).trans a0,(kz.cellAt el (fun h=>h) _).trans e0,(kz.cellAt bl (fun h=>h) _).trans b1,(kz.cellAt hgt (fun h=>h) _).trans t0,(kz.cellAt hgt (fun h=>h) _).trans t1,(kz.cellAt hgt (fun h=>h) _).trans t2,(kz.cellAt hgt (fun h=>h) _).trans t3⟩) ?_
   clear hK K
   have KZ:=Hz kz;have TZ:=Hz tz
   have z0:=tz.cell 0;have z1:=tz.cell 1;have z2:=tz.cell 2;have z3:=tz.cell 3;have zl:=tz.lt;have zf:=tz.free 0;have zf1:=tz.free 1;have zf2:=tz.free 2;have zf3:=tz.free 3
   simp only [List.getElem?_cons_zero,List.getElem?_cons_succ] at z0 z1 z2 z3
   clear kz tz a0 e0 b1 t0 t1 t2 t3 al el bl hgt
   have HTN:=Hz (show w3.heap.size=w3.heap.size from rfl)
   refine wpRO_chg rfl rfl rfl (fun K hK=>?_);unfold gRun;go_simp
   refine hK _ _ ?_
   clear hK K TZ KZ z0 z1 z2 z3 zl zf zf1 zf2 zf3 HTN
   refine wpRO_swi (fun _=>True) trivial (wpRO_fin ?_)
   have kt:Keeps (fun _=>False) w3 (w3.alloc (.cells #[.int .i64 kd, .slice ao fs.length fc, .bool old, .bool dead] 154)).drew:=((Kz w3).alloc _).drew
   have htb:Blk (w3.alloc (.cells #[.int .i64 kd, .slice ao fs.length fc, .bool old, .bool dead] 154)).drew w3.heap.size [.int .i64 kd, .slice ao fs.length fc, .bool old, .bool dead] 154:=(Blk.new w3 [.int .i64 kd, .slice ao fs.length fc, .bool old, .bool dead] 154).drew
   have TB:=Hz htb;have V4:=Hz (V3.out.same kt);have XB4:=Hz (kt.blk XB3.out (fun h=>h));have RB4:=Hz (kt.blk RB3.out (fun h=>h))
   have KT4:=Hz (KT3.out.trans (kt.mono (fun _ _ h=>h.elim)));have HRD4:=Hz (HRD.out.keep kt (fun _ _ _ h=>h))
   have TNO:=Hz (show ¬ h.Own w3.heap.size from fun e=>by have:=(V3.out.H.own_type e).1;omega)
   have TLE:=Hz (show w1.heap.size≤w3.heap.size from KT3.out.size)
   clear kt htb V3 XB3 RB3 KT3 HRD
   generalize (w3.alloc (.cells #[.int .i64 kd, .slice ao fs.length fc, .bool old, .bool dead] 154)).drew=w4 at *
   generalize w3.heap.size=tb at *
   obtain ⟨cs,hns,hcs⟩:=V4.out.N
   obtain ⟨nno,nnc,rfl,-,hnm,-⟩:=hns.rd
   have HNS:=Hz hns;have HCS:=Hz hcs
   have hs5:s.2.length≤5000:=by have:=HLL.out;have:=HSL.out;omega
   have v1:=V4.out.hv.cell 1;have vl:=V4.out.hv.lt;have vf:=V4.out.hv.free 1
   have t0:=TB.out.cell 0;have tl:=TB.out.lt
   simp only [List.getElem?_cons_zero,List.getElem?_cons_succ] at v1 t0
   clear hns hcs hnm
   go_wp2_with (at_builtin;refine wpList_app rfl (.tmp 50) (.tmp 54) 39 rfl 139 ni (.agg #[.int .i64 0, .slice none 0 0]) 2 32 Tryz.underlying39 Ni.out Nz0.out Nz1.out Nz2.out rfl (by decide) _ s.2.length cs rfl (HNS.out.keep ((Kz w4).alloc _) (fun _ _ h=>h)) ⟨w4.heap.size,0,none⟩ 1 1 [.int .i64 kd, .slice none 0 0] rfl rfl (news_at w4 139 _) (by intro u hu;simp at hu;rcases hu with rfl | rfl <;> rfl) (by unfold maxLen;omega) (by omega) ?_)
   intro v5' w5 hs5' hk5 ho5
   have ka:=(Kz w4).alloc (.cells #[.int .i64 kd, .slice none 0 0] 139)
   have HT6:=Hz (V4.out.pushNode (kd:=kd) ka cs HCS.out (by simpa using hs5') hk5 (by simpa using ho5))
   have hv5:=hk5.blk (ka.blk V4.out.hv (fun h=>h)) (fun e=>by obtain ⟨_,c,hc⟩:=HNS.out.own e;exact hc.ne V4.out.hv (by decide) rfl)
   obtain ⟨no5,nc5,rfl,-,-,-⟩:=hs5'.rd
   have x1:=hv5.cell 1;have xl:=hv5.lt;have xf:=hv5.free 1
   simp only [List.getElem?_cons_zero,List.getElem?_cons_succ] at x1
   clear hs5' hk5 ho5 ka hv5 v1 vl vf t0 tl
   go_wp2_with fail
   clear x1 xl xf
   have HI0:=Hz (show ∃ mv' nv' F',InR w1 g h W rv mv nv F xb rb tb [.int .i64 kd, .slice ao fs.length fc, .bool old, .bool dead] [.int .i64 3, .int .i64 m] [.int .i64 0, .int .i64 0] ao fs (s.1 ++ [(m:Int)],s.2 ++ [(kd,[])]) (.slice none 0 0) [] (w5.setCell ⟨g.vb,1,none⟩ (.slice no5 (s.2.length+1) nc5)) mv' nv' F' by
    obtain ⟨mv6,nv6,F6,V6,k6,q0,q1,q2⟩:=HT6.out
    have nf:∀ {b:Nat} {c:List Value} {T:TypeId},Blk w4 b c T→T≠83→T≠41→T≠3→T≠139→_:=fun hb h1 h2 h3 h4=>V4.out.fp_ne hb h1 h2 h3 h4
    refine ⟨mv6,nv6,F6,V6,KT4.out.then k6 (fun j hj=>RvFp.step P0.out P1.out hj),fun k hk=>?_,fun k hk=>?_,fun k hk=>?_,Sl.nil _ _ _,fun k hk=>(nil_own hk).elim,k6.blk TB.out (nf TB.out (by decide) (by decide) (by decide) (by decide)),k6.blk XB4.out (nf XB4.out (by decide) (by decide) (by decide) (by decide)),k6.blk RB4.out (nf RB4.out (by decide) (by decide) (by decide) (by decide)),XB.out.lt,RB.out.lt,TNO.out,fun k hk=>(V1.out.H.own_type hk).1,V1.out.hw.lt,V1.out.hf.lt,HRD4.out.keep k6 (fun a e _=>V4.out.world_ne (HAF.out a e)),HAF.out⟩
    ·rcases q0 k hk with h | h
     ·exact P0.out k h
     ·exact .inr (Nat.le_trans KT4.out.size h)
    ·rcases q1 k hk with h | h
     ·exact P1.out k h
     ·exact .inr (Nat.le_trans KT4.out.size h)
    ·rcases q2 k hk with h | h
     ·exact P2.out k h
     ·exact .inr (Nat.le_trans KT4.out.size h))
   clear HT6 V4 XB4 RB4 TB HNS HCS
   generalize w5.setCell ⟨g.vb,1,none⟩ (.slice no5 (s.2.length+1) nc5)=w6 at *
   have hgr1:(W.gr m).1=kd:=by show (W.th m).k=kd;rw [HTH.out]
   have HGR1:=Hz hgr1
   have HGF:=Hz (show ∀ j:Nat,(hj:j<fs.length)→(W.gr m).2[j]? = some (fs.getD j (0,0)) from fun j hj=>by
    unfold Wd.gr
    dsimp only
    rw [HTH.out,List.getElem?_append_left (by exact hj),List.getD_eq_getElem?_getD,List.getElem?_eq_getElem hj];rfl)
   have HGL:=Hz (show (W.gr m).2.length=fs.length+if kd=5 then (waitAt W.wait m).length else 0 by
    unfold Wd.gr
    dsimp only
    rw [HTH.out,List.length_append]
    dsimp only
    split <;> simp)
   have HFL:=Hz (show fs.length≤12 by have:=Wd.th_bound HV.out.H.ok HLV.out;rw [HTH.out] at this;exact this)
   have HI1:=Hz (show ∃ mv' nv' F',InR w1 g h W rv mv nv F xb rb tb [.int .i64 kd, .slice ao fs.length fc, .bool old, .bool dead] [.int .i64 3, .int .i64 m] [.int .i64 0, .int .i64 0] ao fs (NS W.gr n m s 0).2 (.slice none 0 0) (NS W.gr n m s 0).1 w6 mv' nv' F' by rw [NS_zero,hgr1];exact HI0.out)
   clear HI0 hgr1
   have HUN:=Hz (fun j=>NSG_un (Wd.inU HV.out.H.ok) (n:=n) (s:=s) HX.out j HU.out HC.out)
   have HNL:=Hz (fun j=>NSG_len W.gr n (m:Int) s j HLL.out)
   go_loopw [10,11] (fun lv i wr=>∃ (j:Nat) (mv' nv':Value) (F':Nat→Prop),j≤fs.length∧i=.int .i64 j∧InR w1 g h W rv mv nv F xb rb tb [.int .i64 kd, .slice ao fs.length fc, .bool old, .bool dead] [.int .i64 3, .int .i64 m] [.int .i64 0, .int .i64 0] ao fs (NS W.gr n m s j).2 lv (NS W.gr n m s j).1 wr mv' nv' F') (fun _ i _=>fs.length-(intOf i).toNat)
   case atStart=>
    obtain ⟨mv',nv',F',hI⟩:=HI1.out
    exact ⟨0,mv',nv',F',Nat.zero_le _,rfl,hI⟩
   case round=>
    clear HI1
    obtain ⟨j,mv7,nv7,F7,hj,rfl,hI⟩:=hrel
    have HI:=Hz hI
    have t1:=hI.T.cell 1;have t0:=hI.T.cell 0;have tl:=hI.T.lt
    simp only [List.getElem?_cons_zero,List.getElem?_cons_succ] at t0 t1
    by_cases hlt:j<fs.length
    ·have HST:=Hz (NS_step W.gr n m s (HGF.out j hlt))
     have hjl:=NS_len W.gr n m s (j:=j) (by rw [HGL.out];omega)
     have HJL:=Hz hjl
     obtain ⟨gf,of,rfl,hgf,d0,d1⟩:=hI.D.val j hlt
     have a0:=hI.V.hf.cell 0;have al:=hI.V.hf.lt
     simp only [List.getElem?_cons_zero] at a0
     generalize hfv:fs.getD j (0,0)=fv at *
     have HFA:=Hz (show fv.1=3→fv.2 ∈ W.all from fun h3=>Wd.mem_all.2 (Wd.okV_ref (hI.V.H.ok.tv m HLV.out fv (by rw [HTH.out,←hfv];dsimp only;rw [List.getD_eq_getElem?_getD,List.getElem?_eq_getElem hlt];exact List.getElem_mem hlt)) h3))
     obtain ⟨f1,f2⟩:=fv
     dsimp only at d0 d1
     obtain ⟨lo,lc,rfl,-,-,-⟩:=hI.L.rd
     rw [hjl] at HI ⊢
     clear hI hjl
     unfold RVH.fn at a0
     go_wp2_with fail
     refine wp_region_ro (.free 1 (.free 3 (.pure 0 (.pure 2 (.free 4 (.pure 5 (.two 6 (.run 7 (.run 8 (.swi [] (.fin)))) 7 (.run 6 (.swi [8] (.run 8 (.swi [] (.fin)))))))))))) [8] (fun w'=>w'.cell? ⟨g.fb,0,none⟩=some (.func (.func 104) #[] #[.pointer (some ⟨g.mb,0,none⟩), .pointer (some ⟨g.wb,0,none⟩), .pointer (some ⟨g.vb,0,none⟩), .pointer (some ⟨g.fb,0,none⟩)])∧w'.cell? ⟨tb,1,none⟩=some (.slice (some ⟨gf,of,none⟩) fs.length fc)∧w'.cell? ⟨gf,of+j*2,none⟩=some (.int .i64 f1)∧w'.cell? ⟨gf,of+j*2+1,none⟩=some (.int .i64 f2)) (by kernel_rfl) (by kernel_rfl) ⟨a0,t1,d0,d1⟩ ?_
     iterate 6 first | (refine wpRO_free rfl rfl _ (fun w'=>by go_simp;exact Gives.mk _ _) (fun K hK=>?_);go_simp;refine hK _ ?_;clear hK K) | (refine wpRO_skipF rfl rfl (fun K hK=>?_);go_simp;refine hK _ ?_;clear hK K) | (refine wpRO_pure rfl rfl _ (fun w' hG=>by obtain ⟨a0,t1,d0,d1⟩:=hG;exact gives_agg2 rfl (by decide +kernel) rfl (by assumption) (by assumption)) (fun K hK=>?_);go_simp;refine hK _ ?_;clear hK K) | (refine wpRO_pure rfl rfl _ (fun w' hG=>by obtain ⟨a0,t1,d0,d1⟩:=hG;go_simp;exact Gives.mk _ _) (fun K hK=>?_);go_simp;refine hK _ ?_;clear hK K) | (refine wpRO_skip rfl rfl (fun K hK=>?_);go_simp;refine hK _ ?_;clear hK K)
     refine wpRO_two rfl rfl rfl rfl (fun K hK=>?_) (fun K hK=>?_)
     ·unfold gRun;go_simp
      refine (HIH.out (f1,f2) mv7 nv7 F7 _ _ (HI.out.V.same ((Kz wr).drew)) (HFA.out) (HUN.out j).1 (HUN.out j).2 (HNL.out j)).mono ?_
      rintro e w8 ⟨rfl,mv8,nv8,F8,V8,k8,p0,p1,p2⟩
      have HI8:=Hz ((HI.out.same ((Kz wr).drew)).toldE V8 k8 p0 p1 p2)
      obtain ⟨⟨⟨r1,r2⟩,sr⟩,hr⟩:∃ t,valM W.gr n (f1,f2) (NS W.gr n m s j).2=t:=⟨_,rfl⟩
      rw [hr] at HI8 HST ⊢
      dsimp only at HI8 HST ⊢
      have hgf8:=Nat.lt_of_lt_of_le hgf k8.size
      have d8:=(k8.cellAt hgf (HI.out.V.world_ne (HI.out.dF _ rfl)) _).trans d0
      have d9:=(k8.cellAt hgf (HI.out.V.world_ne (HI.out.dF _ rfl)) _).trans d1
      refine hK _ _ (fun h=>h) (fun _ _=>⟨HI8.out.V.hf.cell 0,HI8.out.T.cell 1,d8,d9⟩) ?_
      clear hK K V8 k8 p0 p1 p2 hr a0 t1 d0 d1 hgf al tl t0 HI
      refine wpRO_run rfl rfl (fun K hK=>?_);unfold gRun;go_simp
      have kz:Keeps (fun _=>False) w8 (w8.alloc (.cells #[.int .i64 0, .int .i64 0] 96)).drew:=((Kz w8).alloc _).drew
      have tz:Blk (w8.alloc (.cells #[.int .i64 0, .int .i64 0] 96)).drew w8.heap.size [.int .i64 0, .int .i64 0] 96:=(Blk.new w8 [.int .i64 0, .int .i64 0] 96).drew
      have HI9:=Hz (HI8.out.same kz)
      refine hK _ _ (fun _=>⟨HI9.out.V.hf.cell 0,HI9.out.T.cell 1,(kz.cellAt hgf8 (fun h=>h) _).trans d8,(kz.cellAt hgf8 (fun h=>h) _).trans d9⟩) ?_
      clear hK K d8 d9 hgf8
      have z0:=tz.cell 0;have z1:=tz.cell 1;have zl:=tz.lt;have zf:=tz.free 0;have zf1:=tz.free 1
      simp only [List.getElem?_cons_zero,List.getElem?_cons_succ] at z0 z1
      clear kz tz
      refine wpRO_chg rfl rfl rfl (fun K hK=>?_);unfold gRun;go_simp
      refine hK _ _ ?_
      clear hK K z0 z1 zl zf zf1 HI9
      refine wpRO_swi (fun _=>True) trivial (wpRO_fin ?_)
      have kz:Keeps (fun _=>False) w8 (w8.alloc (.cells #[.int .i64 r1, .int .i64 r2] 96)):=((Kz w8).alloc _)
      have tz:Blk (w8.alloc (.cells #[.int .i64 r1, .int .i64 r2] 96)) w8.heap.size [.int .i64 r1, .int .i64 r2] 96:=(Blk.new w8 [.int .i64 r1, .int .i64 r2] 96)
      have HI2:=Hz (HI8.out.same kz)
      clear HI8 kz
      generalize w8.alloc (.cells #[.int .i64 r1, .int .i64 r2] 96)=w9 at *
      have HL2:=Hz (show Sl w9 96 2 (.slice lo j lc) j (entV (NS W.gr n m s j).1) by have:=HI2.out.L;rw [HJL.out] at this;exact this)
      have z0:=tz.cell 0;have z1:=tz.cell 1;have zl:=tz.lt
      simp only [List.getElem?_cons_zero,List.getElem?_cons_succ] at z0 z1
      generalize w8.heap.size=tv at *
      clear tz
      go_wp2_with (at_builtin;refine wpList_app rfl (.tmp 71) (.tmp 73) 38 rfl 96 vi (.agg #[.int .i64 0, .int .i64 0]) 2 16 Tryz.underlying38 Vi.out Vz0.out Vz1.out Vz2.out rfl (by decide) _ j (entV (NS W.gr n m s j).1) rfl (HL2.out.keep ((Kz w9).alloc _) (fun _ _ h=>h)) ⟨w9.heap.size,0,none⟩ 1 1 [.int .i64 r1, .int .i64 r2] rfl rfl (news_at w9 96 #[.int .i64 r1, .int .i64 r2]) (by intro u hu;simp at hu;rcases hu with rfl | rfl <;> rfl) (by have:=HFL.out;unfold maxLen;omega) (by have:=HFL.out;omega) ?_)
      intro v10 w10 hs10 hk10 ho10
      have HI10:=Hz (HI2.out.app (v:=(r1,r2)) ((Kz w9).alloc _) (by rw [HJL.out];exact hs10) hk10 (by simpa using ho10))
      clear hs10 hk10 ho10 HL2 HI2 z0 z1 zl
      have hfl:=HFL.out
      go_wp2_with fail
      go_roundw
      case rel=>exact ⟨j+1,_,_,_,by omega,by go_num,by rw [HST.out];exact HI10.out⟩
      case measure=>simp [intOf];omega
     ·unfold gRun;go_simp
      have kz:Keeps (fun _=>False) wr (wr.alloc (.cells #[.int .i64 0, .int .i64 0] 96)).drew:=((Kz wr).alloc _).drew
      have tz:Blk (wr.alloc (.cells #[.int .i64 0, .int .i64 0] 96)).drew wr.heap.size [.int .i64 0, .int .i64 0] 96:=(Blk.new wr [.int .i64 0, .int .i64 0] 96).drew
      have HIA:=Hz (HI.out.same kz)
      have TF:=Hz (show ¬ F7 wr.heap.size from fun hf=>by have:=(HI.out.V.hF _ hf).1;omega)
      have TL:=Hz (show ¬ ownB (.slice lo j lc) wr.heap.size from fun hf=>by have:=(HI.out.L.own hf).1;omega)
      have T1:=Hz (show w1.heap.size≤wr.heap.size from HI.out.K.size)
      have TZ:=Hz tz
      have d8:=(kz.cellAt hgf (fun h=>h) _).trans d0;have d9:=(kz.cellAt hgf (fun h=>h) _).trans d1
      have hgf8:=Nat.lt_of_lt_of_le hgf kz.size
      refine hK _ _ (fun h=>h) (fun _ _=>⟨HIA.out.V.hf.cell 0,HIA.out.T.cell 1,d8,d9⟩) ?_
      clear hK K kz tz HI hgf d0 d1 a0 t1 al tl t0
      generalize (wr.alloc (.cells #[.int .i64 0, .int .i64 0] 96)).drew=wa at *
      generalize wr.heap.size=zb at *
      refine wpRO_run rfl rfl (fun K hK=>?_);unfold gRun;go_simp
      refine (HIH.out (f1,f2) mv7 nv7 F7 _ _ HIA.out.V (HFA.out) (HUN.out j).1 (HUN.out j).2 (HNL.out j)).mono ?_
      rintro e w8 ⟨rfl,mv8,nv8,F8,V8,k8,p0,p1,p2⟩
      have HI8:=Hz (HIA.out.toldE V8 k8 p0 p1 p2)
      obtain ⟨⟨⟨r1,r2⟩,sr⟩,hr⟩:∃ t,valM W.gr n (f1,f2) (NS W.gr n m s j).2=t:=⟨_,rfl⟩
      rw [hr] at HI8 HST ⊢
      dsimp only at HI8 HST ⊢
      have TF8:=Hz (show ¬ F8 zb from fun hf=>by rcases p2 _ hf with h | h;exact TF.out h;exact absurd h (Nat.not_le.2 TZ.out.lt))
      have tz8:=k8.blk TZ.out (HIA.out.V.fp_ne TZ.out (by decide) (by decide) (by decide) (by decide))
      refine hK _ _ (fun _=>⟨HI8.out.V.hf.cell 0,HI8.out.T.cell 1,(k8.cellAt hgf8 (HIA.out.V.world_ne (HIA.out.dF _ rfl)) _).trans d8,(k8.cellAt hgf8 (HIA.out.V.world_ne (HIA.out.dF _ rfl)) _).trans d9⟩) ?_
      clear hK K V8 k8 p0 p1 p2 hr d8 d9 hgf8 TZ TF HIA
      refine wpRO_swi (fun _=>True) trivial ?_
      have TZ:=Hz tz8
      have z0:=tz8.cell 0;have z1:=tz8.cell 1;have zl:=tz8.lt;have zf:=tz8.free 0;have zf1:=tz8.free 1
      simp only [List.getElem?_cons_zero,List.getElem?_cons_succ] at z0 z1
      clear tz8
      refine wpRO_chg rfl rfl rfl (fun K hK=>?_);unfold gRun;go_simp
      refine hK _ _ ?_
      clear hK K z0 z1 zl zf zf1
      refine wpRO_swi (fun _=>True) trivial (wpRO_fin ?_)
      have kz:Keeps (·=zb) w8 ((w8.setCell ⟨zb,0,none⟩ (.int .i64 r1)).setCell ⟨zb,1,none⟩ (.int .i64 r2)):=((Keeps.refl (·=zb) w8).setCell (.inl rfl) _).setCell (.inl rfl) _
      have HI2:=Hz (HI8.out.other kz ⟨_,TZ.out⟩ T1.out TF8.out TL.out)
      have tz:Blk ((w8.setCell ⟨zb,0,none⟩ (.int .i64 r1)).setCell ⟨zb,1,none⟩ (.int .i64 r2)) zb [.int .i64 r1, .int .i64 r2] 96:=(TZ.out.setSame 0 (.int .i64 r1)).setSame 1 (.int .i64 r2)
      clear HI8 kz TZ TF8 T1 TL
      generalize (w8.setCell ⟨zb,0,none⟩ (.int .i64 r1)).setCell ⟨zb,1,none⟩ (.int .i64 r2)=w9 at *
      have HL2:=Hz (show Sl w9 96 2 (.slice lo j lc) j (entV (NS W.gr n m s j).1) by have:=HI2.out.L;rw [HJL.out] at this;exact this)
      have z0:=tz.cell 0;have z1:=tz.cell 1;have zl:=tz.lt
      simp only [List.getElem?_cons_zero,List.getElem?_cons_succ] at z0 z1
      generalize zb=tv at *
      clear tz
      go_wp2_with (at_builtin;refine wpList_app rfl (.tmp 71) (.tmp 73) 38 rfl 96 vi (.agg #[.int .i64 0, .int .i64 0]) 2 16 Tryz.underlying38 Vi.out Vz0.out Vz1.out Vz2.out rfl (by decide) _ j (entV (NS W.gr n m s j).1) rfl (HL2.out.keep ((Kz w9).alloc _) (fun _ _ h=>h)) ⟨w9.heap.size,0,none⟩ 1 1 [.int .i64 r1, .int .i64 r2] rfl rfl (news_at w9 96 #[.int .i64 r1, .int .i64 r2]) (by intro u hu;simp at hu;rcases hu with rfl | rfl <;> rfl) (by have:=HFL.out;unfold maxLen;omega) (by have:=HFL.out;omega) ?_)
      intro v10 w10 hs10 hk10 ho10
      have HI10:=Hz (HI2.out.app (v:=(r1,r2)) ((Kz w9).alloc _) (by rw [HJL.out];exact hs10) hk10 (by simpa using ho10))
      clear hs10 hk10 ho10 HL2 HI2 z0 z1 zl
      have hfl:=HFL.out
      go_wp2_with fail
      go_roundw
      case rel=>exact ⟨j+1,_,_,_,by omega,by go_num,by rw [HST.out];exact HI10.out⟩
      case measure=>simp [intOf];omega
    ·obtain rfl:j=fs.length:=by omega
     clear hlt hj
     obtain ⟨wo,wc,ewv,-,-,-⟩:=hI.V.H.hw.rd
     have EWV:=Hz ewv
     have hwn:W.wait.length≤24:=by have:=hI.V.H.ok.hq;omega
     have HWN:=Hz hwn
     have e3:=hI.V.H.cells.2.2.2.1;have el:=hI.V.H.hp.lt
     rw [ewv] at e3
     have a0:=hI.V.hw.cell 0;have al:=hI.V.hw.lt
     simp only [List.getElem?_cons_zero] at a0
     have HGW:=Hz (show ∀ p,p<W.wait.length→kd=5→(W.wait.getD p (0,0)).1=(m:Int)→(W.gr m).2[fs.length+cntW W.wait m p]? = some (3,(W.wait.getD p (0,0)).2) from fun p hp h5 he=>by
      unfold Wd.gr
      dsimp only
      rw [HTH.out,List.getElem?_append_right (by dsimp only;omega)]
      dsimp only
      rw [Nat.add_sub_cancel_left,if_pos h5,List.getElem?_map,cntW_at hp he]
      rfl)
     have HKP:=Hz (fun q=>NS_keep W.gr n (m:Int) s q HLL.out)
     have HFULL:=Hz (show ∀ p,(p=W.wait.length∨kd≠5)→(kd≠5→p=0)→NS W.gr n m s (fs.length+cntW W.wait m p)=fldM (valM W.gr n) (W.gr m).2 (s.1 ++ [(m:Int)],s.2 ++ [((W.gr m).1,[])]) from fun p h1 h2=>by
      unfold NS
      rw [List.take_of_length_le]
      rw [HGL.out]
      by_cases h5:kd=5
      ·rw [if_pos h5]
       rcases h1 with rfl | h1
       ·rw [cntW_all];exact Nat.le_refl _
       ·exact absurd h5 h1
      ·rw [if_neg h5];omega)
     clear hI
     go_wp2_with fail
     clear a0 al e3 el t0 tl t1
     go_loopw [10,13] (fun lv i wx=>∃ (p:Nat) (mv' nv':Value) (F':Nat→Prop),p≤W.wait.length∧(kd≠5→p=0)∧i=.int .i64 p∧InR w1 g h W rv mv nv F xb rb tb [.int .i64 kd, .slice ao fs.length fc, .bool old, .bool dead] [.int .i64 3, .int .i64 m] [.int .i64 0, .int .i64 0] ao fs (NS W.gr n m s (fs.length+cntW W.wait m p)).2 lv (NS W.gr n m s (fs.length+cntW W.wait m p)).1 wx mv' nv' F') (fun _ i _=>W.wait.length-(intOf i).toNat)
     case atStart=>
      exact ⟨0,_,_,_,Nat.zero_le _,fun _=>rfl,rfl,by rw [cntW_zero,Nat.add_zero];exact HI.out⟩
     case round=>
      clear HI
      obtain ⟨p,mv9,nv9,F9,hp,hp5,rfl,hI⟩:=hrel
      have HI:=Hz hI
      have t0:=hI.T.cell 0;have tl:=hI.T.lt
      have e3:=hI.V.H.cells.2.2.2.1;have el:=hI.V.H.hp.lt
      rw [EWV.out] at e3
      have a0:=hI.V.hw.cell 0;have al:=hI.V.hw.lt
      simp only [List.getElem?_cons_zero] at a0 t0
      by_cases hlt:p<W.wait.length
      ·by_cases hk5:kd=5
       ·have hkb:(kd == 5)=true:=by simpa using hk5
        have HK5:=Hz hk5
        obtain ⟨gw,ow,hwo,hown,hcell⟩:=HI.out.V.H.waitCell hlt EWV.out
        subst hwo
        have HCW:=Hz hcell;have HOW:=Hz hown
        have HXW:=Hz (show (W.wait.getD p (0,0)).2 ∈ W.all from Wd.mem_all.2 (HI.out.V.H.ok.wv _ (by rw [List.getD_eq_getElem?_getD,List.getElem?_eq_getElem hlt];exact List.getElem_mem hlt)).2.2)
        have HGP:=Hz (HGW.out p hlt hk5)
        have HSTP:=Hz (cntW_step (g:=(m:Int)) hlt)
        obtain ⟨gwl,d0,d1⟩:=hcell _ HI.out.V.H
        have b1:=HI.out.X.cell 1;have bl:=HI.out.X.lt
        simp only [List.getElem?_cons_zero,List.getElem?_cons_succ] at b1
        clear hI hcell hown hk5 hp5
        generalize W.wait.getD p (0,0)=ent at *
        obtain ⟨x1,x2⟩:=ent
        dsimp only at d0 d1 HXW HGP HSTP
        have hwn:=HWN.out
        go_wp2_with fail
        refine wp_region_ro (.free 4 (.free 8 (.pure 0 (.free 1 (.free 2 (.pure 3 (.free 5 (.free 6 (.pure 7 (.pure 9 (.free 10 (.fin)))))))))))) [] (fun w'=>w'.cell? ⟨g.wb,0,none⟩=some (.pointer (some ⟨h.p,0,none⟩))∧w'.cell? ⟨h.p,3,none⟩=some (.slice (some ⟨gw,ow,none⟩) W.wait.length wc)∧w'.cell? ⟨gw,ow+p*2,none⟩=some (.int .i64 x1)∧w'.cell? ⟨xb,1,none⟩=some (.int .i64 m)) (by kernel_rfl) (by kernel_rfl) ⟨a0,e3,d0,b1⟩ ?_
        iterate 11 first | (refine wpRO_free rfl rfl _ (fun w'=>by go_simp;exact Gives.mk _ _) (fun K hK=>?_);go_simp;refine hK _ ?_;clear hK K) | (refine wpRO_skipF rfl rfl (fun K hK=>?_);go_simp;refine hK _ ?_;clear hK K) | (refine wpRO_pure rfl rfl _ (fun w' hG=>by obtain ⟨a0,e3,d0,b1⟩:=hG;exact gives_agg2 rfl (by decide +kernel) rfl (by assumption) (by assumption)) (fun K hK=>?_);go_simp;refine hK _ ?_;clear hK K) | (refine wpRO_pure rfl rfl _ (fun w' hG=>by obtain ⟨a0,e3,d0,b1⟩:=hG;go_simp;exact Gives.mk _ _) (fun K hK=>?_);go_simp;refine hK _ ?_;clear hK K) | (refine wpRO_skip rfl rfl (fun K hK=>?_);go_simp;refine hK _ ?_;clear hK K)
        refine wpRO_fin ?_
        have HI:=Hz (HI.out.same ((Kz wr).drew))
        clear a0 al e3 el t0 tl b1 bl gwl d0 d1
        by_cases he:x1=m
        ·subst he
         have hgp:=HGP.out rfl
         have hjl0:fs.length+cntW W.wait m p<(W.gr m).2.length:=(List.getElem?_eq_some_iff.1 hgp).1
         have HFL:=Hz (show fs.length+cntW W.wait m p≤40 by have h1:=HFL.out;have h2:=cntW_le (l:=W.wait) (g:=(m:Int)) p;omega)
         obtain ⟨j,hj⟩:∃ j,fs.length+cntW W.wait m p=j:=⟨_,rfl⟩
         have HJQ:=Hz hj
         rw [hj] at HI HFL hgp hjl0
         clear hj
         have HST:=Hz (NS_step W.gr n m s hgp)
         have hjl:=NS_len W.gr n m s (j:=j) (by omega)
         have HJL:=Hz hjl
         obtain ⟨lo,lc,rfl,-,-,-⟩:=HI.out.L.rd
         rw [hjl] at HI ⊢
         clear hgp hjl0 hjl
         generalize wr.drew=wr at *
         have a0:=HI.out.V.hw.cell 0;have al:=HI.out.V.hw.lt
         have e3:=HI.out.V.H.cells.2.2.2.1;have el:=HI.out.V.H.hp.lt
         rw [EWV.out] at e3
         have c0:=HI.out.V.hf.cell 0;have cl:=HI.out.V.hf.lt
         simp only [List.getElem?_cons_zero] at a0 c0
         obtain ⟨gwl,-,d1⟩:=HCW.out _ HI.out.V.H
         unfold RVH.fn at c0
         have hwn:=HWN.out
         go_wp2_with fail
         refine wp_region_ro (.free 5 (.pure 0 (.pure 1 (.free 2 (.free 3 (.pure 4 (.free 6 (.free 7 (.pure 8 (.free 9 (.two 10 (.run 11 (.run 12 (.swi [] (.fin)))) 11 (.run 10 (.swi [12] (.run 12 (.swi [] (.fin)))))))))))))))) [12] (fun w'=>w'.cell? ⟨g.fb,0,none⟩=some (.func (.func 104) #[] #[.pointer (some ⟨g.mb,0,none⟩), .pointer (some ⟨g.wb,0,none⟩), .pointer (some ⟨g.vb,0,none⟩), .pointer (some ⟨g.fb,0,none⟩)])∧w'.cell? ⟨g.wb,0,none⟩=some (.pointer (some ⟨h.p,0,none⟩))∧w'.cell? ⟨h.p,3,none⟩=some (.slice (some ⟨gw,ow,none⟩) W.wait.length wc)∧w'.cell? ⟨gw,ow+p*2+1,none⟩=some (.int .i64 x2)) (by kernel_rfl) (by kernel_rfl) ⟨c0,a0,e3,d1⟩ ?_
         iterate 10 first | (refine wpRO_free rfl rfl _ (fun w'=>by go_simp;exact Gives.mk _ _) (fun K hK=>?_);go_simp;refine hK _ ?_;clear hK K) | (refine wpRO_skipF rfl rfl (fun K hK=>?_);go_simp;refine hK _ ?_;clear hK K) | (refine wpRO_pure rfl rfl _ (fun w' hG=>by obtain ⟨c0,a0,e3,d1⟩:=hG;exact gives_agg2 rfl (by decide +kernel) rfl (by assumption) (by assumption)) (fun K hK=>?_);go_simp;refine hK _ ?_;clear hK K) | (refine wpRO_pure rfl rfl _ (fun w' hG=>by obtain ⟨c0,a0,e3,d1⟩:=hG;go_simp;exact Gives.mk _ _) (fun K hK=>?_);go_simp;refine hK _ ?_;clear hK K) | (refine wpRO_skip rfl rfl (fun K hK=>?_);go_simp;refine hK _ ?_;clear hK K)
         refine wpRO_two rfl rfl rfl rfl (fun K hK=>?_) (fun K hK=>?_)
         ·unfold gRun;go_simp
          refine (HIH.out (3,x2) mv9 nv9 F9 _ _ (HI.out.V.same ((Kz wr).drew)) (fun _=>HXW.out) (HUN.out j).1 (HUN.out j).2 (HNL.out j)).mono ?_
          rintro e w8 ⟨rfl,mv8,nv8,F8,V8,k8,p0,p1,p2⟩
          have HI8:=Hz ((HI.out.same ((Kz wr).drew)).toldE V8 k8 p0 p1 p2)
          obtain ⟨⟨⟨r1,r2⟩,sr⟩,hr⟩:∃ t,valM W.gr n (3,x2) (NS W.gr n m s j).2=t:=⟨_,rfl⟩
          rw [hr] at HI8 HST ⊢
          dsimp only at HI8 HST ⊢
          refine hK _ _ (fun h=>h) (fun _ _=>⟨HI8.out.V.hf.cell 0,HI8.out.V.hw.cell 0,by have:=HI8.out.V.H.cells.2.2.2.1;rw [EWV.out] at this;exact this,(HCW.out _ HI8.out.V.H).2.2⟩) ?_
          clear hK K V8 k8 p0 p1 p2 hr a0 al e3 el c0 cl gwl d1 HI
          refine wpRO_run rfl rfl (fun K hK=>?_);unfold gRun;go_simp
          have kz:Keeps (fun _=>False) w8 (w8.alloc (.cells #[.int .i64 0, .int .i64 0] 96)).drew:=((Kz w8).alloc _).drew
          have tz:Blk (w8.alloc (.cells #[.int .i64 0, .int .i64 0] 96)).drew w8.heap.size [.int .i64 0, .int .i64 0] 96:=(Blk.new w8 [.int .i64 0, .int .i64 0] 96).drew
          have HI9:=Hz (HI8.out.same kz)
          refine hK _ _ (fun _=>⟨HI9.out.V.hf.cell 0,HI9.out.V.hw.cell 0,by have:=HI9.out.V.H.cells.2.2.2.1;rw [EWV.out] at this;exact this,(HCW.out _ HI9.out.V.H).2.2⟩) ?_
          clear hK K
          have z0:=tz.cell 0;have z1:=tz.cell 1;have zl:=tz.lt;have zf:=tz.free 0;have zf1:=tz.free 1
          simp only [List.getElem?_cons_zero,List.getElem?_cons_succ] at z0 z1
          clear kz tz
          refine wpRO_chg rfl rfl rfl (fun K hK=>?_);unfold gRun;go_simp
          refine hK _ _ ?_
          clear hK K z0 z1 zl zf zf1 HI9
          refine wpRO_swi (fun _=>True) trivial (wpRO_fin ?_)
          have kz:Keeps (fun _=>False) w8 (w8.alloc (.cells #[.int .i64 r1, .int .i64 r2] 96)):=((Kz w8).alloc _)
          have tz:Blk (w8.alloc (.cells #[.int .i64 r1, .int .i64 r2] 96)) w8.heap.size [.int .i64 r1, .int .i64 r2] 96:=(Blk.new w8 [.int .i64 r1, .int .i64 r2] 96)
          have HI2:=Hz (HI8.out.same kz)
          clear HI8 kz
          generalize w8.alloc (.cells #[.int .i64 r1, .int .i64 r2] 96)=w9 at *
          have HL2:=Hz (show Sl w9 96 2 (.slice lo j lc) j (entV (NS W.gr n m s j).1) by have:=HI2.out.L;rw [HJL.out] at this;exact this)
          have z0:=tz.cell 0;have z1:=tz.cell 1;have zl:=tz.lt
          simp only [List.getElem?_cons_zero,List.getElem?_cons_succ] at z0 z1
          generalize w8.heap.size=tv at *
          clear tz
          go_wp2_with (at_builtin;refine wpList_app rfl (.tmp 111) (.tmp 113) 38 rfl 96 vi (.agg #[.int .i64 0, .int .i64 0]) 2 16 Tryz.underlying38 Vi.out Vz0.out Vz1.out Vz2.out rfl (by decide) _ j (entV (NS W.gr n m s j).1) rfl (HL2.out.keep ((Kz w9).alloc _) (fun _ _ h=>h)) ⟨w9.heap.size,0,none⟩ 1 1 [.int .i64 r1, .int .i64 r2] rfl rfl (news_at w9 96 #[.int .i64 r1, .int .i64 r2]) (by intro u hu;simp at hu;rcases hu with rfl | rfl <;> rfl) (by have:=HFL.out;unfold maxLen;omega) (by have:=HFL.out;omega) ?_)
          intro v10 w10 hs10 hk10 ho10
          have HI10:=Hz (HI2.out.app (v:=(r1,r2)) ((Kz w9).alloc _) (by rw [HJL.out];exact hs10) hk10 (by simpa using ho10))
          clear hs10 hk10 ho10 HL2 HI2 z0 z1 zl
          have hfl:=HFL.out
          have hwn:=HWN.out
          go_wp2_with fail
          go_roundw
          case rel=>exact ⟨p+1,_,_,_,hlt,fun h=>absurd HK5.out h,by go_num,by rw [HSTP.out,if_pos (by trivial),←Nat.add_assoc,HJQ.out,HST.out];exact HI10.out⟩
          case measure=>simp [intOf];omega
         ·unfold gRun;go_simp
          have kz:Keeps (fun _=>False) wr (wr.alloc (.cells #[.int .i64 0, .int .i64 0] 96)).drew:=((Kz wr).alloc _).drew
          have tz:Blk (wr.alloc (.cells #[.int .i64 0, .int .i64 0] 96)).drew wr.heap.size [.int .i64 0, .int .i64 0] 96:=(Blk.new wr [.int .i64 0, .int .i64 0] 96).drew
          have HIA:=Hz (HI.out.same kz)
          have TF:=Hz (show ¬ F9 wr.heap.size from fun hf=>by have:=(HI.out.V.hF _ hf).1;omega)
          have TL:=Hz (show ¬ ownB (.slice lo j lc) wr.heap.size from fun hf=>by have:=(HI.out.L.own hf).1;omega)
          have T1:=Hz (show w1.heap.size≤wr.heap.size from HI.out.K.size)
          have TZ:=Hz tz
          refine hK _ _ (fun h=>h) (fun _ _=>⟨HIA.out.V.hf.cell 0,HIA.out.V.hw.cell 0,by have:=HIA.out.V.H.cells.2.2.2.1;rw [EWV.out] at this;exact this,(HCW.out _ HIA.out.V.H).2.2⟩) ?_
          clear hK K kz tz HI a0 al e3 el c0 cl gwl d1
          generalize (wr.alloc (.cells #[.int .i64 0, .int .i64 0] 96)).drew=wa at *
          generalize wr.heap.size=zb at *
          refine wpRO_run rfl rfl (fun K hK=>?_);unfold gRun;go_simp
          refine (HIH.out (3,x2) mv9 nv9 F9 _ _ HIA.out.V (fun _=>HXW.out) (HUN.out j).1 (HUN.out j).2 (HNL.out j)).mono ?_
          rintro e w8 ⟨rfl,mv8,nv8,F8,V8,k8,p0,p1,p2⟩
          have HI8:=Hz (HIA.out.toldE V8 k8 p0 p1 p2)
          obtain ⟨⟨⟨r1,r2⟩,sr⟩,hr⟩:∃ t,valM W.gr n (3,x2) (NS W.gr n m s j).2=t:=⟨_,rfl⟩
          rw [hr] at HI8 HST ⊢
          dsimp only at HI8 HST ⊢
          have TF8:=Hz (show ¬ F8 zb from fun hf=>by rcases p2 _ hf with h | h;exact TF.out h;exact absurd h (Nat.not_le.2 TZ.out.lt))
          have tz8:=k8.blk TZ.out (HIA.out.V.fp_ne TZ.out (by decide) (by decide) (by decide) (by decide))
          refine hK _ _ (fun _=>⟨HI8.out.V.hf.cell 0,HI8.out.V.hw.cell 0,by have:=HI8.out.V.H.cells.2.2.2.1;rw [EWV.out] at this;exact this,(HCW.out _ HI8.out.V.H).2.2⟩) ?_
          clear hK K V8 k8 p0 p1 p2 hr TZ TF HIA
          refine wpRO_swi (fun _=>True) trivial ?_
          have TZ:=Hz tz8
          have z0:=tz8.cell 0;have z1:=tz8.cell 1;have zl:=tz8.lt;have zf:=tz8.free 0;have zf1:=tz8.free 1
          simp only [List.getElem?_cons_zero,List.getElem?_cons_succ] at z0 z1
          clear tz8
          refine wpRO_chg rfl rfl rfl (fun K hK=>?_);unfold gRun;go_simp
          refine hK _ _ ?_
          clear hK K z0 z1 zl zf zf1
          refine wpRO_swi (fun _=>True) trivial (wpRO_fin ?_)
          have kz:Keeps (·=zb) w8 ((w8.setCell ⟨zb,0,none⟩ (.int .i64 r1)).setCell ⟨zb,1,none⟩ (.int .i64 r2)):=((Keeps.refl (·=zb) w8).setCell (.inl rfl) _).setCell (.inl rfl) _
          have HI2:=Hz (HI8.out.other kz ⟨_,TZ.out⟩ T1.out TF8.out TL.out)
          have tz:Blk ((w8.setCell ⟨zb,0,none⟩ (.int .i64 r1)).setCell ⟨zb,1,none⟩ (.int .i64 r2)) zb [.int .i64 r1, .int .i64 r2] 96:=(TZ.out.setSame 0 (.int .i64 r1)).setSame 1 (.int .i64 r2)
          clear HI8 kz TZ TF8 T1 TL
          generalize (w8.setCell ⟨zb,0,none⟩ (.int .i64 r1)).setCell ⟨zb,1,none⟩ (.int .i64 r2)=w9 at *
          have HL2:=Hz (show Sl w9 96 2 (.slice lo j lc) j (entV (NS W.gr n m s j).1) by have:=HI2.out.L;rw [HJL.out] at this;exact this)
          have z0:=tz.cell 0;have z1:=tz.cell 1;have zl:=tz.lt
          simp only [List.getElem?_cons_zero,List.getElem?_cons_succ] at z0 z1
          generalize zb=tv at *
          clear tz
          go_wp2_with (at_builtin;refine wpList_app rfl (.tmp 111) (.tmp 113) 38 rfl 96 vi (.agg #[.int .i64 0, .int .i64 0]) 2 16 Tryz.underlying38 Vi.out Vz0.out Vz1.out Vz2.out rfl (by decide) _ j (entV (NS W.gr n m s j).1) rfl (HL2.out.keep ((Kz w9).alloc _) (fun _ _ h=>h)) ⟨w9.heap.size,0,none⟩ 1 1 [.int .i64 r1, .int .i64 r2] rfl rfl (news_at w9 96 #[.int .i64 r1, .int .i64 r2]) (by intro u hu;simp at hu;rcases hu with rfl | rfl <;> rfl) (by have:=HFL.out;unfold maxLen;omega) (by have:=HFL.out;omega) ?_)
          intro v10 w10 hs10 hk10 ho10
          have HI10:=Hz (HI2.out.app (v:=(r1,r2)) ((Kz w9).alloc _) (by rw [HJL.out];exact hs10) hk10 (by simpa using ho10))
          clear hs10 hk10 ho10 HL2 HI2 z0 z1 zl
          have hfl:=HFL.out
          have hwn:=HWN.out
          go_wp2_with fail
          go_roundw
          case rel=>exact ⟨p+1,_,_,_,hlt,fun h=>absurd HK5.out h,by go_num,by rw [HSTP.out,if_pos (by trivial),←Nat.add_assoc,HJQ.out,HST.out];exact HI10.out⟩
          case measure=>simp [intOf];omega
        ·have hd:(x1 == (m:Int))=false:=by simpa using he
         have HSTP:=Hz (show cntW W.wait m (p+1)=cntW W.wait m p by rw [HSTP.out,if_neg he];rfl)
         clear he
         go_wp2_with fail
         go_roundw
         case rel=>exact ⟨p+1,_,_,_,hlt,fun h=>absurd HK5.out h,by go_num,by rw [HSTP.out];exact HI.out⟩
         case measure=>simp [intOf];omega
       ·have hkb:(kd == 5)=false:=by simpa using hk5
        obtain rfl:p=0:=hp5 hk5
        have HEN:=Hz (HFULL.out 0 (.inr hk5) hp5)
        have HI9:=Hz hI
        obtain ⟨cs9,hs9,hr9⟩:=hI.V.N
        have hkp:=HKP.out (fs.length+cntW W.wait m 0)
        have hlt9:s.1.length<(NS W.gr n m s (fs.length+cntW W.wait m 0)).2.2.length:=(List.getElem?_eq_some_iff.1 hkp).1
        have HKP9:=Hz hkp
        obtain ⟨g9,o9,cap9,cur,rfl,hb9,h91,h92,h93,h94⟩:=hs9.laid (by omega)
        have c1:=hI.V.hv.cell 1;have cl:=hI.V.hv.lt
        have g1:=hb9.cell (o9+s.1.length*2+1);have gl:=hb9.lt;have gf9:=hb9.free (o9+s.1.length*2+1)
        obtain ⟨u9,hu9⟩:∃ u,cur[o9+s.1.length*2+1]? = some u:=⟨_,List.getElem?_eq_getElem (by omega)⟩
        simp only [List.getElem?_cons_zero,List.getElem?_cons_succ] at c1
        rw [hu9] at g1
        obtain ⟨lo9,lc9,rfl,-,-,-⟩:=hI.L.rd
        have hs9m:(NS W.gr n m s (fs.length+cntW W.wait m 0)).2.2.length≤cap9:=h91
        clear hI hr9 hs9 hb9 h92 h93 h94 h91 hu9 hkp
        go_upto_region 25 with (fail)
        obtain ⟨hd1,rd9⟩:=HI9.out.done (kd:=kd) (n:=s.1.length) rfl rfl (by have hkp:=HKP9.out;rw [HGR1.out] at hkp;exact hkp)
        have HD9:=Hz hd1;have RD9:=Hz rd9
        clear c1 cl g1 gl gf9 HI9 hd1 rd9
        generalize wr.setCell ⟨g9,o9+s.1.length*2+1,none⟩ _=w9 at *
        have r0:=RD9.out.cell 0;have r1:=RD9.out.cell 1;have rl:=RD9.out.lt;have f0:=RD9.out.free 0;have f1:=RD9.out.free 1
        simp only [List.getElem?_cons_zero,List.getElem?_cons_succ] at r0 r1
        go_wp2_with fail
        have hb3:=(RD9.out.setSame 0 (.int .i64 3)).setSame 1 (.int .i64 s.1.length)
        have x0':=hb3.cell 0;have x1':=hb3.cell 1
        simp only [List.set_cons_zero,List.set_cons_succ,List.getElem?_cons_zero,List.getElem?_cons_succ] at x0' x1'
        refine bodyPost_ret (v:=.agg #[.int .i64 3, .int .i64 s.1.length]) (by simp [results,Tryz.results104,go_sem,x0',x1']) rfl ?_
        unfold RvRet
        rw [HNEW.out]
        dsimp only
        refine ⟨rfl,?_⟩
        have set:=((Keeps.refl (·=rb) w9).setCell (p:=⟨rb,0,none⟩) (.inl rfl) (.int .i64 3)).setCell (p:=⟨rb,1,none⟩) (.inl rfl) (.int .i64 s.1.length)
        rw [←HEN.out,HGR1.out]
        exact RvTo.done K1.out HD9.out HRB.out RB.out.lt RNF.out RNO.out ⟨_,RD9.out⟩ set
      ·obtain rfl:p=W.wait.length:=by omega
       have HEN:=Hz (HFULL.out W.wait.length (.inl rfl) hp5)
       have HI9:=Hz hI
       obtain ⟨cs9,hs9,hr9⟩:=hI.V.N
       have hkp:=HKP.out (fs.length+cntW W.wait m W.wait.length)
       have hlt9:s.1.length<(NS W.gr n m s (fs.length+cntW W.wait m W.wait.length)).2.2.length:=(List.getElem?_eq_some_iff.1 hkp).1
       have HKP9:=Hz hkp
       obtain ⟨g9,o9,cap9,cur,rfl,hb9,h91,h92,h93,h94⟩:=hs9.laid (by omega)
       have c1:=hI.V.hv.cell 1;have cl:=hI.V.hv.lt
       have g1:=hb9.cell (o9+s.1.length*2+1);have gl:=hb9.lt;have gf9:=hb9.free (o9+s.1.length*2+1)
       obtain ⟨u9,hu9⟩:∃ u,cur[o9+s.1.length*2+1]? = some u:=⟨_,List.getElem?_eq_getElem (by omega)⟩
       simp only [List.getElem?_cons_zero,List.getElem?_cons_succ] at c1
       rw [hu9] at g1
       obtain ⟨lo9,lc9,rfl,-,-,-⟩:=hI.L.rd
       have hs9m:(NS W.gr n m s (fs.length+cntW W.wait m W.wait.length)).2.2.length≤cap9:=h91
       clear hI hr9 hs9 hb9 h92 h93 h94 h91 hu9 hkp
       go_upto_region 25 with (fail)
       obtain ⟨hd1,rd9⟩:=HI9.out.done (kd:=kd) (n:=s.1.length) rfl rfl (by have hkp:=HKP9.out;rw [HGR1.out] at hkp;exact hkp)
       have HD9:=Hz hd1;have RD9:=Hz rd9
       clear c1 cl g1 gl gf9 HI9 hd1 rd9
       generalize wr.setCell ⟨g9,o9+s.1.length*2+1,none⟩ _=w9 at *
       have r0:=RD9.out.cell 0;have r1:=RD9.out.cell 1;have rl:=RD9.out.lt;have f0:=RD9.out.free 0;have f1:=RD9.out.free 1
       simp only [List.getElem?_cons_zero,List.getElem?_cons_succ] at r0 r1
       go_wp2_with fail
       have hb3:=(RD9.out.setSame 0 (.int .i64 3)).setSame 1 (.int .i64 s.1.length)
       have x0':=hb3.cell 0;have x1':=hb3.cell 1
       simp only [List.set_cons_zero,List.set_cons_succ,List.getElem?_cons_zero,List.getElem?_cons_succ] at x0' x1'
       refine bodyPost_ret (v:=.agg #[.int .i64 3, .int .i64 s.1.length]) (by simp [results,Tryz.results104,go_sem,x0',x1']) rfl ?_
       unfold RvRet
       rw [HNEW.out]
       dsimp only
       refine ⟨rfl,?_⟩
       have set:=((Keeps.refl (·=rb) w9).setCell (p:=⟨rb,0,none⟩) (.inl rfl) (.int .i64 3)).setCell (p:=⟨rb,1,none⟩) (.inl rfl) (.int .i64 s.1.length)
       rw [←HEN.out,HGR1.out]
       exact RvTo.done K1.out HD9.out HRB.out RB.out.lt RNF.out RNO.out ⟨_,RD9.out⟩ set
end
end
section
theorem rvOk {g:RVH} {h:RW} {W:Wd} {rv:Value} (hT:W.T.length≤100000) (n:Nat):RvOk g h W rv n:=by
 induction n with
 | zero=>
  intro v mv nv F s w V hx hu hc hl
  by_cases h3:v.1=3
  ·obtain ⟨v1,v2⟩:=v
   dsimp only at h3 hx
   subst h3
   by_cases hm:v2 ∈ s.1
   ·exact rvalue_met v2 0 V hm (by omega)
   ·have:=unM_push (hx rfl) hm
    omega
  ·exact rvalue_plain v 0 V h3
 | succ n ih=>
  intro v mv nv F s w V hx hu hc hl
  by_cases h3:v.1=3
  ·obtain ⟨v1,v2⟩:=v
   dsimp only at h3 hx
   subst h3
   by_cases hm:v2 ∈ s.1
   ·exact rvalue_met v2 (n+1) V hm (by omega)
   ·exact rvalue_new n ih v2 V (hx rfl) hm hu hc hl hT
  ·exact rvalue_plain v (n+1) V h3
end
section
open Go.RowKit
section
variable {w:World} {g:RVH} {h:RW} {W:Wd} {tb:Nat}
structure TopR (w:World) (g:RVH) (h:RW) (W:Wd) (tb:Nat) (wr:World) (rv mv nv:Value) (F:Nat→Prop) (s:VS) (l:List Vl):Prop where
 V:RvAt wr g h W rv mv nv F s
 K:Keeps (fun _=>False) w wr
 o0:∀ k,ownB mv k→w.heap.size≤k
 o1:∀ k,ownB nv k→w.heap.size≤k
 o2:∀ k,F k→w.heap.size≤k
 L:Sl wr 96 2 rv l.length (entV l)
 o3:∀ k,ownB rv k→w.heap.size≤k∧¬ F k
 om:w.heap.size≤g.mb
 ov:w.heap.size≤g.vb
 ot:w.heap.size≤tb
 nt:tb≠g.vb
 ol:∀ k,h.Own k→k<w.heap.size
 B:Blk wr tb [.slice none 0 0, .slice none 0 0] 41
variable {wr w2:World} {rv mv nv:Value} {F:Nat→Prop} {s s2:VS} {l:List Vl}
theorem TopR.rv_ne (I:TopR w g h W tb wr rv mv nv F s l) {k:Nat} (hk:ownB rv k):¬ RvFp g mv nv k:=by
 obtain ⟨_,c,hc⟩:=I.L.own hk
 exact I.V.fp_ne hc (by decide) (by decide) (by decide) (by decide)
theorem TopR.tb_ne (I:TopR w g h W tb wr rv mv nv F s l):¬ RvFp g mv nv tb:=fun e=>by
 rcases e with e | e | e | e
 ·exact I.B.ne I.V.hm (by decide) e
 ·exact I.nt e
 ·obtain ⟨_,c,hc⟩:=I.V.M.own e;exact I.B.ne hc (by decide) rfl
 ·obtain ⟨_,c,hc⟩:=I.V.N.own e;exact I.B.ne hc (by decide) rfl
theorem TopR.told {mv2 nv2:Value} {F2:Nat→Prop} (I:TopR w g h W tb wr rv mv nv F s l) (V2:RvAt w2 g h W rv mv2 nv2 F2 s2) (k2:Keeps (RvFp g mv nv) wr w2) (p0:∀ k,ownB mv2 k→ownB mv k∨wr.heap.size≤k) (p1:∀ k,ownB nv2 k→ownB nv k∨wr.heap.size≤k) (p2:∀ k,F2 k→F k∨wr.heap.size≤k) :
  TopR w g h W tb w2 rv mv2 nv2 F2 s2 l:=by
 have hz:=I.K.size
 refine ⟨V2,I.K.then k2 (fun j hj=>?_),fun j hj=>?_,fun j hj=>?_,fun j hj=>?_,I.L.keep k2 (fun j hj=>I.rv_ne hj),fun j hj=>⟨(I.o3 j hj).1,fun hf=>?_⟩,I.om,I.ov,I.ot,I.nt,I.ol,k2.blk I.B I.tb_ne⟩
 ·rcases hj with rfl | rfl | hj | hj
  ·exact .inr I.om
  ·exact .inr I.ov
  ·exact .inr (I.o0 j hj)
  ·exact .inr (I.o1 j hj)
 ·rcases p0 j hj with h | h
  ·exact I.o0 j h
  ·omega
 ·rcases p1 j hj with h | h
  ·exact I.o1 j h
  ·omega
 ·rcases p2 j hj with h | h
  ·exact I.o2 j h
  ·omega
 ·rcases p2 j hf with h | h
  ·exact (I.o3 j hj).2 h
  ·have:=(I.L.own hj).1;omega
theorem TopR.same (I:TopR w g h W tb wr rv mv nv F s l) (k:Keeps (fun _=>False) wr w2):TopR w g h W tb w2 rv mv nv F s l:=
 ⟨I.V.same k,I.K.trans k,I.o0,I.o1,I.o2,I.L.keep k (fun _ _ h=>h),I.o3,I.om,I.ov,I.ot,I.nt,I.ol,k.blk I.B (fun h=>h)⟩
theorem TopR.app {v:Vl} {v2:Value} {wa:World} (I:TopR w g h W tb wr rv mv nv F s l) (ka:Keeps (fun _=>False) wr wa) (hs:Sl w2 96 2 v2 (l.length+1) (entV l ++ [.int .i64 v.1, .int .i64 v.2])) (hk:Keeps (ownB rv) wa w2)
  (ho:∀ k,ownB v2 k→ownB rv k∨wa.heap.size≤k):TopR w g h W tb (w2.setCell ⟨g.vb,0,none⟩ v2) v2 mv nv F s (l ++ [v]):=by
 have k2:=(ka.mono (T:=ownB rv) (fun _ _ h=>h.elim)).trans hk
 have hz:=ka.size;have hz2:=I.K.size
 have nr:∀ {b:Nat} {c:List Value} {T:TypeId},Blk wr b c T→T≠96→¬ ownB rv b:=fun hb hT e=>by obtain ⟨_,c',hc'⟩:=I.L.own e;exact hb.ne hc' hT rfl
 have hv2:=k2.blk I.V.hv (nr I.V.hv (by decide))
 have set:=(Keeps.refl (·=g.vb) w2).setCell (p:=⟨g.vb,0,none⟩) (.inl rfl) v2
 have kk:Keeps (fun k=>ownB rv k∨k=g.vb) wr (w2.setCell ⟨g.vb,0,none⟩ v2):=(k2.mono (fun _ _ h=>.inl h)).then set (fun b hb=>.inl (.inr hb))
 have nb:∀ {b:Nat} {c:List Value} {T:TypeId},Blk wr b c T→T≠96→T≠41→¬ (ownB rv b∨b=g.vb):=fun hb h1 h2 e=>by
  rcases e with e | e
  ·exact nr hb h1 e
  ·exact hb.ne I.V.hv h2 e
 have nF:∀ b,F b→¬ (ownB rv b∨b=g.vb):=fun b hb e=>by
  rcases e with e | e
  ·exact (I.o3 b e).2 hb
  ·obtain ⟨_,c,hc⟩:=I.V.hF b hb;exact hc.ne I.V.hv (by decide) e
 refine ⟨⟨I.V.H.keep kk (fun b hb e=>?_),kk.blk I.V.hm (nb I.V.hm (by decide) (by decide)),kk.blk I.V.hw (nb I.V.hw (by decide) (by decide)),by simpa using hv2.setSame 0 v2,kk.blk I.V.hf (nb I.V.hf (by decide) (by decide)),I.V.M.keep kk (fun b hb=>?_),I.V.N.keep kk (fun b hb _=>nF b hb) (fun b hb=>?_),fun b hb=>?_,I.V.bd⟩,I.K.then kk (fun j hj=>?_),I.o0,I.o1,I.o2,?_,fun j hj=>?_,I.om,I.ov,I.ot,I.nt,I.ol,kk.blk I.B (fun e=>?_)⟩
 ·have h1:=I.ol b hb
  rcases e with e | e
  ·have:=(I.o3 b e).1;omega
  ·have:=I.ov;omega
 ·obtain ⟨_,c,hc⟩:=I.V.M.own hb;exact nb hc (by decide) (by decide)
 ·obtain ⟨_,c,hc⟩:=I.V.N.own hb;exact nb hc (by decide) (by decide)
 ·obtain ⟨a,c,hc⟩:=I.V.hF b hb
  exact ⟨Nat.lt_of_lt_of_le a kk.size,c,kk.blk hc (nF b hb)⟩
 ·rcases hj with hj | hj
  ·exact .inr (I.o3 j hj).1
  ·exact .inr (by rw [hj];exact I.ov)
 ·have e:entV (l ++ [v])=entV l ++ [.int .i64 v.1, .int .i64 v.2]:=by simp [entV]
  rw [e,List.length_append]
  exact hs.keep set (fun b hb e=>by obtain ⟨_,c,hc⟩:=hs.own hb;exact hc.ne hv2 (by decide) e)
 ·rcases ho j hj with h1 | h1
  ·exact I.o3 j h1
  ·exact ⟨by omega,fun hf=>by have:=(I.V.hF j hf).1;omega⟩
 ·rcases e with e | e
  ·exact nr I.B (by decide) e
  ·exact I.nt e
end
def TR (W:Wd) (k:Nat):List Vl × VS:=fldM (valM W.gr 5000) (W.roots.take k) ([],[])
theorem TR_step {W:Wd} {k:Nat} (h:k<W.roots.length):TR W (k+1)=((TR W k).1 ++ [(valM W.gr 5000 (W.roots.getD k (0,0)) (TR W k).2).1],(valM W.gr 5000 (W.roots.getD k (0,0)) (TR W k).2).2):=by
 unfold TR
 have e:W.roots[k]? = some (W.roots.getD k (0,0)):=by rw [List.getElem?_eq_getElem h];simp [List.getD,h]
 rw [List.take_add_one,e,Option.toList_some,fldM_app]
 rfl
theorem TR_len {W:Wd} {k:Nat} (h:k≤W.roots.length):(TR W k).1.length=k:=by
 unfold TR;rw [fldM_len,List.length_take];omega
theorem TR_nodes {W:Wd} (k:Nat):(TR W k).2.2.length=(TR W k).2.1.length:=by
 unfold TR
 exact fldM_nodes (valM_nodes W.gr 5000) _ _ rfl
theorem TR_un {W:Wd} (h:W.ok) (k:Nat):unM W.all (TR W k).2.1≤5000∧(TR W k).2.1.length+unM W.all (TR W k).2.1≤5000:=by
 have I:=Wd.inU h
 unfold TR
 have h1:=Wd.all_len h
 have h2:=unM_nil W.all
 have h3:=fldM_count (f:=valM W.gr 5000) (U:=W.all) (valM_count I 5000) (W.roots.take k) ([],[]) (fun v hv h3=>Wd.mem_all.2 (Wd.okV_ref (h.rv v (List.mem_of_mem_take hv)) h3))
 simp only [List.length_nil] at h3
 exact ⟨by omega,by omega⟩
end
section
open Go.RowKit
@[go_sem] theorem run_store_closure {P:Program} {a:Addr} {m:Mode} {w:World} (f:Fn) (x y:Array Value):(store a (.func f x y) m).run P w=stored P w a (.func f x y) m:=run_store P w a _ m rfl
theorem TopR.other {w wr w2:World} {g:RVH} {h:RW} {W:Wd} {tb:Nat} {rv mv nv:Value} {F:Nat→Prop} {s:VS} {l:List Vl} {b:Nat} (I:TopR w g h W tb wr rv mv nv F s l) (k:Keeps (·=b) wr w2) (hb:∃ c,Blk wr b c 96) (h0:w.heap.size≤b) (h1:¬ F b) (h2:¬ ownB rv b) :
  TopR w g h W tb w2 rv mv nv F s l:=by
 obtain ⟨c,hc⟩:=hb
 have ho:¬ h.Own b:=fun e=>by have:=I.ol b e;omega
 have fp:=I.V.fp_ne hc (by decide) (by decide) (by decide) (by decide)
 exact ⟨I.V.other k fp ho h1 (hc.ne I.V.hw (by decide)) (hc.ne I.V.hf (by decide)),I.K.then k (fun j hj=>.inr (by rw [hj];exact h0)),I.o0,I.o1,I.o2,I.L.keep k (fun j hj e=>h2 (e ▸ hj)),I.o3,I.om,I.ov,I.ot,I.nt,I.ol,k.blk I.B (fun e=>hc.ne I.B (by decide) e.symm)⟩
section
variable {h:RW} {W:Wd}
theorem WView_c (w:World) (H:WorldAt w h W) (hT:W.T.length≤100000) :
  Calls Tryz.prog 35 #[.pointer (some ⟨h.p,0,none⟩)] w fun e w'=>ViewRet w W.view e w':=by
 have HH:=Hz H;have HT:=Hz hT
 obtain ⟨vi,hi,hz0,hz1,hz2⟩:=info_parts1 info_val
 have Vi:=Hz hi;have Vz0:=Hz hz0;have Vz1:=Hz hz1;have Vz2:=Hz hz2;clear hi hz0 hz1 hz2
 have h12:=H.ok.hr
 obtain ⟨ro,rc,hro,-,-,-⟩:=H.hr.rd
 have HRO:=Hz hro
 have HRR:=Hz H.hr
 clear H hT hro
 go_enter Tryz.func35,Tryz.ntmps35
 go_upto_region 4 with fail
 have HB:Hid (∃ w1,((((w.alloc (.cells #[.pointer (some ⟨h.p,0,none⟩)] 35)).alloc (.cells #[.slice none 0 0, .slice none 0 0] 41)).alloc (.cells #[.slice none 0 0, .slice none 0 0] 41)).alloc (.cells #[.slice none 0 0] 83)).alloc (.cells #[.nilFunc] 155)=w1∧Keeps (fun _=>False) w w1∧Blk w1 w.heap.size [.pointer (some ⟨h.p,0,none⟩)] 35∧Blk w1 (w.heap.size+1) [.slice none 0 0, .slice none 0 0] 41∧Blk w1 (w.heap.size+1+1) [.slice none 0 0, .slice none 0 0] 41∧Blk w1 (w.heap.size+1+1+1) [.slice none 0 0] 83∧Blk w1 (w.heap.size+1+1+1+1) [.nilFunc] 155):=
  ⟨_,rfl,(((((Kz w).alloc _).alloc _).alloc _).alloc _).alloc _,((((Blk.newAt _ rfl rfl).alloc _).alloc _).alloc _).alloc _,(((Blk.newAt _ (by simp) rfl).alloc _).alloc _).alloc _,((Blk.newAt _ (by simp) rfl).alloc _).alloc _,(Blk.newAt _ (by simp) rfl).alloc _,Blk.newAt _ (by simp) rfl⟩
 obtain ⟨w1,hw1,k1,bw,bt,bv,bm,bf⟩:=HB.out
 rw [hw1]
 clear HB hw1
 have f0:=bf.cell 0;have fl:=bf.lt;have ff:=bf.free 0
 simp only [List.getElem?_cons_zero] at f0
 have H1:=Hz (HH.out.same k1)
 have K1:=Hz k1;have BW:=Hz bw;have BT:=Hz bt;have BV:=Hz bv;have BM:=Hz bm;have BF:=Hz bf
 clear k1 bw bt bv bm bf
 go_wp2_with fail
 clear f0 fl ff
 have set:=(Keeps.refl (·=w.heap.size+1+1+1+1) w1).setCell (p:=⟨w.heap.size+1+1+1+1,0,none⟩) (.inl rfl) (RVH.fn ⟨w.heap.size+1+1+1,w.heap.size,w.heap.size+1+1,w.heap.size+1+1+1+1⟩)
 have hol:∀ k,h.Own k→k<w.heap.size:=fun k hk=>(HH.out.own_type hk).1
 have HOL:=Hz hol
 have BF2:=Hz (BF.out.setSame 0 (RVH.fn ⟨w.heap.size+1+1+1,w.heap.size,w.heap.size+1+1,w.heap.size+1+1+1+1⟩))
 have V2:RvAt (w1.setCell ⟨w.heap.size+1+1+1+1,0,none⟩ (RVH.fn ⟨w.heap.size+1+1+1,w.heap.size,w.heap.size+1+1,w.heap.size+1+1+1+1⟩)) ⟨w.heap.size+1+1+1,w.heap.size,w.heap.size+1+1,w.heap.size+1+1+1+1⟩ h W (.slice none 0 0) (.slice none 0 0) (.slice none 0 0) (fun _=>False) ([],[]):=
  ⟨H1.out.keep set (fun b hb e=>by have:=hol b hb;omega),set.blk BM.out (by dsimp only;omega),set.blk BW.out (by dsimp only;omega),set.blk BV.out (by dsimp only;omega),BF2.out,Sl.nil _ _ _,NodesAt.nil _ _,fun _ h=>h.elim,fun _ h=>by cases h⟩
 have HI0:=Hz (show TopR w ⟨w.heap.size+1+1+1,w.heap.size,w.heap.size+1+1,w.heap.size+1+1+1+1⟩ h W (w.heap.size+1) _ (.slice none 0 0) (.slice none 0 0) (.slice none 0 0) (fun _=>False) (TR W 0).2 (TR W 0).1 from
  ⟨V2,K1.out.setCell (p:=⟨w.heap.size+1+1+1+1,0,none⟩) (.inr (show w.heap.size≤w.heap.size+1+1+1+1 by omega)) _,fun _ h=>(nil_own h).elim,fun _ h=>(nil_own h).elim,fun _ h=>h.elim,Sl.nil _ _ _,fun _ h=>(nil_own h).elim,by dsimp only;omega,by dsimp only;omega,by omega,by dsimp only;omega,hol,set.blk BT.out (by omega)⟩)
 clear set hol V2 BF2 BF BM BV BT BW HOL K1 H1
 generalize hfb:w.heap.size+1+1+1+1=fb at *
 generalize hmb:w.heap.size+1+1+1=mb at *
 generalize hvb:w.heap.size+1+1=vb at *
 generalize htb:w.heap.size+1=tb at *
 generalize hwb:w.heap.size=wb at *
 clear hfb hmb hvb htb hwb
 unfold RVH.fn at HI0
 dsimp only at HI0
 generalize w1.setCell _ _=w2 at *
 have HT':=Hz (fun g rv=>rvOk (g:=g) (h:=h) (W:=W) (rv:=rv) HT.out 5000)
 go_wp2_with fail
 go_loopw [6] (fun i wr=>∃ (k:Nat) (rv mv nv:Value) (F:Nat→Prop),k≤12∧i=.int .i64 k∧TopR w ⟨mb,wb,vb,fb⟩ h W tb wr rv mv nv F (TR W k).2 (TR W k).1) (fun i _=>12-(intOf i).toNat)
 case atStart=>exact ⟨0,_,_,_,_,Nat.zero_le _,rfl,HI0.out⟩
 case round=>
  clear HI0
  obtain ⟨k,rv,mv,nv,F,hk,rfl,hI⟩:=hrel
  have HI:=Hz hI
  have hkl:=TR_len (W:=W) (k:=k) (by rw [HH.out.ok.hr];exact hk)
  have HKL:=Hz hkl
  by_cases hlt:k<12
  ·have a0:=hI.V.hw.cell 0;have al:=hI.V.hw.lt
   have e1:=hI.V.H.cells.2.1;have el:=hI.V.H.hp.lt
   rw [HRO.out,h12] at e1
   have f0:=hI.V.hf.cell 0;have fl:=hI.V.hf.lt
   unfold RVH.fn at f0
   simp only [List.getElem?_cons_zero] at a0 f0
   have HST:=Hz (TR_step (W:=W) (k:=k) (by rw [HH.out.ok.hr];exact hlt))
   obtain ⟨gr,og,rc',erv,ggl,d0,d1⟩:=hI.V.H.root hlt
   rw [HRO.out] at erv
   cases erv
   have hm:W.roots.getD k (0,0) ∈ W.roots:=by rw [List.getD_eq_getElem?_getD,List.getElem?_eq_getElem (by rw [HH.out.ok.hr];exact hlt)];exact List.getElem_mem _
   have HAL:=Hz (show (W.roots.getD k (0,0)).1=3→(W.roots.getD k (0,0)).2 ∈ W.all from fun h3=>Wd.mem_all.2 (Wd.okV_ref (HH.out.ok.rv _ hm) h3))
   have hrt:W.rt (k:Int)=W.roots.getD k (0,0):=by unfold Wd.rt;rw [Int.toNat_natCast]
   rw [hrt] at d0 d1
   clear hrt hm
   generalize W.roots.getD k (0,0)=v at *
   obtain ⟨f1,f2⟩:=v
   dsimp only at d0 d1
   have OWN:=Hz (show h.Own gr from .inr (.inr (.inl (by rw [HRO.out];rfl))))
   have UN:=Hz (TR_un HH.out.ok k);have NL:=Hz (TR_nodes (W:=W) k)
   obtain ⟨lo,lc,rfl,-,-,-⟩:=hI.L.rd
   rw [hkl] at HI
   clear hI hkl
   go_wp2_with fail
   refine wp_region_ro (.free 5 (.pure 0 (.pure 1 (.free 2 (.free 3 (.pure 4 (.free 6 (.pure 7 (.two 8 (.run 9 (.run 10 (.swi [] (.fin)))) 9 (.run 8 (.swi [10] (.run 10 (.swi [] (.fin)))))))))))))) [10] (fun w'=>w'.cell? ⟨fb,0,none⟩=some (.func (.func 104) #[] #[.pointer (some ⟨mb,0,none⟩), .pointer (some ⟨wb,0,none⟩), .pointer (some ⟨vb,0,none⟩), .pointer (some ⟨fb,0,none⟩)])∧w'.cell? ⟨wb,0,none⟩=some (.pointer (some ⟨h.p,0,none⟩))∧w'.cell? ⟨h.p,1,none⟩=some (.slice (some ⟨gr,og,none⟩) 12 rc)∧w'.cell? ⟨gr,og+k*2,none⟩=some (.int .i64 f1)∧w'.cell? ⟨gr,og+k*2+1,none⟩=some (.int .i64 f2)) (by kernel_rfl) (by kernel_rfl) ⟨f0,a0,e1,d0,d1⟩ ?_
   iterate 8 first | (refine wpRO_free rfl rfl _ (fun w'=>by go_simp;exact Gives.mk _ _) (fun K hK=>?_);go_simp;refine hK _ ?_;clear hK K) | (refine wpRO_skipF rfl rfl (fun K hK=>?_);go_simp;refine hK _ ?_;clear hK K) | (refine wpRO_pure rfl rfl _ (fun w' hG=>by obtain ⟨f0,a0,e1,d0,d1⟩:=hG;exact gives_agg2 rfl (by decide +kernel) rfl (by assumption) (by assumption)) (fun K hK=>?_);go_simp;refine hK _ ?_;clear hK K) | (refine wpRO_pure rfl rfl _ (fun w' hG=>by obtain ⟨f0,a0,e1,d0,d1⟩:=hG;go_simp;exact Gives.mk _ _) (fun K hK=>?_);go_simp;refine hK _ ?_;clear hK K) | (refine wpRO_skip rfl rfl (fun K hK=>?_);go_simp;refine hK _ ?_;clear hK K)
   refine wpRO_two rfl rfl rfl rfl (fun K hK=>?_) (fun K hK=>?_)
   ·unfold gRun;go_simp
    refine (HT'.out _ _ (f1,f2) mv nv F _ _ (HI.out.V.same ((Kz wr).drew)) HAL.out UN.out.1 UN.out.2 NL.out).mono ?_
    rintro e w8 ⟨rfl,mv8,nv8,F8,V8,k8,p0,p1,p2⟩
    have HI8:=Hz ((HI.out.same ((Kz wr).drew)).told V8 k8 p0 p1 p2)
    obtain ⟨⟨⟨r1,r2⟩,sr⟩,hr⟩:∃ t,valM W.gr 5000 (f1,f2) (TR W k).2=t:=⟨_,rfl⟩
    rw [hr] at HI8 HST ⊢
    dsimp only at HI8 HST ⊢
    have hgf8:=Nat.lt_of_lt_of_le ggl k8.size
    have d8:=(k8.cellAt ggl (HI.out.V.world_ne OWN.out) _).trans d0
    have d9:=(k8.cellAt ggl (HI.out.V.world_ne OWN.out) _).trans d1
    have e8:=HI8.out.V.H.cells.2.1
    rw [HRO.out,h12] at e8
    refine hK _ _ (fun h=>h) (fun _ _=>⟨HI8.out.V.hf.cell 0,HI8.out.V.hw.cell 0,e8,d8,d9⟩) ?_
    clear hK K V8 k8 p0 p1 p2 hr a0 e1 d0 d1 ggl al el f0 fl HI
    refine wpRO_run rfl rfl (fun K hK=>?_);unfold gRun;go_simp
    have kz:Keeps (fun _=>False) w8 (w8.alloc (.cells #[.int .i64 0, .int .i64 0] 96)).drew:=((Kz w8).alloc _).drew
    have tz:Blk (w8.alloc (.cells #[.int .i64 0, .int .i64 0] 96)).drew w8.heap.size [.int .i64 0, .int .i64 0] 96:=(Blk.new w8 [.int .i64 0, .int .i64 0] 96).drew
    have HI9:=Hz (HI8.out.same kz)
    have e9:=HI9.out.V.H.cells.2.1
    rw [HRO.out,h12] at e9
    refine hK _ _ (fun _=>⟨HI9.out.V.hf.cell 0,HI9.out.V.hw.cell 0,e9,(kz.cellAt hgf8 (fun h=>h) _).trans d8,(kz.cellAt hgf8 (fun h=>h) _).trans d9⟩) ?_
    clear hK K d8 d9 hgf8 e8 e9
    have z0:=tz.cell 0;have z1:=tz.cell 1;have zl:=tz.lt;have zf:=tz.free 0;have zf1:=tz.free 1
    simp only [List.getElem?_cons_zero,List.getElem?_cons_succ] at z0 z1
    clear kz tz
    refine wpRO_chg rfl rfl rfl (fun K hK=>?_);unfold gRun;go_simp
    refine hK _ _ ?_
    clear hK K z0 z1 zl zf zf1 HI9
    refine wpRO_swi (fun _=>True) trivial (wpRO_fin ?_)
    have kz:Keeps (fun _=>False) w8 (w8.alloc (.cells #[.int .i64 r1, .int .i64 r2] 96)):=((Kz w8).alloc _)
    have tz:Blk (w8.alloc (.cells #[.int .i64 r1, .int .i64 r2] 96)) w8.heap.size [.int .i64 r1, .int .i64 r2] 96:=(Blk.new w8 [.int .i64 r1, .int .i64 r2] 96)
    have HI2:=Hz (HI8.out.same kz)
    clear HI8 kz
    generalize w8.alloc (.cells #[.int .i64 r1, .int .i64 r2] 96)=w9 at *
    have HL2:=Hz (show Sl w9 96 2 (.slice lo k lc) k (entV (TR W k).1) by have:=HI2.out.L;rw [HKL.out] at this;exact this)
    have z0:=tz.cell 0;have z1:=tz.cell 1;have zl:=tz.lt
    simp only [List.getElem?_cons_zero,List.getElem?_cons_succ] at z0 z1
    have c2:=HI2.out.V.hv.cell 0;have cl:=HI2.out.V.hv.lt
    simp only [List.getElem?_cons_zero] at c2
    generalize w8.heap.size=tv at *
    clear tz
    go_wp2_with (at_builtin;refine wpList_app rfl (.tmp 28) (.tmp 30) 38 rfl 96 vi (.agg #[.int .i64 0, .int .i64 0]) 2 16 Tryz.underlying38 Vi.out Vz0.out Vz1.out Vz2.out rfl (by decide) _ k (entV (TR W k).1) rfl (HL2.out.keep ((Kz w9).alloc _) (fun _ _ h=>h)) ⟨w9.heap.size,0,none⟩ 1 1 [.int .i64 r1, .int .i64 r2] rfl rfl (news_at w9 96 #[.int .i64 r1, .int .i64 r2]) (by intro u hu;simp at hu;rcases hu with rfl | rfl <;> rfl) (by unfold maxLen;omega) (by omega) ?_)
    intro v10 w10 hs10 hk10 ho10
    have HI10:=Hz (HI2.out.app (v:=(r1,r2)) ((Kz w9).alloc _) (by rw [HKL.out];exact hs10) hk10 (by simpa using ho10))
    have hp3:=hk10.blk (((Kz w9).alloc _).blk HI2.out.V.hv (fun h=>h)) (fun hv=>by obtain ⟨_,c',hc⟩:=(HL2.out.keep ((Kz w9).alloc (.cells #[.int .i64 r1, .int .i64 r2] 96)) (fun _ _ h=>h)).own hv;exact (((Kz w9).alloc _).blk HI2.out.V.hv (fun h=>h)).ne hc (by decide) rfl)
    have x0:=hp3.cell 0;have xf:=hp3.free 0;have xl:=hp3.lt
    simp only [List.getElem?_cons_zero,List.getElem?_cons_succ] at x0
    obtain ⟨lo3,lc3,rfl,-,-,-⟩:=hs10.rd
    clear hs10 hk10 ho10 HL2 HI2 z0 z1 zl hp3 c2 cl
    go_wp2_with fail
    go_roundw
    case rel=>exact ⟨k+1,_,_,_,_,by omega,by go_num,by rw [HST.out];exact HI10.out⟩
    case measure=>simp [intOf];omega
   ·unfold gRun;go_simp
    have kz:Keeps (fun _=>False) wr (wr.alloc (.cells #[.int .i64 0, .int .i64 0] 96)).drew:=((Kz wr).alloc _).drew
    have tz:Blk (wr.alloc (.cells #[.int .i64 0, .int .i64 0] 96)).drew wr.heap.size [.int .i64 0, .int .i64 0] 96:=(Blk.new wr [.int .i64 0, .int .i64 0] 96).drew
    have HIA:=Hz (HI.out.same kz)
    have TF:=Hz (show ¬ F wr.heap.size from fun hf=>by have:=(HI.out.V.hF _ hf).1;omega)
    have TL:=Hz (show ¬ ownB (.slice lo k lc) wr.heap.size from fun hf=>by have:=(HI.out.L.own hf).1;omega)
    have T1:=Hz (show w.heap.size≤wr.heap.size from HI.out.K.size)
    have TZ:=Hz tz
    have d8:=(kz.cellAt ggl (fun h=>h) _).trans d0;have d9:=(kz.cellAt ggl (fun h=>h) _).trans d1
    have hgf8:=Nat.lt_of_lt_of_le ggl kz.size
    have e8:=HIA.out.V.H.cells.2.1
    rw [HRO.out,h12] at e8
    refine hK _ _ (fun h=>h) (fun _ _=>⟨HIA.out.V.hf.cell 0,HIA.out.V.hw.cell 0,e8,d8,d9⟩) ?_
    clear hK K kz tz HI ggl d0 d1 a0 e1 al el f0 fl e8
    generalize (wr.alloc (.cells #[.int .i64 0, .int .i64 0] 96)).drew=wa at *
    generalize wr.heap.size=zb at *
    refine wpRO_run rfl rfl (fun K hK=>?_);unfold gRun;go_simp
    refine (HT'.out _ _ (f1,f2) mv nv F _ _ HIA.out.V HAL.out UN.out.1 UN.out.2 NL.out).mono ?_
    rintro e w8 ⟨rfl,mv8,nv8,F8,V8,k8,p0,p1,p2⟩
    have HI8:=Hz (HIA.out.told V8 k8 p0 p1 p2)
    obtain ⟨⟨⟨r1,r2⟩,sr⟩,hr⟩:∃ t,valM W.gr 5000 (f1,f2) (TR W k).2=t:=⟨_,rfl⟩
    rw [hr] at HI8 HST ⊢
    dsimp only at HI8 HST ⊢
    have TF8:=Hz (show ¬ F8 zb from fun hf=>by rcases p2 _ hf with h | h;exact TF.out h;exact absurd h (Nat.not_le.2 TZ.out.lt))
    have tz8:=k8.blk TZ.out (HIA.out.V.fp_ne TZ.out (by decide) (by decide) (by decide) (by decide))
    have e8:=HI8.out.V.H.cells.2.1
    rw [HRO.out,h12] at e8
    refine hK _ _ (fun _=>⟨HI8.out.V.hf.cell 0,HI8.out.V.hw.cell 0,e8,(k8.cellAt hgf8 (HIA.out.V.world_ne OWN.out) _).trans d8,(k8.cellAt hgf8 (HIA.out.V.world_ne OWN.out) _).trans d9⟩) ?_
    clear hK K V8 k8 p0 p1 p2 hr d8 d9 hgf8 TZ TF HIA e8
    refine wpRO_swi (fun _=>True) trivial ?_
    have TZ:=Hz tz8
    have z0:=tz8.cell 0;have z1:=tz8.cell 1;have zl:=tz8.lt;have zf:=tz8.free 0;have zf1:=tz8.free 1
    simp only [List.getElem?_cons_zero,List.getElem?_cons_succ] at z0 z1
    clear tz8
    refine wpRO_chg rfl rfl rfl (fun K hK=>?_);unfold gRun;go_simp
    refine hK _ _ ?_
    clear hK K z0 z1 zl zf zf1
    refine wpRO_swi (fun _=>True) trivial (wpRO_fin ?_)
    have kz:Keeps (·=zb) w8 ((w8.setCell ⟨zb,0,none⟩ (.int .i64 r1)).setCell ⟨zb,1,none⟩ (.int .i64 r2)):=((Keeps.refl (·=zb) w8).setCell (.inl rfl) _).setCell (.inl rfl) _
    have HI2:=Hz (HI8.out.other kz ⟨_,TZ.out⟩ T1.out TF8.out TL.out)
    have tz:Blk ((w8.setCell ⟨zb,0,none⟩ (.int .i64 r1)).setCell ⟨zb,1,none⟩ (.int .i64 r2)) zb [.int .i64 r1, .int .i64 r2] 96:=(TZ.out.setSame 0 (.int .i64 r1)).setSame 1 (.int .i64 r2)
    clear HI8 kz TZ TF8 T1 TL
    generalize (w8.setCell ⟨zb,0,none⟩ (.int .i64 r1)).setCell ⟨zb,1,none⟩ (.int .i64 r2)=w9 at *
    have HL2:=Hz (show Sl w9 96 2 (.slice lo k lc) k (entV (TR W k).1) by have:=HI2.out.L;rw [HKL.out] at this;exact this)
    have z0:=tz.cell 0;have z1:=tz.cell 1;have zl:=tz.lt
    simp only [List.getElem?_cons_zero,List.getElem?_cons_succ] at z0 z1
    have c2:=HI2.out.V.hv.cell 0;have cl:=HI2.out.V.hv.lt
    simp only [List.getElem?_cons_zero] at c2
    generalize zb=tv at *
    clear tz
    go_wp2_with (at_builtin;refine wpList_app rfl (.tmp 28) (.tmp 30) 38 rfl 96 vi (.agg #[.int .i64 0, .int .i64 0]) 2 16 Tryz.underlying38 Vi.out Vz0.out Vz1.out Vz2.out rfl (by decide) _ k (entV (TR W k).1) rfl (HL2.out.keep ((Kz w9).alloc _) (fun _ _ h=>h)) ⟨w9.heap.size,0,none⟩ 1 1 [.int .i64 r1, .int .i64 r2] rfl rfl (news_at w9 96 #[.int .i64 r1, .int .i64 r2]) (by intro u hu;simp at hu;rcases hu with rfl | rfl <;> rfl) (by unfold maxLen;omega) (by omega) ?_)
    intro v10 w10 hs10 hk10 ho10
    have HI10:=Hz (HI2.out.app (v:=(r1,r2)) ((Kz w9).alloc _) (by rw [HKL.out];exact hs10) hk10 (by simpa using ho10))
    have hp3:=hk10.blk (((Kz w9).alloc _).blk HI2.out.V.hv (fun h=>h)) (fun hv=>by obtain ⟨_,c',hc⟩:=(HL2.out.keep ((Kz w9).alloc (.cells #[.int .i64 r1, .int .i64 r2] 96)) (fun _ _ h=>h)).own hv;exact (((Kz w9).alloc _).blk HI2.out.V.hv (fun h=>h)).ne hc (by decide) rfl)
    have x0:=hp3.cell 0;have xf:=hp3.free 0;have xl:=hp3.lt
    simp only [List.getElem?_cons_zero,List.getElem?_cons_succ] at x0
    obtain ⟨lo3,lc3,rfl,-,-,-⟩:=hs10.rd
    clear hs10 hk10 ho10 HL2 HI2 z0 z1 zl hp3 c2 cl
    go_wp2_with fail
    go_roundw
    case rel=>exact ⟨k+1,_,_,_,_,by omega,by go_num,by rw [HST.out];exact HI10.out⟩
    case measure=>simp [intOf];omega
  ·obtain rfl:k=12:=by omega
   obtain ⟨lo,lc,rfl,hrr,-,-⟩:=hI.L.rd
   obtain ⟨cs,hns,hnr⟩:=hI.V.N
   obtain ⟨no,nc,rfl,-,-,-⟩:=hns.rd
   have c2:=hI.V.hv.cell 0;have c3:=hI.V.hv.cell 1;have cl:=hI.V.hv.lt
   have b0:=hI.B.cell 0;have b1:=hI.B.cell 1;have bl:=hI.B.lt;have f0:=hI.B.free 0;have f1:=hI.B.free 1
   simp only [List.getElem?_cons_zero,List.getElem?_cons_succ] at c2 c3 b0 b1
   have a0:=hI.V.hw.cell 0;have al:=hI.V.hw.lt
   have e1:=hI.V.H.cells.2.1;have el:=hI.V.H.hp.lt
   rw [HRO.out,h12] at e1
   simp only [List.getElem?_cons_zero] at a0
   have HVE:=Hz (show W.view=((TR W 12).1,(TR W 12).2.2) by
    unfold Wd.view viewM TR deep
    rw [List.take_of_length_le (by rw [HH.out.ok.hr];exact Nat.le_refl _)])
   clear hI hrr hns hnr hlt hk hkl
   go_wp2_with (refine wpList_agg2 rfl 41 (.tmp 3) rfl (by kernel_rfl) vb 0 rfl _ _ c2 c3 ?_)
   have hb3:=(HI.out.B.setSame 0 (.slice lo (TR W 12).1.length lc)).setSame 1 (.slice no (TR W 12).2.2.length nc)
   have x0:=hb3.cell 0;have x1:=hb3.cell 1
   simp only [List.set_cons_zero,List.set_cons_succ,List.getElem?_cons_zero,List.getElem?_cons_succ] at x0 x1
   refine bodyPost_ret (v:=.agg #[.slice lo (TR W 12).1.length lc, .slice no (TR W 12).2.2.length nc]) (by simp [results,Tryz.results35,go_sem,x0,x1]) rfl ?_
   refine ⟨_,rfl,?_,(HI.out.K.setCell (p:=⟨tb,0,none⟩) (.inr HI.out.ot) _).setCell (p:=⟨tb,1,none⟩) (.inr HI.out.ot) _⟩
   rw [HVE.out]
   have ke:=((Keeps.refl (·=tb) wr).setCell (p:=⟨tb,0,none⟩) (.inl rfl) (.slice lo (TR W 12).1.length lc)).setCell (p:=⟨tb,1,none⟩) (.inl rfl) (.slice no (TR W 12).2.2.length nc)
   refine ⟨lo,lc,no,nc,F,rfl,HI.out.L.keep ke (fun j hj e=>?_),HI.out.V.N.keep ke (fun j hj _ e=>?_) (fun j hj e=>?_),fun j hj=>?_⟩
   ·subst e;obtain ⟨_,c,hc⟩:=HI.out.L.own hj;exact hc.ne HI.out.B (by decide) rfl
   ·subst e;obtain ⟨_,c,hc⟩:=HI.out.V.hF _ hj;exact hc.ne HI.out.B (by decide) rfl
   ·subst e;obtain ⟨_,c,hc⟩:=HI.out.V.N.own hj;exact hc.ne HI.out.B (by decide) rfl
   ·have hks:=ke.size
    rcases hj with hj | hj | hj
    ·exact ⟨HI.out.o2 j hj,by have:=(HI.out.V.hF j hj).1;omega⟩
    ·exact ⟨(HI.out.o3 j hj).1,by have:=(HI.out.L.own hj).1;omega⟩
    ·exact ⟨HI.out.o1 j hj,by have:=(HI.out.V.N.own hj).1;omega⟩
end
end
section
open Go.RowKit
section
variable {w w':World} {h:BH} {O:Wo} {W:Wd} {φ:Int→Int}
theorem right_c (R:Rep O W φ) (B:BothAt w h O W) (hT:W.T.length≤90000) :
  Calls Tryz.prog 88 #[.pointer (some ⟨h.p,0,none⟩)] w fun e w'=>e=.returned (.bool true)∧Keeps (fun _=>False) w w':=by
 have HR:=Hz R;have HB:=Hz B;have HT:=Hz hT
 have c0:=B.hp.cell 0;have c1:=B.hp.cell 1;have pl:=B.hp.lt
 simp only [List.getElem?_cons_zero,List.getElem?_cons_succ] at c0 c1
 have q0:=B.H.ptrs.1;have ql:=B.H.hp.lt
 have EY:=Hz R.sy.symm;have EO:=Hz R.olds_eq.symm
 clear R B hT
 go_enter Tryz.func88,Tryz.ntmps88
 go_wp2_with fail
 refine (Used_c _ HB.out.H.ha).mono ?_
 rintro e w1 ⟨rfl,hk⟩
 have B1:=Hz (HB.out.same hk);have K1:=Hz hk
 clear hk c0 c1 pl q0 ql HB
 have c0:=B1.out.hp.cell 0;have c1:=B1.out.hp.cell 1;have pl:=B1.out.hp.lt
 simp only [List.getElem?_cons_zero,List.getElem?_cons_succ] at c0 c1
 go_wp2_with fail
 refine (WUsed_c B1.out.R (by have:=HT.out;omega)).mono ?_
 rintro e w2 ⟨rfl,hk⟩
 have B2:=Hz (B1.out.same hk);have K2:=Hz (K1.out.trans hk)
 clear hk c0 c1 pl B1 K1
 rw [EY.out,EO.out]
 have c0:=B2.out.hp.cell 0;have c1:=B2.out.hp.cell 1;have pl:=B2.out.hp.lt
 simp only [List.getElem?_cons_zero,List.getElem?_cons_succ] at c0 c1
 generalize ((O.ar.yng:Nat):Int)=ya at *
 generalize ((O.ar.grn-O.ar.nur:Nat):Int)=ga at *
 have e1:(ya == ya)=true:=by simp
 have e2:(ga == ga)=true:=by simp
 go_wp2_with fail
 refine wp_region_ro (.free 0 (.free 1 (.free 2 (.free 3 (.free 4 (.free 5 (.free 6 (.free 7 (.free 8 (.free 9 (.free 10 (.free 11 (.free 14 (.free 15 (.free 16 (.pure 12 (.pure 17 (.run 13 (.run 18 (.swi [19,20,21] (.run 19 (.swi [] (.free 20 (.free 21 (.fin))))))))))))))))))))))))) [18,19,20,21] (fun w'=>w'.cell? ⟨h.p,0,none⟩=some (.pointer (some ⟨h.a.p,0,none⟩))∧w'.cell? ⟨h.p,1,none⟩=some (.pointer (some ⟨h.b.p,0,none⟩))) (by kernel_rfl) (by kernel_rfl) ⟨c0,c1⟩ ?_
 iterate 17 first | (refine wpRO_free rfl rfl _ (fun w'=>by go_simp;exact Gives.mk _ _) (fun K hK=>?_);go_simp;refine hK _ ?_;clear hK K) | (refine wpRO_skipF rfl rfl (fun K hK=>?_);go_simp;refine hK _ ?_;clear hK K) | (refine wpRO_pure rfl rfl _ (fun w' hG=>by obtain ⟨c0,c1⟩:=hG;exact gives_agg2 rfl (by decide +kernel) rfl (by assumption) (by assumption)) (fun K hK=>?_);go_simp;refine hK _ ?_;clear hK K) | (refine wpRO_pure rfl rfl _ (fun w' hG=>by obtain ⟨c0,c1⟩:=hG;go_simp;exact Gives.mk _ _) (fun K hK=>?_);go_simp;refine hK _ ?_;clear hK K) | (refine wpRO_skip rfl rfl (fun K hK=>?_);go_simp;refine hK _ ?_;clear hK K)
 refine wpRO_run rfl rfl (fun K hK=>?_);unfold gRun;go_simp
 refine (View_c _ (B2.out.same ((Kz w2).drew)).H).mono ?_
 rintro e w3 ⟨v3,rfl,hv3,hk3⟩
 have kk:=(Kz w2).drew.trans hk3
 have B3:=Hz (B2.out.same kk);have K3:=Hz (K2.out.trans kk)
 have V3:=Hz hv3
 refine hK _ _ (fun _=>⟨B3.out.hp.cell 0,B3.out.hp.cell 1⟩) ?_
 clear hK K hv3 hk3 kk c0 c1 pl B2 K2
 refine wpRO_run rfl rfl (fun K hK=>?_);unfold gRun;go_simp
 refine (WView_c _ B3.out.R (by have:=HT.out;omega)).mono ?_
 rintro e w4 ⟨v4,rfl,hv4,hk4⟩
 have B4:=Hz (B3.out.same hk4);have K4:=Hz (K3.out.trans hk4)
 have V4:=Hz (V3.out.keep hk4 (fun _ _ _ h=>h));have U4:=Hz hv4
 refine hK _ _ (fun _=>⟨B4.out.hp.cell 0,B4.out.hp.cell 1⟩) ?_
 clear hK K hv4 hk4 B3 K3 V3
 refine wpRO_swi (fun _=>True) trivial ?_
 refine wpRO_chg rfl rfl rfl (fun K hK=>?_);unfold gRun;go_simp
 refine (SameView_yes _ _ O.view _ (V4.out.rep HR.out) (by have:=U4.out;rw [←HR.out.view] at this;exact this.rep HR.out)).mono ?_
 rintro e w5 ⟨rfl,hk5⟩
 have K5:=Hz (K4.out.trans hk5)
 refine hK _ _ ?_
 clear hK K hk5 B4 K4 V4 U4
 refine wpRO_swi (fun _=>True) trivial ?_
 iterate 2 first | (refine wpRO_free rfl rfl _ (fun w'=>by go_simp;exact Gives.mk _ _) (fun K hK=>?_);go_simp;refine hK _ ?_;clear hK K) | (refine wpRO_skipF rfl rfl (fun K hK=>?_);go_simp;refine hK _ ?_;clear hK K)
 refine wpRO_fin ?_
 go_wp2_with fail
 go_ret
 exact ⟨rfl,K5.out⟩
end
end
section
open Go.RowKit
theorem alloc_setCell (w:World) (o:Obj) (a:Addr) (v:Value) (h:a.block<w.heap.size):(w.alloc o).setCell a v=(w.setCell a v).alloc o:=by
 unfold World.setCell World.alloc
 congr 1
 apply Array.ext
 ·simp
 ·intro i h1 h2
  simp only [Array.getElem_modify,Array.getElem_push,Array.size_modify]
  simp only [Array.size_modify,Array.size_push] at h1
  by_cases e:a.block=i
  ·subst e
   simp [h]
  ·simp [e]
end
section
open Go.RowKit
def WCutRet (w:World) (h:RW) (W:Wd) (major:Bool) (e:Ending) (w':World):Prop:=e=.returned (.int .i64 (W.cut major).1)∧WorldTo w h w' (W.cut major).2
theorem cut_refused {W:Wd} (h:W.young > W.grow-W.olds):W.cut false=(3,W):=by unfold Wd.cut;rw [if_pos ⟨rfl,h⟩]
theorem cut_full {W:Wd} {major:Bool} (h:¬ (major=false∧W.young > W.grow-W.olds)) (h2:sumL (W.pass major).1 W.T > W.grow):W.cut major=(3,W):=by unfold Wd.cut;rw [if_neg h,if_pos h2]
theorem cut_yes {W:Wd} {major:Bool} (h:¬ (major=false∧W.young > W.grow-W.olds)) (h2:¬ sumL (W.pass major).1 W.T > W.grow):W.cut major=(0,W.after major):=by unfold Wd.cut;rw [if_neg h,if_neg h2]
section
variable {w:World} {h:RW} {W:Wd}
theorem WCut_c (major:Bool) (H:WorldAt w h W) (hT:W.T.length≤100000) :
  Calls Tryz.prog 87 #[.pointer (some ⟨h.p,0,none⟩), .bool major] w (WCutRet w h W major):=by
 have HH:=Hz H
 have hok:=H.ok
 have HOK:=Hz hok
 obtain ⟨ib,hi,hz0,hz1,hz2⟩:=info_parts info_bool
 have hmk:=fun wx=>run_make_one (P:=Tryz.prog) wx 122 4 ib (.bool false) Tryz.underlying122 hi hz0 rfl hz1 W.regs.length (by rw [hz2];have:=hok.hq;omega) (by have:=hok.hq;omega)
 have HM:=Hz hmk;clear hi hz0 hz1 hz2 hmk
 obtain ⟨ie,hi,hz0,hz1,hz2⟩:=info_parts info_rent
 have Hi:=Hz hi;have Hz0:=Hz hz0;have Hz1:=Hz hz1;have Hz2:=Hz hz2;clear hi hz0 hz1 hz2
 obtain ⟨no,nc,hno,-⟩:=H.ht.nth
 obtain ⟨go_,gc,hgo,-,-,-⟩:=H.hg.rd
 obtain ⟨qo,qc,hqo,-,-,-⟩:=H.hw.rd
 obtain ⟨ro,rc,hro,-,-,-⟩:=H.hr.rd
 have HNO:=Hz hno;have HGO:=Hz hgo;have HQO:=Hz hqo;have HRO:=Hz hro
 have g1:=hok.g1;have g2:=hok.g2;have uo:=hok.uo;have uy:=hok.uy;have m2:=hok.m2;have hq24:=hok.hq
 have y0:0≤W.young:=sumW_nonneg _ _
 have z0:0≤W.olds:=sumW_nonneg _ _
 clear H hok hno hgo hqo hro
 go_enter Tryz.func87,Tryz.ntmps87
 go_wp2_with fail
 refine (WUsed_c HH.out (by omega)).mono ?_
 rintro e w1 ⟨rfl,hk⟩
 have H1:=Hz (HH.out.same hk);have K1:=Hz hk
 clear hk
 obtain ⟨-,-,c2,c3,-,c5⟩:=H1.out.cells
 rw [HGO.out] at c2
 rw [HQO.out] at c3
 have pl:=H1.out.hp.lt
 have hwr:IntKind.i64.wrap (W.grow-W.olds)=W.grow-W.olds:=IntWalk.i64_in _ (by omega)
 have HWR:=Hz hwr
 by_cases hfull:major=false∧W.young > W.grow-W.olds
 ·obtain ⟨rfl,hf⟩:=hfull
  have HE:=Hz (cut_refused hf)
  have hd:decide (W.grow-W.olds<W.young)=true:=by simpa using hf
  clear hf
  go_wp2_with fail
  go_ret
  exact ⟨by rw [HE.out];rfl,by rw [HE.out];exact WorldTo.same HH.out K1.out⟩
 ·have HF:=Hz hfull
  have hd:major=true∨decide (W.grow-W.olds<W.young)=false:=by
   cases major
   ·right;simp;simp at hfull;omega
   ·left;rfl
  have hrest:Calls Tryz.prog 141 #[.pointer (some ⟨h.p,0,none⟩), .bool major] w1 (GrownRet w1 (W.first major)):=First_c major H1.out hT
  have HFI:=Hz hrest
  clear hrest hfull hwr
  go_upto_region 2 with (fail)
  refine wp_cut_over (fun i=>Nat.blt 27 i && Nat.blt i 40) (fun s wx=>s 39=.bool false∧wx=w1) ?_ ?_
  ·intro K hK
   rcases hd with rfl | hd
   ·go_wp2_with fail
    refine ⟨by kernel_rfl,?_⟩
    exact ⟨rfl,rfl⟩
   ·cases major
    ·go_wp2_with fail
     refine ⟨by kernel_rfl,?_⟩
     exact ⟨rfl,rfl⟩
    ·go_wp2_with fail
     refine ⟨by kernel_rfl,?_⟩
     exact ⟨rfl,rfl⟩
  ·intro u wx hR
   obtain ⟨e39,rfl⟩:=hR
   have e39:u 39=.bool false:=e39
   simp (maxSteps:=2000000) only [overA,overL,List.toList_toArray,Nat.blt,Nat.beq,Nat.ble,Nat.reduceAdd,Bool.or_false,Bool.false_or,Bool.or_true,Bool.true_or,Bool.and_true,Bool.true_and,Bool.and_false,Bool.false_and,cond_true,cond_false]
   rw [e39]
   clear e39 hd c5
   go_wp2_with fail
   refine HFI.out.mono ?_
   rintro e w2 ⟨fo,fcap,rfl,hfs,hk,hfo⟩
   have H2:=Hz (H1.out.same hk);have K2:=Hz (K1.out.trans hk)
   have hgr:=Grown_c (w:=w2) (p:=h.p) (q:=W.wait) (is:=W.first major) fo fcap H2.out.gr HOK.out (fun e he=>HOK.out.wv e he) (by
    obtain ⟨_,_,e',r,-,-⟩:=hfs.rd
    cases e';exact r) (W.first_length major) hT (fun i hi=>Wd.first_live HOK.out hi) (by omega)
   have HGR:=Hz hgr
   clear hk hfs hfo HFI c2 c3 pl hgr H1
   go_wp2_with fail
   refine HGR.out.mono ?_
   rintro e w3 ⟨io,icap,rfl,his,hk,hio⟩
   have H3:=Hz (H2.out.same hk);have K3:=Hz (K2.out.trans hk)
   have HIS:=Hz his
   have HIO:=Hz (fun k hk'=>Nat.le_trans K2.out.size (hio k hk'))
   clear hk his hio HGR H2
   have PA:=Hz (PassAt.start HOK.out major)
   generalize W.clo W.wait (W.first major)=is0 at *
   obtain ⟨-,-,c2,c3,-,c5⟩:=H3.out.cells
   rw [HGO.out] at c2
   rw [HQO.out] at c3
   have pl:=H3.out.hp.lt
   have M1:=Hz (HM.out w3)
   have m1:=M1.out
   have m2':=HM.out (w3.alloc (.cells (Array.replicate W.regs.length (.bool false)) 4))
   go_wp2_with fail
   generalize hwb:(w3.alloc (.cells (Array.replicate W.regs.length (.bool false)) 4)).alloc (.cells (Array.replicate W.regs.length (.bool false)) 4)=wb
   have KB:=Hz (show Keeps (fun _=>False) w3 wb by rw [←hwb];exact ((Keeps.refl _ _).alloc _).alloc _)
   have B8:=Hz (show Blk wb w3.heap.size ((deadK is0 W.regs 0).map Value.bool) 4 by rw [←hwb,deadK_zero];exact (Blk.newAt _ rfl (by simp)).alloc _)
   have B9:=Hz (show Blk wb (w3.heap.size+1) (List.replicate W.regs.length (.bool false)) 4 by rw [←hwb];exact Blk.newAt _ (by simp) (by simp))
   clear hwb m1 m2' M1
   have H4:=Hz (H3.out.same KB.out)
   have K4:=Hz (K3.out.trans KB.out)
   have I4:=Hz (HIS.out.keep KB.out (fun _ _ h=>h))
   have IL:=Hz (fun k hk=>(HIS.out.own (k:=k) hk).1)
   clear c2 c3 c5 pl H3 HIS KB
   have HG8:=Hz (show w.heap.size≤w3.heap.size from K3.out.size)
   generalize w3.heap.size=g8 at *
   have HL0:=Hz PA.out.ok.len
   go_loopw [10] (fun u wr=>∃ k:Nat,k≤W.regs.length∧u=.int .i64 k∧Keeps (·=g8) wb wr∧Blk wr g8 ((deadK is0 W.regs k).map Value.bool) 4) (fun u _=>W.regs.length-(intOf u).toNat)
   case atStart=>exact ⟨0,Nat.zero_le _,rfl,Keeps.refl _ _,B8.out⟩
   case round=>
    obtain ⟨k,hk,rfl,hKr,hB⟩:=hrel
    have KR:=Hz hKr;have BR:=Hz hB
    have hne8:∀ b,h.Own b→b≠g8:=fun b hb e=>by
     obtain ⟨_,c,T,hc,hT⟩:=H4.out.own_type hb
     subst e
     refine hc.ne B8.out ?_ rfl
     rcases hT with rfl | rfl | rfl | rfl <;> decide
    have HR:=Hz (H4.out.keep hKr hne8)
    obtain ⟨-,-,c2,c3,-,c5⟩:=HR.out.cells
    rw [HGO.out] at c2
    rw [HQO.out] at c3
    have pl:=HR.out.hp.lt
    have hni:∀ b,ownB (.slice io is0.length icap) b→b≠g8:=fun b hb e=>by have:=IL.out b hb;omega
    have IR:=Hz (I4.out.keep hKr hni)
    clear hKr hB hne8 hni
    by_cases hlt:k<W.regs.length
    ·obtain ⟨_,_,e',rd,-,-⟩:=HR.out.hg.rd
     rw [HGO.out] at e'
     cases e'
     obtain ⟨gg,og,rfl,hgl,v0,v1⟩:=rd.ent k hlt
     have hokE:=HOK.out.gv (W.regs.getD k (0,0)) (by rw [List.getD_eq_getElem?_getD,List.getElem?_eq_getElem hlt];exact List.getElem_mem _)
     have HST:=Hz (deadK_step is0 W.regs hlt)
     have hlv:=hokE.2.2
     generalize W.regs.getD k (0,0)=e at *
     obtain ⟨e1,e2⟩:=e
     dsimp only at v0 v1 hlv
     have h0:=hlv.1;have h1:=hlv.2.1
     obtain ⟨m,rfl⟩:∃ m:Nat,e2=m:=⟨e2.toNat,by omega⟩
     obtain ⟨_,_,e',rdi,-,-⟩:=IR.out.rd
     cases e'
     have hm:m<is0.length:=by have:=HL0.out;omega
     obtain ⟨gi,oi,rfl,hgi,d0⟩:=rdi.boolAt m hm
     have HAT:=Hz (show atB is0 (m:Int)=is0.getD m false from atB_nat is0 m)
     generalize is0.getD m false=z at *
     have x0:=BR.out.cell k;have xl:=BR.out.lt;have xf:=BR.out.free k
     rw [List.getElem?_map,List.getElem?_eq_getElem (by rw [deadK_len];exact hlt)] at x0
     simp only [Option.map_some] at x0
     generalize (deadK is0 W.regs k)[k]'(by rw [deadK_len];exact hlt)=b0 at x0
     clear rd rdi hokE hlv
     go_wp2_with fail
     go_roundw
     case rel=>
      refine ⟨k+1,hlt,by go_num,KR.out.setCell (p:=⟨g8,k,none⟩) (.inl rfl) _,?_⟩
      rw [←HST.out,List.map_set]
      have:=BR.out.setSame k (.bool (!z))
      rw [HAT.out]
      exact this
     case measure=>simp [intOf];omega
    ·obtain rfl:k=W.regs.length:=by omega
     have KW:=Hz (show Keeps (fun _=>False) w wr from K4.out.then KR.out (fun k hk=>.inr (by have:=HG8.out;omega)))
     obtain ⟨c0,c1,-,-,c4,-⟩:=HR.out.cells
     rw [HNO.out] at c0
     rw [HRO.out] at c1
     rw [deadK_all] at BR
     have B9R:=Hz (KR.out.blk B9.out (by omega))
     have HCL:=Hz (show Rd wr qo (entV W.wait) by
      obtain ⟨_,_,e',r,-,-⟩:=HR.out.hw.rd
      rw [HQO.out] at e'
      cases e';exact r)
     go_wp2_with (first | (refine wpList_agg rfl 147 (.tmp 82) rfl [.slice no W.T.length nc, .slice ro W.roots.length rc, .slice go_ W.regs.length gc, .slice qo W.wait.length qc, .int .i64 W.most, .int .i64 W.grow] (by kernel_rfl) h.p 0 rfl (rangeAt_cons c0 (rangeAt_cons c1 (rangeAt_cons c2 (rangeAt_cons c3 (rangeAt_cons c4 (rangeAt_cons c5 rangeAt_nil)))))) ?_) | (at_builtin;refine wpList_appR rfl (.tmp 84) (.tmp 88) 145 rfl 152 ie (.agg #[.int .i64 0, .int .i64 0]) 2 16 Tryz.underlying145 Hi.out Hz0.out Hz1.out Hz2.out rfl (by decide) _ 0 [] rfl ?ha qo W.wait.length qc (entV W.wait) rfl ?hb ?hc ?hd ?he ?hf ?hg))
     case ha=>exact ⟨by simp, .inr ⟨wr.heap.size+1,0,0,[],rfl,Blk.newAt _ (by simp) rfl,Nat.le_refl _,Nat.zero_le _,by simp,by simp⟩⟩
     case hb=>exact entV_length _
     case hc=>exact HCL.out.keep (((Kz wr).alloc _).alloc _) (fun _ _ _ h=>h)
     case hd=>intro u hu;simp [entV] at hu;rcases hu with ⟨_,_,_,rfl | rfl⟩ <;> rfl
     case he=>unfold maxLen;omega
     case hf=>omega
     case hg=>
      intro v2 w5 hs2 hk2 ho2
      obtain ⟨vo,vc,hv2,-,-,-⟩:=hs2.rd
      have hka:Keeps (fun _=>False) wr ((wr.alloc (.cells #[.slice no W.T.length nc, .slice ro W.roots.length rc, .slice go_ W.regs.length gc, .slice qo W.wait.length qc, .int .i64 W.most, .int .i64 W.grow] 147)).alloc (.cells #[] 152)):=((Keeps.refl _ _).alloc _).alloc _
      have hX:Blk ((wr.alloc (.cells #[.slice no W.T.length nc, .slice ro W.roots.length rc, .slice go_ W.regs.length gc, .slice qo W.wait.length qc, .int .i64 W.most, .int .i64 W.grow] 147)).alloc (.cells #[] 152)) wr.heap.size [.slice no W.T.length nc, .slice ro W.roots.length rc, .slice go_ W.regs.length gc, .slice qo W.wait.length qc, .int .i64 W.most, .int .i64 W.grow] 147:=(Blk.newAt _ rfl rfl).alloc _
      have hX2:=hk2.blk hX (by simp [ownB,Value.ownBlock])
      have hK5:Keeps (fun _=>False) wr w5:=hka.then hk2 (fun k hk=>.inr (by simp [ownB,Value.ownBlock] at hk;omega))
      have ho5:∀ k,ownB v2 k→wr.heap.size≤k:=fun k hk=>by
       rcases ho2 k hk with h | h
       ·simp [ownB,Value.ownBlock] at h;omega
       ·omega
      try rw [Nat.zero_add] at hs2 hv2
      try rw [List.nil_append] at hs2
      subst hv2
      have hset:=(Keeps.refl (·=wr.heap.size) w5).setCell (p:=⟨wr.heap.size,3,none⟩) (.inl rfl) (.slice vo W.wait.length vc)
      have hnx:∀ {b:Nat} {c:List Value} {T:TypeId},Blk w5 b c T→T≠147→¬ b=wr.heap.size:=fun hb hT=>hb.ne hX2 hT
      have CP:=Hz (show CPm w (w5.setCell ⟨wr.heap.size,3,none⟩ (.slice vo W.wait.length vc)) h W (.slice io is0.length icap) is0 g8 (g8+1) (itemsM atB is0 W.regs) wr.heap.size (.slice vo W.wait.length vc) W.wait by
       have e8:(itemsM atB is0 W.regs).map (fun i=>Value.bool i.2.1)=((itemsM atB is0 W.regs).map fun i=>i.2.1).map Value.bool:=by simp
       have e9:(itemsM atB is0 W.regs).map (fun i=>Value.bool i.2.2)=List.replicate W.regs.length (.bool false):=by
        rw [List.eq_replicate_iff]
        refine ⟨by simp [itemsM],fun b hb=>?_⟩
        simp [itemsM] at hb
        exact hb.2.symm
       have I5:=IR.out.keep hK5 (fun _ _ h=>h)
       refine ⟨(KW.out.trans hK5).then hset (fun k hk=>.inr (by rw [hk];exact KW.out.size)),I5.keep hset (fun b hb=>by obtain ⟨_,c,hc⟩:=I5.own hb;exact hnx hc (by decide)),?_,?_,?_,hs2.keep hset (fun b hb=>by obtain ⟨_,c,hc⟩:=hs2.own hb;exact hnx hc (by decide)),fun hb=>by have:=IL.out g8 hb;omega,fun hb=>by have:=IL.out _ hb;omega,by omega,fun k hk=>HIO.out k hk,HG8.out,by have:=HG8.out;omega,KW.out.size,fun k hk=>Nat.le_trans KW.out.size (ho5 k hk)⟩
       ·rw [e8];have b:=hK5.blk BR.out (fun h=>h);exact hset.blk b (hnx b (by decide))
       ·rw [e9];have b:=hK5.blk B9R.out (fun h=>h);exact hset.blk b (hnx b (by decide))
       ·rw [HNO.out,HRO.out,HGO.out]
        simpa using hX2.setSame 3 (.slice vo W.wait.length vc))
      have x3:=hX2.cell 3;have xl:=hX2.lt;have xf:=hX2.free 3
      simp only [List.getElem?_cons_zero,List.getElem?_cons_succ] at x3
      clear hs2 hk2 ho2 hka hX hX2 hK5 ho5 hset hnx c0 c1 c2 c3 c4 c5 pl HR IR BR B9R HCL I4 IL KR KW B8 B9 K4 H4
      go_wp2_with fail
      generalize wr.heap.size=x1 at *
      generalize w5.setCell ⟨x1,3,none⟩ (.slice vo W.wait.length vc)=w6 at *
      clear x3 xl xf
      go_loopg [7,12] (unN (itemsM atB is0 W.regs)+1) (fun n a m wr=>∃ (x:Bool) (io:Option Addr) (icap:Nat) (is:List Bool) (items:List It) (vo:Option Addr) (vc:Nat) (q:List (Int × Int)),a=.slice io is.length icap∧m=.bool x∧CPm w wr h W (.slice io is.length icap) is g8 (g8+1) items x1 (.slice vo q.length vc) q∧PassAt W major x is q items∧unN items+(if x then 1 else 0)≤n)
      case atStart=>exact ⟨true,io,icap,is0,_,vo,vc,W.wait,rfl,rfl,CP.out,PA.out,Nat.le_refl _⟩
      case round=>
       clear CP PA
       obtain ⟨x,io,icap,isP,itemsP,vo,vc,qP,rfl,rfl,hC,hP,hn⟩:=hrel
       have CP:=Hz hC;have PA:=Hz hP;have HN:=Hz hn
       clear hC hP hn
       cases x
       ·--<rest
        obtain ⟨w7,rfl⟩:∃ x:World,x=wr:=⟨wr,rfl⟩
        have PD:=Hz PA.out.done
        have HLI:=Hz PA.out.ok.alen
        have HLQ:=Hz (show qP.length≤24 by have:=PA.out.ok.cnt;omega)
        have hlp:=PA.out.ok.len
        have HLP:=Hz hlp
        have H7:=Hz (HH.out.same CP.out.K)
        obtain ⟨c0,-,-,-,-,-⟩:=H7.out.cells
        rw [HNO.out] at c0
        have pl:=H7.out.hp.lt
        clear hlp
        go_wp2_with fail
        go_loopw [15,16] (fun s u wr=>∃ k:Nat,k≤W.T.length∧u=.int .i64 k∧s=.int .i64 (sumK isP W.T k)∧Keeps (fun _=>False) w7 wr) (fun _ u _=>W.T.length-(intOf u).toNat)
        case atStart=>exact ⟨0,Nat.zero_le _,rfl,by rw [sumK_zero],Keeps.refl _ _⟩
        case round=>
         clear c0 pl
         obtain ⟨k,hk,rfl,rfl,hK⟩:=hrel
         have KR:=Hz hK
         have CR:=Hz (CP.out.same hK)
         have HR:=Hz (H7.out.same hK)
         obtain ⟨c0,-,-,-,-,c5⟩:=HR.out.cells
         rw [HNO.out] at c0
         have pl:=HR.out.hp.lt
         clear hK
         by_cases hlt:k<W.T.length
         ·obtain ⟨_,_,e',N⟩:=HR.out.ht.nth
          rw [HNO.out] at e'
          cases e'
          obtain ⟨g,o,fo,fc,rfl,-,hgl,t0,t1,t2,t3,-,-,hml⟩:=N k hlt
          have hst:=sumK_step (is:=isP) hlt
          have hb1:=sumK_le HOK.out PA.out.ok.live k (by omega)
          have hb2:=sumK_le HOK.out PA.out.ok.live (k+1) (by omega)
          generalize W.T.getD k Th.none=t at *
          obtain ⟨tk,tf,tol,tde⟩:=t
          dsimp only [Th.words] at t0 t1 t2 t3 hml hst
          obtain ⟨_,_,e',rdi,-,-⟩:=CR.out.I.rd
          cases e'
          obtain ⟨gi,oi,rfl,hgi,d0⟩:=rdi.boolAt k (by rw [HLP.out];exact hlt)
          have hki:k<isP.length:=by rw [HLP.out];exact hlt
          generalize isP.getD k false=z at *
          obtain ⟨a,ha⟩:∃ a,sumK isP W.T k=a:=⟨_,rfl⟩
          obtain ⟨a2,ha2⟩:∃ a,sumK isP W.T (k+1)=a:=⟨_,rfl⟩
          rw [ha,ha2] at hst
          rw [ha] at hb1
          rw [ha2] at hb2
          rw [ha]
          have HA2:=Hz ha2
          clear N rdi ha ha2
          cases z
          ·simp only [Bool.false_eq_true,if_false,Int.add_zero] at hst
           subst hst
           go_wp2_with fail
           go_roundw
           case rel=>exact ⟨k+1,hlt,by go_num,by rw [HA2.out],KR.out⟩
           case measure=>simp [intOf];omega
          ·simp only [if_true] at hst
           have hw1:IntKind.i64.wrap (1+(tf.length:Int))=1+tf.length:=IntWalk.i64_in _ (by omega)
           have hw2:IntKind.i64.wrap (a+(1+(tf.length:Int)))=a+(1+tf.length):=IntWalk.i64_in _ (by omega)
           have HST:=Hz hst
           clear hst
           go_wp2_with fail
           go_roundw
           case rel=>exact ⟨k+1,hlt,by go_num,by rw [HA2.out,HST.out],KR.out⟩
           case measure=>simp [intOf];omega
         ·obtain rfl:k=W.T.length:=by omega
          rw [sumK_all]
          have hb:=sumK_le HOK.out PA.out.ok.live W.T.length (Nat.le_refl _)
          rw [sumK_all] at hb
          have HFU:=Hz (fun h2=>cut_full (W:=W) (major:=major) HF.out h2)
          have HYE:=Hz (fun h2=>cut_yes (W:=W) (major:=major) HF.out h2)
          have HAF:=Hz (fun h2=>Wd.ok.after (W:=W) HOK.out (major:=major) h2)
          rw [PD.out] at HFU HYE HAF
          dsimp only at HFU HYE HAF
          generalize sumL isP W.T=a at *
          by_cases hgr:a > W.grow
          ·have HE:=Hz (HFU.out hgr)
           have hd:decide (W.grow<a)=true:=by simpa using hgr
           clear hgr
           go_wp2_with fail
           go_ret
           exact ⟨by rw [HE.out];rfl,by rw [HE.out];exact WorldTo.same HH.out CR.out.K⟩
          ·have HE:=Hz (HYE.out hgr)
           have HAO:=Hz (HAF.out (by omega))
           have hd:decide (W.grow<a)=false:=by simpa using hgr
           clear hgr HFU HYE HAF
           obtain ⟨w8,rfl⟩:∃ x:World,x=wr:=⟨wr,rfl⟩
           go_wp2_with fail
           generalize hnr:newRegs atB nowW isP=NR at *
           have HNR:=Hz hnr
           clear hnr
           go_loopw [17,19] (fun s u wr=>∃ (k:Nat) (vo2:Option Addr) (vc2:Nat),k≤W.regs.length∧u=.int .i64 k∧s=.slice vo2 (NR (itemsP.take k)).length vc2∧Keeps (fun _=>False) w8 wr∧Sl wr 152 2 (.slice vo2 (NR (itemsP.take k)).length vc2) (NR (itemsP.take k)).length (entV (NR (itemsP.take k)))∧∀ b,ownB (.slice vo2 (NR (itemsP.take k)).length vc2) b→w8.heap.size≤b) (fun _ u _=>W.regs.length-(intOf u).toNat)
           case atStart=>
            have e0:NR (itemsP.take 0)=[]:=by rw [←HNR.out];rfl
            exact ⟨0,none,0,Nat.zero_le _,rfl,by rw [e0];rfl,Keeps.refl _ _,by rw [e0];exact Sl.nil _ _ _,fun b hb=>by rw [e0] at hb;exact (nil_own hb).elim⟩
           case round=>
            clear c0 c5 pl
            obtain ⟨k,vo2,vc2,hk,rfl,rfl,hK,hS,hO⟩:=hrel
            have KQ:=Hz hK;have SQ:=Hz hS;have OQ:=Hz hO
            have CQ:=Hz (CR.out.same hK)
            have HQR:=Hz (HR.out.same hK)
            obtain ⟨-,-,c2,-,-,-⟩:=HQR.out.cells
            rw [HGO.out] at c2
            have pl:=HQR.out.hp.lt
            clear hK hS hO
            by_cases hlt:k<W.regs.length
            ·obtain ⟨_,_,e',rd,-,-⟩:=HQR.out.hg.rd
             rw [HGO.out] at e'
             cases e'
             obtain ⟨gg,og,rfl,hgl,v0,v1⟩:=rd.ent k hlt
             have hokE:=HOK.out.gv (W.regs.getD k (0,0)) (by rw [List.getD_eq_getElem?_getD,List.getElem?_eq_getElem hlt];exact List.getElem_mem _)
             have hka:k<itemsP.length:=by rw [HLI.out];exact hlt
             have hal:(itemsP[k]'hka).1=W.regs.getD k (0,0):=by
              have h1:(itemsP.map (·.1))[k]? = W.regs[k]? := by rw [PA.out.ok.rg]
              rw [List.getElem?_map,List.getElem?_eq_getElem hka,List.getElem?_eq_getElem hlt] at h1
              rw [List.getD_eq_getElem?_getD,List.getElem?_eq_getElem hlt]
              simpa using h1
             have D8:=CQ.out.D.cell k;have dl:=CQ.out.D.lt
             rw [List.getElem?_map,List.getElem?_eq_getElem hka] at D8
             simp only [Option.map_some] at D8
             have htk:=newRegs_take (is:=isP) hka
             rw [HNR.out] at htk
             have hll:(NR (itemsP.take k)).length≤24:=by
              have h1:=newRegs_len isP (itemsP.take k)
              rw [HNR.out] at h1
              simp at h1;omega
             generalize W.regs.getD k (0,0)=e at *
             obtain ⟨e1,e2⟩:=e
             obtain ⟨⟨a1,d,b⟩,hit⟩:∃ t,itemsP[k]'hka=t:=⟨_,rfl⟩
             rw [hit] at D8 hal htk
             dsimp only at hal D8 htk
             subst hal
             dsimp only at v0 v1 htk
             have h0:=hokE.1.1;have h1:=hokE.1.2.1
             dsimp only at h0 h1
             obtain ⟨m1,rfl⟩:∃ m:Nat,e1=m:=⟨e1.toNat,by omega⟩
             have hm1:m1<isP.length:=by rw [HLP.out];omega
             obtain ⟨_,_,e',rdi,-,-⟩:=CQ.out.I.rd
             cases e'
             obtain ⟨gi,oi,rfl,hgi,d0⟩:=rdi.boolAt m1 hm1
             have hat:=atB_nat isP m1
             rw [hat] at htk
             have HTK:=Hz htk
             generalize isP.getD m1 false=z at *
             clear rd rdi hokE hit htk hat
             cases d
             ·cases z
              ·go_wp2_with fail
               go_roundw
               case rel=>exact ⟨k+1,vo2,vc2,hlt,by go_num,by rw [HTK.out];simp,KQ.out,by rw [HTK.out];simpa using SQ.out,by rw [HTK.out];simpa using OQ.out⟩
               case measure=>simp [intOf];omega
              ·obtain ⟨lr,hlr⟩:∃ l,NR (itemsP.take k)=l:=⟨_,rfl⟩
               rw [hlr] at SQ OQ HTK hll
               rw [hlr]
               have HT2:=Hz (show NR (itemsP.take (k+1))=lr ++ [((m1:Int),e2)] from HTK.out)
               clear hlr HTK
               go_wp2_with (first | (refine wpList_agg2 rfl 152 (.tmp 205) rfl (by kernel_rfl) gg (og+k*2) rfl _ _ v0 v1 ?_) | (at_builtin;refine wpList_app rfl (.tmp 199) (.tmp 207) 145 rfl 152 ie (.agg #[.int .i64 0, .int .i64 0]) 2 16 Tryz.underlying145 Hi.out Hz0.out Hz1.out Hz2.out rfl (by decide) _ lr.length (entV lr) rfl ?ha ⟨wr.heap.size,0,none⟩ 1 1 [.int .i64 (m1:Int), .int .i64 e2] rfl rfl ?hb ?hc ?hd ?he ?hf))
               case ha=>exact SQ.out.keep ((Kz wr).alloc _) (fun _ _ h=>h)
               case hb=>exact news_at wr 152 _
               case hc=>intro u hu;simp at hu;rcases hu with rfl | rfl <;> rfl
               case hd=>unfold maxLen;omega
               case he=>omega
               case hf=>
                intro v2 w2 hs2 hk2 ho2
                obtain ⟨ao2,ac2,rfl,-,-,-⟩:=hs2.rd
                have ka:=(Kz wr).alloc (.cells #[.int .i64 (m1:Int), .int .i64 e2] 152)
                have KN:=Hz (show Keeps (fun _=>False) w8 w2 from (KQ.out.trans ka).then hk2 (fun j hj=>.inr (OQ.out j hj)))
                have ON:=Hz (show ∀ b,ownB (.slice ao2 (lr.length+1) ac2) b→w8.heap.size≤b from fun b hb=>by
                 rcases ho2 b hb with h1 | h1
                 ·exact OQ.out b h1
                 ·have:=KQ.out.size;first | omega | (simp at h1;omega))
                have e1:(lr ++ [((m1:Int),e2)]).length=lr.length+1:=by simp
                have e2':entV (lr ++ [((m1:Int),e2)])=entV lr ++ [.int .i64 (m1:Int), .int .i64 e2]:=by simp [entV]
                have SN:=Hz (show Sl w2 152 2 (.slice ao2 (lr ++ [((m1:Int),e2)]).length ac2) (lr ++ [((m1:Int),e2)]).length (entV (lr ++ [((m1:Int),e2)])) by rw [e1,e2'];exact hs2)
                have E1:=Hz e1
                clear hs2 hk2 ho2 ka e1 e2'
                go_wp2_with fail
                go_roundw
                case rel=>exact ⟨k+1,ao2,ac2,hlt,by go_num,by rw [HT2.out,E1.out],KN.out,by rw [HT2.out];exact SN.out,by rw [HT2.out,E1.out];exact ON.out⟩
                case measure=>simp [intOf];omega
             ·go_wp2_with fail
              go_roundw
              case rel=>exact ⟨k+1,vo2,vc2,hlt,by go_num,by rw [HTK.out];simp,KQ.out,by rw [HTK.out];simpa using SQ.out,by rw [HTK.out];simpa using OQ.out⟩
              case measure=>simp [intOf];omega
            ·obtain rfl:k=W.regs.length:=by omega
             have htl:NR (itemsP.take W.regs.length)=newRegs atB nowW isP itemsP:=by rw [←HNR.out,List.take_of_length_le (by rw [HLI.out];exact Nat.le_refl _)]
             obtain ⟨lr,hlr⟩:∃ l,newRegs atB nowW isP itemsP=l:=⟨_,rfl⟩
             rw [htl,hlr] at SQ OQ
             rw [htl,hlr]
             have HLR:=Hz hlr
             clear htl hlr
             obtain ⟨w9,rfl⟩:∃ x:World,x=wr:=⟨wr,rfl⟩
             go_wp2_with fail
             generalize hnw:newWait atB nowW isP=NW at *
             have HNW:=Hz hnw
             clear hnw
             have CW9:=Hz (CR.out.same KQ.out)
             have HW9:=Hz (HR.out.same KQ.out)
             go_loopw [18,20] (fun s u wr=>∃ (k:Nat) (vo3:Option Addr) (vc3:Nat),k≤qP.length∧u=.int .i64 k∧s=.slice vo3 (NW (qP.take k)).length vc3∧Keeps (fun _=>False) w9 wr∧Sl wr 152 2 (.slice vo3 (NW (qP.take k)).length vc3) (NW (qP.take k)).length (entV (NW (qP.take k)))∧∀ b,ownB (.slice vo3 (NW (qP.take k)).length vc3) b→w9.heap.size≤b) (fun _ u _=>qP.length-(intOf u).toNat)
             case atStart=>
              have e0:NW (qP.take 0)=[]:=by rw [←HNW.out];rfl
              exact ⟨0,none,0,Nat.zero_le _,rfl,by rw [e0];rfl,Keeps.refl _ _,by rw [e0];exact Sl.nil _ _ _,fun b hb=>by rw [e0] at hb;exact (nil_own hb).elim⟩
             case round=>
              clear c2 pl
              obtain ⟨k,vo3,vc3,hk,rfl,rfl,hK,hS,hO⟩:=hrel
              have KW:=Hz hK;have SW:=Hz hS;have OW:=Hz hO
              have CQ:=Hz (CW9.out.same hK)
              have x3:=CQ.out.X.cell 3;have xl:=CQ.out.X.lt
              simp only [List.getElem?_cons_zero,List.getElem?_cons_succ] at x3
              have hq24':=HLQ.out
              clear hK hS hO
              by_cases hlt:k<qP.length
              ·obtain ⟨_,_,e',rd,-,-⟩:=CQ.out.Q.rd
               cases e'
               obtain ⟨gg,og,rfl,hgl,v0,v1⟩:=rd.ent k hlt
               have hokE:=PA.out.ok.wv (qP.getD k (0,0)) (by rw [List.getD_eq_getElem?_getD,List.getElem?_eq_getElem hlt];exact List.getElem_mem _)
               have htk:=newWait_take (is:=isP) hlt
               have hge:qP[k]'hlt=qP.getD k (0,0):=by rw [List.getD_eq_getElem?_getD,List.getElem?_eq_getElem hlt];rfl
               rw [HNW.out,hge] at htk
               have hll:(NW (qP.take k)).length≤24:=by
                have h1:=newWait_len isP (qP.take k)
                rw [HNW.out] at h1
                simp at h1;omega
               generalize qP.getD k (0,0)=e at *
               obtain ⟨e1,e2⟩:=e
               dsimp only at v0 v1 htk
               have h0:=hokE.1.1;have h1:=hokE.1.2.1
               dsimp only at h0 h1
               obtain ⟨m1,rfl⟩:∃ m:Nat,e1=m:=⟨e1.toNat,by omega⟩
               have hm1:m1<isP.length:=by rw [HLP.out];omega
               obtain ⟨_,_,e',rdi,-,-⟩:=CQ.out.I.rd
               cases e'
               obtain ⟨gi,oi,rfl,hgi,d0⟩:=rdi.boolAt m1 hm1
               have hat:=atB_nat isP m1
               rw [hat] at htk
               have HTK:=Hz htk
               generalize isP.getD m1 false=z at *
               clear rd rdi hokE htk hat hge
               cases z
               ·go_wp2_with fail
                go_roundw
                case rel=>exact ⟨k+1,vo3,vc3,hlt,by go_num,by rw [HTK.out];simp,KW.out,by rw [HTK.out];simpa using SW.out,by rw [HTK.out];simpa using OW.out⟩
                case measure=>simp [intOf];omega
               ·obtain ⟨lw,hlw⟩:∃ l,NW (qP.take k)=l:=⟨_,rfl⟩
                rw [hlw] at SW OW HTK hll
                rw [hlw]
                have HT2:=Hz (show NW (qP.take (k+1))=lw ++ [((m1:Int),e2)] from HTK.out)
                clear hlw HTK
                go_wp2_with (first | (refine wpList_agg2 rfl 152 (.tmp 229) rfl (by kernel_rfl) gg (og+k*2) rfl _ _ v0 v1 ?_) | (at_builtin;refine wpList_app rfl (.tmp 225) (.tmp 231) 145 rfl 152 ie (.agg #[.int .i64 0, .int .i64 0]) 2 16 Tryz.underlying145 Hi.out Hz0.out Hz1.out Hz2.out rfl (by decide) _ lw.length (entV lw) rfl ?ha ⟨wr.heap.size,0,none⟩ 1 1 [.int .i64 (m1:Int), .int .i64 e2] rfl rfl ?hb ?hc ?hd ?he ?hf))
                case ha=>exact SW.out.keep ((Kz wr).alloc _) (fun _ _ h=>h)
                case hb=>exact news_at wr 152 _
                case hc=>intro u hu;simp at hu;rcases hu with rfl | rfl <;> rfl
                case hd=>unfold maxLen;omega
                case he=>omega
                case hf=>
                 intro v2 w2 hs2 hk2 ho2
                 obtain ⟨ao2,ac2,rfl,-,-,-⟩:=hs2.rd
                 have ka:=(Kz wr).alloc (.cells #[.int .i64 (m1:Int), .int .i64 e2] 152)
                 have KN:=Hz (show Keeps (fun _=>False) w9 w2 from (KW.out.trans ka).then hk2 (fun j hj=>.inr (OW.out j hj)))
                 have ON:=Hz (show ∀ b,ownB (.slice ao2 (lw.length+1) ac2) b→w9.heap.size≤b from fun b hb=>by
                  rcases ho2 b hb with h1 | h1
                  ·exact OW.out b h1
                  ·have:=KW.out.size;first | omega | (simp at h1;omega))
                 have e1:(lw ++ [((m1:Int),e2)]).length=lw.length+1:=by simp
                 have e2':entV (lw ++ [((m1:Int),e2)])=entV lw ++ [.int .i64 (m1:Int), .int .i64 e2]:=by simp [entV]
                 have SN:=Hz (show Sl w2 152 2 (.slice ao2 (lw ++ [((m1:Int),e2)]).length ac2) (lw ++ [((m1:Int),e2)]).length (entV (lw ++ [((m1:Int),e2)])) by rw [e1,e2'];exact hs2)
                 have E1:=Hz e1
                 clear hs2 hk2 ho2 ka e1 e2'
                 go_wp2_with fail
                 go_roundw
                 case rel=>exact ⟨k+1,ao2,ac2,hlt,by go_num,by rw [HT2.out,E1.out],KN.out,by rw [HT2.out];exact SN.out,by rw [HT2.out,E1.out];exact ON.out⟩
                 case measure=>simp [intOf];omega
              ·obtain rfl:k=qP.length:=by omega
               have htl:NW (qP.take qP.length)=newWait atB nowW isP qP:=by rw [←HNW.out,List.take_length]
               obtain ⟨lw,hlw⟩:∃ l,newWait atB nowW isP qP=l:=⟨_,rfl⟩
               rw [htl,hlw] at SW OW
               rw [htl,hlw]
               have HLW:=Hz hlw
               clear htl hlw
               have HRR:=Hz (HW9.out.same KW.out)
               have SQ2:=Hz (SQ.out.keep KW.out (fun _ _ h=>h))
               have SQL:=Hz (fun b hb=>(SQ.out.own (k:=b) hb).1)
               obtain ⟨-,-,c2,c3,-,-⟩:=HRR.out.cells
               rw [HGO.out] at c2
               rw [HQO.out] at c3
               have pl:=HRR.out.hp.lt;have f2:=HRR.out.hp.free 2;have f3:=HRR.out.hp.free 3
               have TM:=Hz (show TMm w ((wr.setCell ⟨h.p,2,none⟩ (.slice vo2 lr.length vc2)).setCell ⟨h.p,3,none⟩ (.slice vo3 lw.length vc3)) h W (.slice vo2 lr.length vc2) (.slice vo3 lw.length vc3) lr lw h.F (cutK isP W.T 0) (.slice io isP.length icap) isP by
                rw [cutK_zero]
                have set:=((Keeps.refl (·=h.p) wr).setCell (p:=⟨h.p,2,none⟩) (.inl rfl) (.slice vo2 lr.length vc2)).setCell (p:=⟨h.p,3,none⟩) (.inl rfl) (.slice vo3 lw.length vc3)
                have nx:∀ {b:Nat} {c:List Value} {T:TypeId},Blk wr b c T→T≠147→¬ b=h.p:=fun hb hT=>hb.ne HRR.out.hp hT
                have s8:=CR.out.K.size;have s9:=KQ.out.size
                refine ⟨by simpa using (HRR.out.hp.setSame 2 _).setSame 3 _,HRR.out.ht.keep set (fun b hb _=>?_) (fun b hb=>?_),HRR.out.hr.keep set (fun b hb=>?_),SQ2.out.keep set (fun b hb=>?_),SW.out.keep set (fun b hb=>?_),CQ.out.I.keep set (fun b hb=>?_),?_,?_,?_,?_,?_⟩
                ·obtain ⟨_,⟨c,hc⟩,_⟩:=HRR.out.af b hb;exact nx hc (by decide)
                ·obtain ⟨cs,hs,_⟩:=HRR.out.ht;obtain ⟨_,c,hc⟩:=hs.own hb;exact nx hc (by decide)
                ·obtain ⟨_,c,hc⟩:=HRR.out.hr.own hb;exact nx hc (by decide)
                ·obtain ⟨_,c,hc⟩:=SQ2.out.own hb;exact nx hc (by decide)
                ·obtain ⟨_,c,hc⟩:=SW.out.own hb;exact nx hc (by decide)
                ·obtain ⟨_,c,hc⟩:=CQ.out.I.own hb;exact nx hc (by decide)
                ·exact (CQ.out.K.mono (fun _ _ h=>h.elim)).trans (set.mono (fun b _ hb=>.inl hb))
                ·rintro b ⟨h1,h2⟩
                 have:=SQL.out b h1;have:=OW.out b h2;omega
                ·intro b hb
                 obtain ⟨h1,⟨c,h2⟩,h3⟩:=HRR.out.af b hb
                 exact ⟨.inl hb,by simpa using h1,⟨c,set.blk h2 (nx h2 (by decide))⟩,h3⟩
                ·intro b hb;exact Nat.le_trans s8 (OQ.out b hb)
                ·intro b hb;have:=OW.out b hb;omega)
               go_wp2_with fail
               generalize (wr.setCell ⟨h.p,2,none⟩ (.slice vo2 lr.length vc2)).setCell ⟨h.p,3,none⟩ (.slice vo3 lw.length vc3)=w10 at *
               go_loopw [21] (fun u wr=>∃ (k:Nat) (F:Nat→Prop),k≤W.T.length∧u=.int .i64 k∧TMm w wr h W (.slice vo2 lr.length vc2) (.slice vo3 lw.length vc3) lr lw F (cutK isP W.T k) (.slice io isP.length icap) isP) (fun u _=>W.T.length-(intOf u).toNat)
               case atStart=>exact ⟨0,h.F,Nat.zero_le _,rfl,TM.out⟩
               case round=>
                clear TM c2 c3 f2 f3 pl
                obtain ⟨k,F,hk,rfl,hM⟩:=hrel
                have TM:=Hz hM
                have c0:=hM.hp.cell 0;have pl:=hM.hp.lt
                simp only [List.getElem?_cons_zero] at c0
                rw [HNO.out] at c0
                clear hM
                by_cases hlt:k<W.T.length
                ·have hlc:k<(cutK isP W.T k).length:=by rw [cutK_len];exact hlt
                 have HTV:=Hz (show h.tv=.slice no (cutK isP W.T k).length nc by rw [cutK_len];exact HNO.out)
                 obtain ⟨g,o,fo,fc,rfl,hgl,hfz,t0,t1,t2,t3,hrd⟩:=TM.out.cells HTV.out hlc
                 have HRD:=Hz (show Rd wr fo (entV (cutK isP W.T k)[k].fs) from hrd)
                 have hge:=cutK_get isP W.T hlt
                 have hst:=cutK_step isP W.T hlt
                 have HTH:=Hz (show W.th (k:Int)=W.T[k] by unfold Wd.th;rw [Int.toNat_natCast,List.getD_eq_getElem?_getD,List.getElem?_eq_getElem hlt];rfl)
                 have HGE:=Hz hge
                 rw [hge] at t0 t1 t2 t3 HRD
                 have HST:=Hz hst
                 obtain ⟨t,ht⟩:∃ t,W.T[k]=t:=⟨_,rfl⟩
                 rw [ht] at t0 t1 t2 t3 HRD HTH HGE HST
                 have HAT:=Hz (atB_nat isP k)
                 obtain ⟨_,_,e',rdi,-,-⟩:=TM.out.I.rd
                 cases e'
                 have hki:k<isP.length:=by rw [HLP.out];exact hlt
                 obtain ⟨gi,oi,rfl,hgi,d0⟩:=rdi.boolAt k hki
                 obtain ⟨z,hz⟩:∃ z,isP.getD k false=z:=⟨_,rfl⟩
                 rw [hz] at d0 HAT
                 have HZ:=Hz hz
                 have f1:=hfz (o+k*4+1);have f2:=hfz (o+k*4+2);have f3:=hfz (o+k*4+3)
                 obtain ⟨tk,tf,tol,tde⟩:=t
                 dsimp only at t0 t1 t2 t3 HRD
                 clear hz ht hge hst rdi hrd hfz
                 cases z
                 ·as_aux_lemma=>
                  have M2:=Hz (TM.out.setDead HTV.out hlc)
                  have M3:=Hz (M2.out.setNil (by rw [List.length_set];exact HTV.out) (by rw [List.length_set];exact hlc))
                  have HEQ:=Hz (cutT_no (t:=⟨tk,tf,tol,tde⟩) HZ.out)
                  go_wp2_with fail
                  go_roundw
                  case rel=>
                   refine ⟨k+1,F,hlt,by go_num,M3.out.eqT ?_⟩
                   rw [←HST.out,HEQ.out]
                   simp only [List.set_set,List.getElem_set_self,HGE.out]
                  case measure=>simp [intOf];omega
                 ·have M2:=Hz (TM.out.setOld HTV.out hlc)
                  rw [HGE.out] at M2
                  dsimp only at M2
                  have hlv:=PA.out.ok.live (k:Int) HAT.out
                  have hfit:=HOK.out.tk _ hlv
                  rw [HTH.out] at hfit
                  have HFT:=Hz hfit
                  have hk15:=fitsW_spec hfit
                  dsimp only at hk15
                  have hl2:k<((cutK isP W.T k).set k ⟨tk,tf,true,tde⟩).length:=by rw [List.length_set];exact hlc
                  have HTV2:=Hz (show h.tv=.slice (some ⟨g,o,none⟩) ((cutK isP W.T k).set k ⟨tk,tf,true,tde⟩).length nc by rw [List.length_set];exact HTV.out)
                  clear hlv hfit
                  go_upto_region 52 with (fail)
                  clear t0 t1 t2 t3 c0 pl hgl f1 f2 f3 d0 hgi
                  generalize wr.setCell ⟨g,o+k*4+2,none⟩ (.bool true)=w11 at *
                  obtain ⟨_,_,fo',fc',e2,hgl,hfz,t0,t1,t2,t3,hrd⟩:=M2.out.cells HTV2.out hl2
                  cases e2
                  simp only [List.getElem_set_self] at t0 t1 t2 t3 hrd
                  have HRD2:=Hz (show Rd w11 fo' (entV tf) from hrd)
                  have f1:=hfz (o+k*4+1)
                  clear hrd HRD hfz
                  by_cases hk4:tk=4
                  ·subst hk4
                   as_aux_lemma=>
                   obtain ⟨u,v,rfl⟩:∃ u v,tf=[u,v]:=by
                    have h2:tf.length=2:=by
                     have:=HFT.out
                     simp [fitsW] at this
                     omega
                    match tf,h2 with
                    | [u,v],_=>exact ⟨u,v,rfl⟩
                   obtain ⟨gf,of,rfl,hgf,u0,u1⟩:=HRD2.out.val 0 (by simp)
                   simp only [List.getD_cons_zero,Nat.zero_mul,Nat.add_zero] at u0 u1
                   have hlen2:([u,v]:List Vl).length=2:=rfl
                   rw [hlen2] at t1
                   have HEQ:=Hz (cutT_eph (t:=⟨4,[u,v],tol,tde⟩) HZ.out rfl rfl)
                   have hin:InL isP.length u:=fun h3=>by
                    have:=HOK.out.tv (k:Int) (PA.out.ok.live _ HAT.out) u (by rw [HTH.out];simp)
                    have:=Wd.okV_ref this h3
                    rw [HLP.out]
                    exact ⟨this.1,this.2.1⟩
                   obtain ⟨_,_,e',rdi,-,-⟩:=M2.out.I.rd
                   cases e'
                   have HIS:=Hz (inSet_c u _ icap isP w11 rdi (by have:=HLP.out;omega) hin)
                   clear rdi hin hlen2
                   go_wp2_with (refine wpList_agg2g (by kernel_rfl) 96 (.tmp 281) rfl (by kernel_rfl) gf of rfl _ _ u0 u1 ?_)
                   refine HIS.out.mono ?_
                   rintro e w12 ⟨rfl,hk⟩
                   have M4:=Hz (M2.out.same hk)
                   clear t0 t1 t2 t3 hgl f1 u0 u1 hgf HIS hk
                   obtain ⟨_,_,fo',fc',e2,hgl,hfz,t0,t1,t2,t3,hrd⟩:=M4.out.cells HTV2.out hl2
                   cases e2
                   simp only [List.getElem_set_self] at t0 t1 t2 t3 hrd
                   have f1:=hfz (o+k*4+1)
                   rw [show ([u,v]:List Vl).length=2 from rfl] at t1
                   clear hrd hfz
                   cases hi:inS isP u
                   ·have HI:=Hz hi
                    clear hi
                    have hbn:Blk (w12.alloc (.cells #[.int .i64 2, .int .i64 0, .int .i64 2, .int .i64 0] 96)) w12.heap.size (entV [(2,0),(2,0)]) 96:=Blk.newAt _ rfl rfl
                    have KN:=(Kz w12).alloc (.cells #[.int .i64 2, .int .i64 0, .int .i64 2, .int .i64 0] 96)
                    have hrv:¬ ownB h.rv w12.heap.size:=fun hb=>by have:=(M4.out.hr.own hb).1;omega
                    have M5:=Hz ((M4.out.same KN).setFs (u:=(2,0)) (v:=(2,0)) HTV2.out hl2 hbn (Nat.le_trans M4.out.K.size (Nat.le_refl _)) hrv)
                    clear hbn KN hrv
                    rw [alloc_setCell _ _ _ _ hgl] at M5
                    go_upto_region 54 with (fail)
                    clear t0 t1 t2 t3 hgl f1 M4
                    simp only [List.set_set,List.getElem_set_self] at M5
                    generalize (w12.setCell ⟨g,o+k*4+1,none⟩ (.slice (some ⟨w12.heap.size,0,none⟩) 2 2)).alloc (.cells #[.int .i64 2, .int .i64 0, .int .i64 2, .int .i64 0] 96)=w13 at *
                    obtain ⟨_,_,fo5,fc5,e2,hgl,-,t0,t1,t2,t3,-⟩:=M5.out.cells (k:=k) (by rw [List.length_set,cutK_len];exact HNO.out) (by rw [List.length_set];exact hlc)
                    cases e2
                    simp only [List.getElem_set_self] at t0 t1 t2 t3
                    clear t1 t2 t3
                    go_wp2_with fail
                    go_roundw
                    case rel=>
                     refine ⟨k+1,_,hlt,by go_num,M5.out.eqT ?_⟩
                     rw [←HST.out,HEQ.out,if_pos HI.out]
                     try simp only [List.set_set,List.getElem_set_self]
                    case measure=>simp [intOf];omega
                   ·have HI:=Hz hi
                    clear hi
                    go_wp2_with fail
                    go_roundw
                    case rel=>
                     refine ⟨k+1,F,hlt,by go_num,M4.out.eqT ?_⟩
                     rw [←HST.out,HEQ.out,if_neg (by rw [HI.out];decide)]
                    case measure=>simp [intOf];omega
                  ·have k4:(tk == 4)=false:=by simpa using hk4
                   by_cases hk3:tk=3
                   ·subst hk3
                    as_aux_lemma=>
                    obtain ⟨u,v,rfl⟩:∃ u v,tf=[u,v]:=by
                     have h2:tf.length=2:=by
                      have:=HFT.out
                      simp [fitsW] at this
                      omega
                     match tf,h2 with
                     | [u,v],_=>exact ⟨u,v,rfl⟩
                    obtain ⟨gf,of,rfl,hgf,u0,u1⟩:=HRD2.out.val 0 (by simp)
                    simp only [List.getD_cons_zero,Nat.zero_mul,Nat.add_zero] at u0 u1
                    have hlen2:([u,v]:List Vl).length=2:=rfl
                    rw [hlen2] at t1
                    have HEQ:=Hz (cutT_weak (t:=⟨3,[u,v],tol,tde⟩) HZ.out rfl rfl)
                    have hin:InL isP.length u:=fun h3=>by
                     have:=HOK.out.tv (k:Int) (PA.out.ok.live _ HAT.out) u (by rw [HTH.out];simp)
                     have:=Wd.okV_ref this h3
                     rw [HLP.out]
                     exact ⟨this.1,this.2.1⟩
                    obtain ⟨_,_,e',rdi,-,-⟩:=M2.out.I.rd
                    cases e'
                    have HIS:=Hz (inSet_c u _ icap isP w11 rdi (by have:=HLP.out;omega) hin)
                    clear rdi hin hlen2
                    go_wp2_with (refine wpList_agg2g (by kernel_rfl) 96 (.tmp 303) rfl (by kernel_rfl) gf of rfl _ _ u0 u1 ?_)
                    refine HIS.out.mono ?_
                    rintro e w12 ⟨rfl,hk⟩
                    have M4:=Hz (M2.out.same hk)
                    have HRD4:=Hz (HRD2.out.keep hk (fun _ _ _ h=>h))
                    clear t0 t1 t2 t3 hgl f1 u0 u1 hgf HIS hk
                    obtain ⟨_,_,fo',fc',e2,hgl,hfz,t0,t1,t2,t3,hrd⟩:=M4.out.cells HTV2.out hl2
                    cases e2
                    simp only [List.getElem_set_self] at t0 t1 t2 t3 hrd
                    have HRD5:=Hz (show Rd w12 fo' (entV [u,v]) from hrd)
                    rw [show ([u,v]:List Vl).length=2 from rfl] at t1
                    have f1:=hfz (o+k*4+1)
                    clear hrd hfz
                    cases hi:inS isP u
                    ·have HI:=Hz hi
                     clear hi
                     obtain ⟨gf2,of2,rfl,hgf,v0,v1⟩:=HRD5.out.val 1 (by simp)
                     simp only [List.getD_cons_succ,List.getD_cons_zero,Nat.one_mul] at v0 v1
                     have hbn:Blk (w12.alloc (.cells #[.int .i64 2, .int .i64 0, .int .i64 v.1, .int .i64 v.2] 96)) w12.heap.size (entV [(2,0),v]) 96:=Blk.newAt _ rfl rfl
                     have KN:=(Kz w12).alloc (.cells #[.int .i64 2, .int .i64 0, .int .i64 v.1, .int .i64 v.2] 96)
                     have hrv:¬ ownB h.rv w12.heap.size:=fun hb=>by have:=(M4.out.hr.own hb).1;omega
                     have M5:=Hz ((M4.out.same KN).setFs (u:=(2,0)) (v:=v) HTV2.out hl2 hbn (Nat.le_trans M4.out.K.size (Nat.le_refl _)) hrv)
                     rw [alloc_setCell _ _ _ _ hgl] at M5
                     clear hbn KN hrv
                     go_wp2_with (refine wpList_agg2 rfl 96 (.tmp 314) rfl (by kernel_rfl) gf2 _ rfl _ _ v0 v1 ?_)
                     go_roundw
                     case rel=>
                      refine ⟨k+1,_,hlt,by go_num,M5.out.eqT ?_⟩
                      rw [←HST.out,HEQ.out,if_pos HI.out]
                      simp only [List.set_set,List.getElem_set_self]
                     case measure=>simp [intOf];omega
                    ·have HI:=Hz hi
                     clear hi
                     go_wp2_with fail
                     go_roundw
                     case rel=>
                      refine ⟨k+1,F,hlt,by go_num,M4.out.eqT ?_⟩
                      rw [←HST.out,HEQ.out,if_neg (by rw [HI.out];decide)]
                     case measure=>simp [intOf];omega
                   ·have k3:(tk == 3)=false:=by simpa using hk3
                    as_aux_lemma=>
                    have HEQ:=Hz (cutT_other (t:=⟨tk,tf,tol,tde⟩) HZ.out hk3 hk4)
                    clear hk3 hk4
                    go_wp2_with fail
                    go_roundw
                    case rel=>exact ⟨k+1,F,hlt,by go_num,M2.out.eqT (by rw [←HST.out,HEQ.out])⟩
                    case measure=>simp [intOf];omega
                ·obtain rfl:k=W.T.length:=by omega
                 rw [cutK_all] at TM
                 go_wp2_with fail
                 go_ret
                 refine ⟨by rw [HE.out];rfl,?_⟩
                 rw [HE.out]
                 refine TMm.done (gv:=.slice vo2 lr.length vc2) (wv:=.slice vo3 lw.length vc3) (F:=F) (iv:=.slice io isP.length icap) (is:=isP) ?_ HAO.out HH.out
                 have e1:(W.after major).regs=lr:=by unfold Wd.after;rw [PD.out];exact HLR.out
                 have e2:(W.after major).wait=lw:=by unfold Wd.after;rw [PD.out];exact HLW.out
                 rw [e1,e2,PD.out]
                 exact TM.out
       ·--<pass
        obtain ⟨w7,rfl⟩:∃ x:World,x=wr:=⟨wr,rfl⟩
        go_wp2_with fail
        go_loopw [7,12,13] (fun a m u wr=>∃ (k:Nat) (x:Bool) (io:Option Addr) (icap:Nat) (is:List Bool) (all:List It) (vo:Option Addr) (vc:Nat) (q:List (Int × Int)),k≤W.regs.length∧u=.int .i64 k∧a=.slice io is.length icap∧m=.bool x∧CPm w wr h W (.slice io is.length icap) is g8 (g8+1) all x1 (.slice vo q.length vc) q∧ScanAt W isP qP itemsP k x is q all) (fun _ _ u _=>W.regs.length-(intOf u).toNat)
        case atStart=>exact ⟨0,false,io,icap,isP,itemsP,vo,vc,qP,Nat.zero_le _,rfl,rfl,rfl,CP.out,ScanAt.start PA.out.ok⟩
        case round=>
         obtain ⟨k,x,io,icap,is,all,vo,vc,q,hk,rfl,rfl,rfl,hC,hS⟩:=hrel
         have CQ:=Hz hC;have SC:=Hz hS
         have HR:=Hz (HH.out.same hC.K)
         obtain ⟨-,-,c2,-,-,-⟩:=HR.out.cells
         rw [HGO.out] at c2
         have pl:=HR.out.hp.lt
         have HLA:=Hz (hS.ok.alen)
         clear hC hS
         by_cases hlt:k<W.regs.length
         ·obtain ⟨_,_,e',rd,-,-⟩:=HR.out.hg.rd
          rw [HGO.out] at e'
          cases e'
          obtain ⟨gg,og,rfl,hgl,v0,v1⟩:=rd.ent k hlt
          have hokE:=HOK.out.gv (W.regs.getD k (0,0)) (by rw [List.getD_eq_getElem?_getD,List.getElem?_eq_getElem hlt];exact List.getElem_mem _)
          have hka:k<all.length:=by rw [HLA.out];exact hlt
          have hal:(all[k]'hka).1=W.regs.getD k (0,0):=by
           have h1:(all.map (·.1))[k]? = W.regs[k]? := by rw [SC.out.ok.rg]
           rw [List.getElem?_map,List.getElem?_eq_getElem hka,List.getElem?_eq_getElem hlt] at h1
           rw [List.getD_eq_getElem?_getD,List.getElem?_eq_getElem hlt]
           simpa using h1
          have D8:=CQ.out.D.cell k;have dl:=CQ.out.D.lt;have D9:=CQ.out.M.cell k;have ml:=CQ.out.M.lt
          rw [List.getElem?_map,List.getElem?_eq_getElem hka] at D8 D9
          simp only [Option.map_some] at D8 D9
          generalize W.regs.getD k (0,0)=e at *
          obtain ⟨e1,e2⟩:=e
          obtain ⟨⟨a1,d,b⟩,hit⟩:∃ t,all[k]'hka=t:=⟨_,rfl⟩
          rw [hit] at D8 D9 hal
          dsimp only at hal D8 D9
          subst hal
          have HAL:=Hz hit
          dsimp only at v0 v1
          have HEK:=Hz hokE
          have h0:=hokE.1.1;have h1:=hokE.1.2.1;have h2:=hokE.2.2.1;have h3:=hokE.2.2.2.1
          dsimp only at h0 h1 h2 h3
          obtain ⟨m1,rfl⟩:∃ m:Nat,e1=m:=⟨e1.toNat,by omega⟩
          obtain ⟨m2,rfl⟩:∃ m:Nat,e2=m:=⟨e2.toNat,by omega⟩
          have hm1:m1<is.length:=by rw [SC.out.ok.len];omega
          have hm2:m2<is.length:=by rw [SC.out.ok.len];omega
          obtain ⟨_,_,e',rdi,-,-⟩:=CQ.out.I.rd
          cases e'
          obtain ⟨gi,oi,rfl,hgi,d0⟩:=rdi.boolAt m1 hm1
          have HAT:=Hz (show atB is (m1:Int)=is.getD m1 false from atB_nat is m1)
          generalize is.getD m1 false=z at *
          have KA:=Hz ((Kz wr).alloc (.cells #[.int .i64 (m1:Int), .int .i64 (m2:Int)] 152))
          have CA:=Hz (CQ.out.same KA.out)
          have hyb:Blk (wr.alloc (.cells #[.int .i64 (m1:Int), .int .i64 (m2:Int)] 152)) wr.heap.size [.int .i64 (m1:Int), .int .i64 (m2:Int)] 152:=Blk.newAt _ rfl rfl
          have y0:(wr.alloc (.cells #[.int .i64 (m1:Int), .int .i64 (m2:Int)] 152)).cell? ⟨wr.heap.size,0,none⟩=some (.int .i64 (m1:Int)):=hyb.cell 0
          have y1:(wr.alloc (.cells #[.int .i64 (m1:Int), .int .i64 (m2:Int)] 152)).cell? ⟨wr.heap.size,0+1,none⟩=some (.int .i64 (m2:Int)):=hyb.cell 1
          clear rd rdi hokE hit hyb
          cases d
          ·go_wp2_with ((refine wpList_agg2 rfl 152 (.tmp 106) rfl (by kernel_rfl) gg (og+k*2) rfl _ _ v0 v1 ?_))
           go_roundw
           case rel=>
            exact ⟨k+1,x,_,icap,is,all,vo,vc,q,hlt,by go_num,rfl,rfl,CA.out,SC.out.skip (by rw [HLA.out];exact hlt) HAL.out (by first | rfl | simp [HAT.out])⟩
           case measure=>simp [intOf];omega
          ·cases b
           ·cases z
            ·go_wp2_with ((refine wpList_agg2 rfl 152 (.tmp 106) rfl (by kernel_rfl) gg (og+k*2) rfl _ _ v0 v1 ?_))
             go_roundw
             case rel=>
              exact ⟨k+1,x,_,icap,is,all,vo,vc,q,hlt,by go_num,rfl,rfl,CA.out,SC.out.skip (by rw [HLA.out];exact hlt) HAL.out (by first | rfl | simp [HAT.out])⟩
             case measure=>simp [intOf];omega
            ·as_aux_lemma=>
            have hq24:q.length≤24:=by have:=SC.out.ok.cnt;omega
            have X3:=CA.out.X.cell 3;have XL:=CA.out.X.lt
            simp only [List.getElem?_cons_zero,List.getElem?_cons_succ] at X3
            go_wp2_with (first | (refine wpList_agg2 rfl 152 (.tmp 106) rfl (by kernel_rfl) gg (og+k*2) rfl _ _ v0 v1 ?_) | (refine wpList_agg2 rfl 152 (.tmp 14) rfl (by kernel_rfl) wr.heap.size 0 rfl _ _ y0 y1 ?_) | (at_builtin;refine wpList_app rfl (.tmp 127) (.tmp 129) 145 rfl 152 ie (.agg #[.int .i64 0, .int .i64 0]) 2 16 Tryz.underlying145 Hi.out Hz0.out Hz1.out Hz2.out rfl (by decide) _ q.length (entV q) rfl ?ha ⟨wr.heap.size+1,0,none⟩ 1 1 [.int .i64 (m1:Int), .int .i64 (m2:Int)] rfl rfl ?hb ?hc ?hd ?he ?hf))
            case ha=>exact CQ.out.Q.keep (((Kz wr).alloc _).alloc _) (fun _ _ h=>h)
            case hb=>
             have:=news_at (wr.alloc (.cells #[.int .i64 (m1:Int), .int .i64 (m2:Int)] 152)) 152 #[.int .i64 (m1:Int), .int .i64 (m2:Int)]
             simpa using this
            case hc=>intro u hu;simp at hu;rcases hu with rfl | rfl <;> rfl
            case hd=>unfold maxLen;omega
            case he=>omega
            case hf=>
             intro v2 w2 hs2 hk2 ho2
             obtain ⟨vo2,vc2,rfl,-,-,-⟩:=hs2.rd
             have ka2:Keeps (fun _=>False) wr ((wr.alloc (.cells #[.int .i64 (m1:Int), .int .i64 (m2:Int)] 152)).alloc (.cells #[.int .i64 (m1:Int), .int .i64 (m2:Int)] 152)):=((Keeps.refl _ _).alloc _).alloc _
             have CW:=Hz (CQ.out.wait (e:=((m1:Int),(m2:Int))) ka2 hs2 hk2 (by simpa using ho2))
             have hqo:∀ b,ownB (.slice vo q.length vc) b→b<wr.heap.size:=fun b hb=>(CQ.out.Q.own hb).1
             have YB:=Hz (hk2.blk (show Blk ((wr.alloc (.cells #[.int .i64 (m1:Int), .int .i64 (m2:Int)] 152)).alloc (.cells #[.int .i64 (m1:Int), .int .i64 (m2:Int)] 152)) wr.heap.size [.int .i64 (m1:Int), .int .i64 (m2:Int)] 152 from (Blk.newAt _ rfl rfl).alloc _) (fun hb=>by have:=hqo _ hb;omega))
             have hXB:=hk2.blk (CQ.out.same ka2).X (fun hb=>by
              obtain ⟨_,c,hc⟩:=(CQ.out.same ka2).Q.own hb
              exact (CQ.out.same ka2).X.ne hc (by decide) rfl)
             have x3:=hXB.cell 3;have xl:=hXB.lt;have xf:=hXB.free 3
             simp only [List.getElem?_cons_zero,List.getElem?_cons_succ] at x3
             have YB2:=Hz (YB.out.setOther (a:=⟨x1,3,none⟩) (YB.out.ne hXB (by decide)) (.slice vo2 (q.length+1) vc2))
             clear hs2 hk2 ho2 ka2 hqo YB hXB X3 XL y0 y1 v0 v1 d0 D8 dl D9 ml c2 pl hgl hgi
             go_upto_region 22 with (fail)
             clear x3 xl xf
             generalize w2.setCell ⟨x1,3,none⟩ (.slice vo2 (q.length+1) vc2)=w3 at *
             generalize wr.heap.size=t14 at *
             have y1:=YB2.out.cell 1;have yl:=YB2.out.lt
             simp only [List.getElem?_cons_zero,List.getElem?_cons_succ] at y1
             obtain ⟨_,_,e',rdi,-,-⟩:=CW.out.I.rd
             obtain ⟨e'',-,-⟩:=Value.slice.inj e'
             cases e''
             obtain ⟨gi',oi',e'',hgi,d0⟩:=rdi.boolAt m2 hm2
             cases e''
             obtain ⟨_,cu,hgb⟩:=CW.out.I.own (k:=gi) rfl
             have fz:=hgb.free (oi+m2)
             have CX:=Hz (CW.out.alive (g:=gi) (o:=oi) (cap:=icap) rfl hm2)
             clear rdi e' hgb
             go_upto_region 23 with (fail)
             clear y1 yl d0 fz hgi
             generalize w3.setCell ⟨gi,oi+m2,none⟩ (.bool true)=w4 at *
             have HEE:=Hz (show W.clo (q ++ [((m1:Int),(m2:Int))]) (is.set m2 true)=(W.keepW is q (m2:Int)).1 from by
              have:=Wd.keep_entry (W:=W) (q:=q) (is:=is) (g:=(m1:Int)) (x:=(m2:Int)) (by omega) (by omega)
              simpa using this)
             have hgr:=Grown_c (w:=w4) (p:=x1) (q:=q ++ [((m1:Int),(m2:Int))]) (is:=is.set m2 true) (some ⟨gi,oi,none⟩) icap (CX.out.gr HH.out) HOK.out (fun f hf=>by
              rcases List.mem_append.1 hf with hf | hf
              ·exact SC.out.ok.wv f hf
              ·rw [List.mem_singleton] at hf;subst hf;exact HEK.out) (by
              obtain ⟨_,_,e',r,-,-⟩:=CX.out.I.rd
              obtain ⟨e'',-,-⟩:=Value.slice.inj e'
              cases e'';exact r) (by rw [List.length_set];exact SC.out.ok.len) hT (by
              have:=live_set SC.out.ok.live (x:=(m2:Int)) (by omega) (by omega) HEK.out.2.2
              simpa using this) (by simp;omega)
             rw [List.length_set,HEE.out] at hgr
             have HGR:=Hz hgr
             clear hgr
             go_wp2_with fail
             refine HGR.out.mono ?_
             rintro e w5 ⟨no5,nc5,rfl,hs5,hk5,ho5⟩
             have CY:=Hz (CX.out.grown hs5 hk5 ho5)
             clear hs5 hk5 ho5 HGR
             have z0':=CY.out.M.cell k;have zl:=CY.out.M.lt;have zf:=CY.out.M.free k
             rw [List.getElem?_map,List.getElem?_eq_getElem hka,HAL.out] at z0'
             simp only [Option.map_some] at z0'
             have CZ:=Hz (CY.out.moved hka HAL.out)
             have ST:=Hz (SC.out.took HOK.out hka HAL.out HAT.out)
             have eq1:=Hz (show (q ++ [((m1:Int),(m2:Int))]).length=q.length+1 by simp)
             go_wp2_with fail
             go_roundw
             case rel=>exact ⟨k+1,true,no5,nc5,_,_,vo2,vc2,_,hlt,by go_num,rfl,rfl,by rw [eq1.out];exact CZ.out,ST.out⟩
             case measure=>simp [intOf];omega
           ·go_wp2_with ((refine wpList_agg2 rfl 152 (.tmp 106) rfl (by kernel_rfl) gg (og+k*2) rfl _ _ v0 v1 ?_))
            go_roundw
            case rel=>
             exact ⟨k+1,x,_,icap,is,all,vo,vc,q,hlt,by go_num,rfl,rfl,CA.out,SC.out.skip (by rw [HLA.out];exact hlt) HAL.out (by first | rfl | simp [HAT.out])⟩
            case measure=>simp [intOf];omega
         ·obtain rfl:k=W.regs.length:=by omega
          have SD:=Hz (show ScanAt W isP qP itemsP all.length x is q all by rw [HLA.out];exact SC.out)
          go_wp2_with fail
          go_roundg (unN all+if x then 1 else 0)
          case measure=>
           have h1:=HN.out;have h2:=SC.out.fl
           simp only [if_true] at h1
           rcases h2 with ⟨rfl,rfl⟩ | ⟨rfl,h2⟩
           ·simp;omega
           ·simp;omega
          case rel=>exact ⟨x,_,icap,is,all,vo,vc,q,rfl,rfl,CQ.out,PA.out.next SD.out,Nat.le_refl _⟩
end
end
section
open Go.RowKit
def DInv (w wr:World) (p k:Nat):Prop:=∃ h O W,BM w wr p h O W∧W.T.length≤k∧∃ φ,Rep O W φ
theorem countL_none (l:List Bool):countL (l.map fun _=>false)=0:=by
 induction l with
 | nil=>rfl
 | cons a l ih=>simp [countL]
theorem mCut_cards {O:Wo} (h:(mCut O).1=0):countL (mCut O).2.cd=0:=by
 unfold mCut at h ⊢
 split at h
 ·cases h
 ·rename_i hn
  rw [if_neg hn]
  exact countL_none _
theorem mCut_code (O:Wo):(mCut O).1=0∨(mCut O).1=3:=by
 unfold mCut;split
 ·exact .inr rfl
 ·exact .inl rfl
section
variable {w w':World}
theorem BM.world {w0 w w':World} {p:Nat} {h:BH} {O:Wo} {W W':Wd} (M:BM w0 w p h O W) (t:WorldTo w h.b w' W'):∃ h',BM w0 w' p h' O W':=M.to (BothTo.world M.B t)
theorem BM.right_c {w0 w:World} {p:Nat} {h:BH} {O:Wo} {W:Wd} {φ:Int→Int} (R:Rep O W φ) (M:BM w0 w p h O W) (hT:W.T.length≤90000) :
  Calls Tryz.prog 88 #[.pointer (some ⟨p,0,none⟩)] w fun e w'=>e=.returned (.bool true)∧Keeps (fun _=>False) w w':=by
 have:=Proofs.YtjifdalflepcoacGreat.right_c R M.B hT
 rw [M.e] at this
 exact this
end
end
end Go.Proofs.YtjifdalflepcoacGreat
