/-
  Parts of the proof, merged: what the functions do, and plain laws.
-/
import Derived.Test.YtjifdalflepcoabMDesP7
import Derived.Test.YtjifdalflepcoabMDesP3
import Derived.Test.YtjifdalflepcoabMDesP6
namespace Go.Proofs.Ytjifdalflepcoab
open Go.RowKit
set_option linter.unusedVariables false
set_option linter.unusedSimpArgs false
def WCutRet (w : World) (h : RW) (W : Wd) (major : Bool) (e : Ending) (w' : World) : Prop := e = .returned (.int .i64 (W.cut major).1) ∧ WorldTo w h w' (W.cut major).2
theorem cut_refused {W : Wd} (h : W.young > W.grow - W.olds) : W.cut false = (3,W) := by unfold Wd.cut; rw [if_pos ⟨rfl,h⟩]
theorem cut_full {W : Wd} {major : Bool} (h : ¬ (major = false ∧ W.young > W.grow - W.olds)) (h2 : sumL (W.pass major).1 W.T > W.grow) : W.cut major = (3,W) := by unfold Wd.cut; rw [if_neg h,if_pos h2]
theorem cut_yes {W : Wd} {major : Bool} (h : ¬ (major = false ∧ W.young > W.grow - W.olds)) (h2 : ¬ sumL (W.pass major).1 W.T > W.grow) : W.cut major = (0,W.after major) := by unfold Wd.cut; rw [if_neg h,if_neg h2]
section
variable {w : World} {h : RW} {W : Wd}
set_option maxHeartbeats 16000000 in
set_option maxRecDepth 100000 in
theorem WCut_c (major : Bool) (H : WorldAt w h W) (hT : W.T.length ≤ 100000) :
  Calls Try.prog 77 #[.pointer (some ⟨h.p,0,none⟩), .bool major] w (WCutRet w h W major) := by
 have HH := Lib.hid H
 have hok := H.ok
 have HOK := Lib.hid hok
 obtain ⟨ib,hi,hz0,hz1,hz2⟩ := info_parts info_bool
 have hmk := fun wx => run_make_one (P := Try.prog) wx 76 4 ib (.bool false) Try.underlying76 hi hz0 rfl hz1 W.regs.length (by rw [hz2]; have := hok.hq; omega) (by have := hok.hq; omega)
 have HM := Lib.hid hmk; clear hi hz0 hz1 hz2 hmk
 obtain ⟨ie,hi,hz0,hz1,hz2⟩ := info_parts info_rent
 have Hi := Lib.hid hi; have Hz0 := Lib.hid hz0; have Hz1 := Lib.hid hz1; have Hz2 := Lib.hid hz2; clear hi hz0 hz1 hz2
 obtain ⟨no,nc,hno, -⟩ := H.ht.nth
 obtain ⟨go_,gc,hgo, -, -, -⟩ := H.hg.rd
 obtain ⟨qo,qc,hqo, -, -, -⟩ := H.hw.rd
 obtain ⟨ro,rc,hro, -, -, -⟩ := H.hr.rd
 have HNO := Lib.hid hno; have HGO := Lib.hid hgo; have HQO := Lib.hid hqo; have HRO := Lib.hid hro
 have g1 := hok.g1; have g2 := hok.g2; have uo := hok.uo; have uy := hok.uy; have m2 := hok.m2; have hq24 := hok.hq
 have y0 : 0 ≤ W.young := sumW_nonneg _ _
 have z0 : 0 ≤ W.olds := sumW_nonneg _ _
 clear H hok hno hgo hqo hro
 go_enter Try.func77,Try.ntmps77
 go_wp2_with fail
 refine (WUsed_c HH.out (by omega)).mono ?_
 rintro e w1 ⟨rfl,hk⟩
 have H1 := Lib.hid (HH.out.same hk); have K1 := Lib.hid hk
 clear hk
 obtain ⟨-, -,c2,c3, -,c5⟩ := H1.out.cells
 rw [HGO.out] at c2
 rw [HQO.out] at c3
 have pl := H1.out.hp.lt
 have hwr : IntKind.i64.wrap (W.grow - W.olds) = W.grow - W.olds := IntWalk.i64_in _ (by omega)
 have HWR := Lib.hid hwr
 by_cases hfull : major = false ∧ W.young > W.grow - W.olds
 ·obtain ⟨rfl,hf⟩ := hfull
  have HE := Lib.hid (cut_refused hf)
  have hd : decide (W.grow - W.olds < W.young) = true := by simpa using hf
  clear hf
  go_wp2_with fail
  go_ret
  exact ⟨by rw [HE.out]; rfl,by rw [HE.out]; exact WorldTo.same HH.out K1.out⟩
 ·have HF := Lib.hid hfull
  have hd : major = true ∨ decide (W.grow - W.olds < W.young) = false := by
   cases major
   ·right; simp; simp at hfull; omega
   ·left; rfl
  have hrest : Calls Try.prog 126 #[.pointer (some ⟨h.p,0,none⟩), .bool major] w1 (GrownRet w1 (W.first major)) := First_c major H1.out hT
  have HFI := Lib.hid hrest
  clear hrest hfull hwr
  go_upto_region 2 with (fail)
  refine wp_cut_over (fun i => Nat.blt 27 i && Nat.blt i 40) (fun s wx => s 39 = .bool false ∧ wx = w1) ?_ ?_
  ·intro K hK
   rcases hd with rfl | hd
   ·go_wp2_with fail
    refine ⟨by kernel_rfl, ?_⟩
    exact ⟨rfl,rfl⟩
   ·cases major
    ·go_wp2_with fail
     refine ⟨by kernel_rfl, ?_⟩
     exact ⟨rfl,rfl⟩
    ·go_wp2_with fail
     refine ⟨by kernel_rfl, ?_⟩
     exact ⟨rfl,rfl⟩
  ·intro u wx hR
   obtain ⟨e39,rfl⟩ := hR
   have e39 : u 39 = .bool false := e39
   simp (maxSteps := 2000000) only [overA,overL,List.toList_toArray,Nat.blt,Nat.beq,Nat.ble,Nat.reduceAdd,Bool.or_false,Bool.false_or,Bool.or_true,Bool.true_or,Bool.and_true,Bool.true_and,Bool.and_false,Bool.false_and,cond_true,cond_false]
   rw [e39]
   clear e39 hd c5
   go_wp2_with fail
   refine HFI.out.mono ?_
   rintro e w2 ⟨fo,fcap,rfl,hfs,hk,hfo⟩
   have H2 := Lib.hid (H1.out.same hk); have K2 := Lib.hid (K1.out.trans hk)
   have hgr := Grown_c (w := w2) (p := h.p) (q := W.wait) (is := W.first major) fo fcap H2.out.gr HOK.out (fun e he => HOK.out.wv e he) (by
    obtain ⟨_,_,e',r, -, -⟩ := hfs.rd
    cases e'; exact r) (W.first_length major) hT (fun i hi => Wd.first_live HOK.out hi) (by omega)
   have HGR := Lib.hid hgr
   clear hk hfs hfo HFI c2 c3 pl hgr H1
   go_wp2_with fail
   refine HGR.out.mono ?_
   rintro e w3 ⟨io,icap,rfl,his,hk,hio⟩
   have H3 := Lib.hid (H2.out.same hk); have K3 := Lib.hid (K2.out.trans hk)
   have HIS := Lib.hid his
   have HIO := Lib.hid (fun k hk' => Nat.le_trans K2.out.size (hio k hk'))
   clear hk his hio HGR H2
   have PA := Lib.hid (PassAt.start HOK.out major)
   generalize W.clo W.wait (W.first major) = is0 at *
   obtain ⟨-, -,c2,c3, -,c5⟩ := H3.out.cells
   rw [HGO.out] at c2
   rw [HQO.out] at c3
   have pl := H3.out.hp.lt
   have M1 := Lib.hid (HM.out w3)
   have m1 := M1.out
   have m2' := HM.out (w3.alloc (.cells (Array.replicate W.regs.length (.bool false)) 4))
   go_wp2_with fail
   generalize hwb : (w3.alloc (.cells (Array.replicate W.regs.length (.bool false)) 4)).alloc (.cells (Array.replicate W.regs.length (.bool false)) 4) = wb
   have KB := Lib.hid (show Keeps (fun _ => False) w3 wb by rw [← hwb]; exact ((Keeps.refl _ _).alloc _).alloc _)
   have B8 := Lib.hid (show Blk wb w3.heap.size ((deadK is0 W.regs 0).map Value.bool) 4 by rw [← hwb,deadK_zero]; exact (Blk.newAt _ rfl (by simp)).alloc _)
   have B9 := Lib.hid (show Blk wb (w3.heap.size + 1) (List.replicate W.regs.length (.bool false)) 4 by rw [← hwb]; exact Blk.newAt _ (by simp) (by simp))
   clear hwb m1 m2' M1
   have H4 := Lib.hid (H3.out.same KB.out)
   have K4 := Lib.hid (K3.out.trans KB.out)
   have I4 := Lib.hid (HIS.out.keep KB.out (fun _ _ h => h))
   have IL := Lib.hid (fun k hk => (HIS.out.own (k := k) hk).1)
   clear c2 c3 c5 pl H3 HIS KB
   have HG8 := Lib.hid (show w.heap.size ≤ w3.heap.size from K3.out.size)
   generalize w3.heap.size = g8 at *
   have HL0 := Lib.hid PA.out.ok.len
   go_loopw [10] (fun u wr => ∃ k : Nat,k ≤ W.regs.length ∧ u = .int .i64 k ∧ Keeps (· = g8) wb wr ∧ Blk wr g8 ((deadK is0 W.regs k).map Value.bool) 4) (fun u _ => W.regs.length - (intOf u).toNat)
   case atStart => exact ⟨0,Nat.zero_le _,rfl,Keeps.refl _ _,B8.out⟩
   case round =>
    obtain ⟨k,hk,rfl,hKr,hB⟩ := hrel
    have KR := Lib.hid hKr; have BR := Lib.hid hB
    have hne8 : ∀ b,h.Own b → b ≠ g8 := fun b hb e => by
     obtain ⟨_,c,T,hc,hT⟩ := H4.out.own_type hb
     subst e
     refine hc.ne B8.out ?_ rfl
     rcases hT with rfl | rfl | rfl | rfl <;> decide
    have HR := Lib.hid (H4.out.keep hKr hne8)
    obtain ⟨-, -,c2,c3, -,c5⟩ := HR.out.cells
    rw [HGO.out] at c2
    rw [HQO.out] at c3
    have pl := HR.out.hp.lt
    have hni : ∀ b,ownB (.slice io is0.length icap) b → b ≠ g8 := fun b hb e => by have := IL.out b hb; omega
    have IR := Lib.hid (I4.out.keep hKr hni)
    clear hKr hB hne8 hni
    by_cases hlt : k < W.regs.length
    ·obtain ⟨_,_,e',rd, -, -⟩ := HR.out.hg.rd
     rw [HGO.out] at e'
     cases e'
     obtain ⟨gg,og,rfl,hgl,v0,v1⟩ := rd.ent k hlt
     have hokE := HOK.out.gv (W.regs.getD k (0,0)) (by rw [List.getD_eq_getElem?_getD,List.getElem?_eq_getElem hlt]; exact List.getElem_mem _)
     have HST := Lib.hid (deadK_step is0 W.regs hlt)
     have hlv := hokE.2.2
     generalize W.regs.getD k (0,0) = e at *
     obtain ⟨e1,e2⟩ := e
     dsimp only at v0 v1 hlv
     have h0 := hlv.1; have h1 := hlv.2.1
     obtain ⟨m,rfl⟩ : ∃ m : Nat,e2 = m := ⟨e2.toNat,by omega⟩
     obtain ⟨_,_,e',rdi, -, -⟩ := IR.out.rd
     cases e'
     have hm : m < is0.length := by have := HL0.out; omega
     obtain ⟨gi,oi,rfl,hgi,d0⟩ := rdi.boolAt m hm
     have HAT := Lib.hid (show atB is0 (m : Int) = is0.getD m false from atB_nat is0 m)
     generalize is0.getD m false = z at *
     have x0 := BR.out.cell k; have xl := BR.out.lt; have xf := BR.out.free k
     rw [List.getElem?_map,List.getElem?_eq_getElem (by rw [deadK_len]; exact hlt)] at x0
     simp only [Option.map_some] at x0
     generalize (deadK is0 W.regs k)[k]'(by rw [deadK_len]; exact hlt) = b0 at x0
     clear rd rdi hokE hlv
     go_wp2_with fail
     go_roundw
     case rel =>
      refine ⟨k + 1,hlt,by go_num,KR.out.setCell (p := ⟨g8,k,none⟩) (.inl rfl) _, ?_⟩
      rw [← HST.out,List.map_set]
      have := BR.out.setSame k (.bool (!z))
      rw [HAT.out]
      exact this
     case measure => simp [intOf]; omega
    ·obtain rfl : k = W.regs.length := by omega
     have KW := Lib.hid (show Keeps (fun _ => False) w wr from K4.out.then KR.out (fun k hk => .inr (by have := HG8.out; omega)))
     obtain ⟨c0,c1, -, -,c4, -⟩ := HR.out.cells
     rw [HNO.out] at c0
     rw [HRO.out] at c1
     rw [deadK_all] at BR
     have B9R := Lib.hid (KR.out.blk B9.out (by omega))
     have HCL := Lib.hid (show Rd wr qo (entV W.wait) by
      obtain ⟨_,_,e',r, -, -⟩ := HR.out.hw.rd
      rw [HQO.out] at e'
      cases e'; exact r)
     go_wp2_with (first | (refine wpList_agg rfl 150 (.tmp 82) rfl [.slice no W.T.length nc, .slice ro W.roots.length rc, .slice go_ W.regs.length gc, .slice qo W.wait.length qc, .int .i64 W.most, .int .i64 W.grow] (by kernel_rfl) h.p 0 rfl (rangeAt_cons c0 (rangeAt_cons c1 (rangeAt_cons c2 (rangeAt_cons c3 (rangeAt_cons c4 (rangeAt_cons c5 rangeAt_nil)))))) ?_) | (at_builtin; refine wpList_appR rfl (.tmp 84) (.tmp 88) 148 rfl 159 ie (.agg #[.int .i64 0, .int .i64 0]) 2 16 Try.underlying148 Hi.out Hz0.out Hz1.out Hz2.out rfl (by decide) _ 0 [] rfl ?ha qo W.wait.length qc (entV W.wait) rfl ?hb ?hc ?hd ?he ?hf ?hg))
     case ha => exact ⟨by simp, .inr ⟨wr.heap.size + 1,0,0,[],rfl,Blk.newAt _ (by simp) rfl,Nat.le_refl _,Nat.zero_le _,by simp,by simp⟩⟩
     case hb => exact entV_length _
     case hc => exact HCL.out.keep (((Keeps.refl (fun _ => False) wr).alloc _).alloc _) (fun _ _ _ h => h)
     case hd => intro u hu; simp [entV] at hu; rcases hu with ⟨_,_,_,rfl | rfl⟩ <;> rfl
     case he => unfold maxLen; omega
     case hf => omega
     case hg =>
      intro v2 w5 hs2 hk2 ho2
      obtain ⟨vo,vc,hv2, -, -, -⟩ := hs2.rd
      have hka : Keeps (fun _ => False) wr ((wr.alloc (.cells #[.slice no W.T.length nc, .slice ro W.roots.length rc, .slice go_ W.regs.length gc, .slice qo W.wait.length qc, .int .i64 W.most, .int .i64 W.grow] 150)).alloc (.cells #[] 159)) := ((Keeps.refl _ _).alloc _).alloc _
      have hX : Blk ((wr.alloc (.cells #[.slice no W.T.length nc, .slice ro W.roots.length rc, .slice go_ W.regs.length gc, .slice qo W.wait.length qc, .int .i64 W.most, .int .i64 W.grow] 150)).alloc (.cells #[] 159)) wr.heap.size [.slice no W.T.length nc, .slice ro W.roots.length rc, .slice go_ W.regs.length gc, .slice qo W.wait.length qc, .int .i64 W.most, .int .i64 W.grow] 150 := (Blk.newAt _ rfl rfl).alloc _
      have hX2 := hk2.blk hX (by simp [ownB,Value.ownBlock])
      have hK5 : Keeps (fun _ => False) wr w5 := hka.then hk2 (fun k hk => .inr (by simp [ownB,Value.ownBlock] at hk; omega))
      have ho5 : ∀ k,ownB v2 k → wr.heap.size ≤ k := fun k hk => by
       rcases ho2 k hk with h | h
       ·simp [ownB,Value.ownBlock] at h; omega
       ·omega
      try rw [Nat.zero_add] at hs2 hv2
      try rw [List.nil_append] at hs2
      subst hv2
      have hset := (Keeps.refl (· = wr.heap.size) w5).setCell (p := ⟨wr.heap.size,3,none⟩) (.inl rfl) (.slice vo W.wait.length vc)
      have hnx : ∀ {b : Nat} {c : List Value} {T : TypeId},Blk w5 b c T → T ≠ 150 → ¬ b = wr.heap.size := fun hb hT => hb.ne hX2 hT
      have CP := Lib.hid (show CPm w (w5.setCell ⟨wr.heap.size,3,none⟩ (.slice vo W.wait.length vc)) h W (.slice io is0.length icap) is0 g8 (g8 + 1) (itemsM atB is0 W.regs) wr.heap.size (.slice vo W.wait.length vc) W.wait by
       have e8 : (itemsM atB is0 W.regs).map (fun i => Value.bool i.2.1) = ((itemsM atB is0 W.regs).map fun i => i.2.1).map Value.bool := by simp
       have e9 : (itemsM atB is0 W.regs).map (fun i => Value.bool i.2.2) = List.replicate W.regs.length (.bool false) := by
        rw [List.eq_replicate_iff]
        refine ⟨by simp [itemsM],fun b hb => ?_⟩
        simp [itemsM] at hb
        exact hb.2.symm
       have I5 := IR.out.keep hK5 (fun _ _ h => h)
       refine ⟨(KW.out.trans hK5).then hset (fun k hk => .inr (by rw [hk]; exact KW.out.size)),I5.keep hset (fun b hb => by obtain ⟨_,c,hc⟩ := I5.own hb; exact hnx hc (by decide)), ?_, ?_, ?_,hs2.keep hset (fun b hb => by obtain ⟨_,c,hc⟩ := hs2.own hb; exact hnx hc (by decide)),fun hb => by have := IL.out g8 hb; omega,fun hb => by have := IL.out _ hb; omega,by omega,fun k hk => HIO.out k hk,HG8.out,by have := HG8.out; omega,KW.out.size,fun k hk => Nat.le_trans KW.out.size (ho5 k hk)⟩
       ·rw [e8]; have b := hK5.blk BR.out (fun h => h); exact hset.blk b (hnx b (by decide))
       ·rw [e9]; have b := hK5.blk B9R.out (fun h => h); exact hset.blk b (hnx b (by decide))
       ·rw [HNO.out,HRO.out,HGO.out]
        simpa using hX2.setSame 3 (.slice vo W.wait.length vc))
      have x3 := hX2.cell 3; have xl := hX2.lt; have xf := hX2.free 3
      simp only [List.getElem?_cons_zero,List.getElem?_cons_succ] at x3
      clear hs2 hk2 ho2 hka hX hX2 hK5 ho5 hset hnx c0 c1 c2 c3 c4 c5 pl HR IR BR B9R HCL I4 IL KR KW B8 B9 K4 H4
      go_wp2_with fail
      generalize wr.heap.size = x1 at *
      generalize w5.setCell ⟨x1,3,none⟩ (.slice vo W.wait.length vc) = w6 at *
      clear x3 xl xf
      go_loopg [7,12] (unN (itemsM atB is0 W.regs) + 1) (fun n a m wr => ∃ (x : Bool) (io : Option Addr) (icap : Nat) (is : List Bool) (items : List It) (vo : Option Addr) (vc : Nat) (q : List (Int × Int)),a = .slice io is.length icap ∧ m = .bool x ∧ CPm w wr h W (.slice io is.length icap) is g8 (g8 + 1) items x1 (.slice vo q.length vc) q ∧ PassAt W major x is q items ∧ unN items + (if x then 1 else 0) ≤ n)
      case atStart => exact ⟨true,io,icap,is0,_,vo,vc,W.wait,rfl,rfl,CP.out,PA.out,Nat.le_refl _⟩
      case round =>
       clear CP PA
       obtain ⟨x,io,icap,isP,itemsP,vo,vc,qP,rfl,rfl,hC,hP,hn⟩ := hrel
       have CP := Lib.hid hC; have PA := Lib.hid hP; have HN := Lib.hid hn
       clear hC hP hn
       cases x
       ·--<rest
        obtain ⟨w7,rfl⟩ : ∃ x : World,x = wr := ⟨wr,rfl⟩
        have PD := Lib.hid PA.out.done
        have HLI := Lib.hid PA.out.ok.alen
        have HLQ := Lib.hid (show qP.length ≤ 24 by have := PA.out.ok.cnt; omega)
        have hlp := PA.out.ok.len
        have HLP := Lib.hid hlp
        have H7 := Lib.hid (HH.out.same CP.out.K)
        obtain ⟨c0, -, -, -, -, -⟩ := H7.out.cells
        rw [HNO.out] at c0
        have pl := H7.out.hp.lt
        clear hlp
        go_wp2_with fail
        go_loopw [15,16] (fun s u wr => ∃ k : Nat,k ≤ W.T.length ∧ u = .int .i64 k ∧ s = .int .i64 (sumK isP W.T k) ∧ Keeps (fun _ => False) w7 wr) (fun _ u _ => W.T.length - (intOf u).toNat)
        case atStart => exact ⟨0,Nat.zero_le _,rfl,by rw [sumK_zero],Keeps.refl _ _⟩
        case round =>
         clear c0 pl
         obtain ⟨k,hk,rfl,rfl,hK⟩ := hrel
         have KR := Lib.hid hK
         have CR := Lib.hid (CP.out.same hK)
         have HR := Lib.hid (H7.out.same hK)
         obtain ⟨c0, -, -, -, -,c5⟩ := HR.out.cells
         rw [HNO.out] at c0
         have pl := HR.out.hp.lt
         clear hK
         by_cases hlt : k < W.T.length
         ·obtain ⟨_,_,e',N⟩ := HR.out.ht.nth
          rw [HNO.out] at e'
          cases e'
          obtain ⟨g,o,fo,fc,rfl, -,hgl,t0,t1,t2,t3, -, -,hml⟩ := N k hlt
          have hst := sumK_step (is := isP) hlt
          have hb1 := sumK_le HOK.out PA.out.ok.live k (by omega)
          have hb2 := sumK_le HOK.out PA.out.ok.live (k + 1) (by omega)
          generalize W.T.getD k Th.none = t at *
          obtain ⟨tk,tf,tol,tde⟩ := t
          dsimp only [Th.words] at t0 t1 t2 t3 hml hst
          obtain ⟨_,_,e',rdi, -, -⟩ := CR.out.I.rd
          cases e'
          obtain ⟨gi,oi,rfl,hgi,d0⟩ := rdi.boolAt k (by rw [HLP.out]; exact hlt)
          have hki : k < isP.length := by rw [HLP.out]; exact hlt
          generalize isP.getD k false = z at *
          obtain ⟨a,ha⟩ : ∃ a,sumK isP W.T k = a := ⟨_,rfl⟩
          obtain ⟨a2,ha2⟩ : ∃ a,sumK isP W.T (k + 1) = a := ⟨_,rfl⟩
          rw [ha,ha2] at hst
          rw [ha] at hb1
          rw [ha2] at hb2
          rw [ha]
          have HA2 := Lib.hid ha2
          clear N rdi ha ha2
          cases z
          ·simp only [Bool.false_eq_true,if_false,Int.add_zero] at hst
           subst hst
           go_wp2_with fail
           go_roundw
           case rel => exact ⟨k + 1,hlt,by go_num,by rw [HA2.out],KR.out⟩
           case measure => simp [intOf]; omega
          ·simp only [if_true] at hst
           have hw1 : IntKind.i64.wrap (1 + (tf.length : Int)) = 1 + tf.length := IntWalk.i64_in _ (by omega)
           have hw2 : IntKind.i64.wrap (a + (1 + (tf.length : Int))) = a + (1 + tf.length) := IntWalk.i64_in _ (by omega)
           have HST := Lib.hid hst
           clear hst
           go_wp2_with fail
           go_roundw
           case rel => exact ⟨k + 1,hlt,by go_num,by rw [HA2.out,HST.out],KR.out⟩
           case measure => simp [intOf]; omega
         ·obtain rfl : k = W.T.length := by omega
          rw [sumK_all]
          have hb := sumK_le HOK.out PA.out.ok.live W.T.length (Nat.le_refl _)
          rw [sumK_all] at hb
          have HFU := Lib.hid (fun h2 => cut_full (W := W) (major := major) HF.out h2)
          have HYE := Lib.hid (fun h2 => cut_yes (W := W) (major := major) HF.out h2)
          have HAF := Lib.hid (fun h2 => Wd.ok.after (W := W) HOK.out (major := major) h2)
          rw [PD.out] at HFU HYE HAF
          dsimp only at HFU HYE HAF
          generalize sumL isP W.T = a at *
          by_cases hgr : a > W.grow
          ·have HE := Lib.hid (HFU.out hgr)
           have hd : decide (W.grow < a) = true := by simpa using hgr
           clear hgr
           go_wp2_with fail
           go_ret
           exact ⟨by rw [HE.out]; rfl,by rw [HE.out]; exact WorldTo.same HH.out CR.out.K⟩
          ·have HE := Lib.hid (HYE.out hgr)
           have HAO := Lib.hid (HAF.out (by omega))
           have hd : decide (W.grow < a) = false := by simpa using hgr
           clear hgr HFU HYE HAF
           obtain ⟨w8,rfl⟩ : ∃ x : World,x = wr := ⟨wr,rfl⟩
           go_wp2_with fail
           generalize hnr : newRegs atB nowW isP = NR at *
           have HNR := Lib.hid hnr
           clear hnr
           go_loopw [17,19] (fun s u wr => ∃ (k : Nat) (vo2 : Option Addr) (vc2 : Nat),k ≤ W.regs.length ∧ u = .int .i64 k ∧ s = .slice vo2 (NR (itemsP.take k)).length vc2 ∧ Keeps (fun _ => False) w8 wr ∧ Sl wr 159 2 (.slice vo2 (NR (itemsP.take k)).length vc2) (NR (itemsP.take k)).length (entV (NR (itemsP.take k))) ∧ ∀ b,ownB (.slice vo2 (NR (itemsP.take k)).length vc2) b → w8.heap.size ≤ b) (fun _ u _ => W.regs.length - (intOf u).toNat)
           case atStart =>
            have e0 : NR (itemsP.take 0) = [] := by rw [← HNR.out]; rfl
            exact ⟨0,none,0,Nat.zero_le _,rfl,by rw [e0]; rfl,Keeps.refl _ _,by rw [e0]; exact Sl.nil _ _ _,fun b hb => by rw [e0] at hb; exact (nil_own hb).elim⟩
           case round =>
            clear c0 c5 pl
            obtain ⟨k,vo2,vc2,hk,rfl,rfl,hK,hS,hO⟩ := hrel
            have KQ := Lib.hid hK; have SQ := Lib.hid hS; have OQ := Lib.hid hO
            have CQ := Lib.hid (CR.out.same hK)
            have HQR := Lib.hid (HR.out.same hK)
            obtain ⟨-, -,c2, -, -, -⟩ := HQR.out.cells
            rw [HGO.out] at c2
            have pl := HQR.out.hp.lt
            clear hK hS hO
            by_cases hlt : k < W.regs.length
            ·obtain ⟨_,_,e',rd, -, -⟩ := HQR.out.hg.rd
             rw [HGO.out] at e'
             cases e'
             obtain ⟨gg,og,rfl,hgl,v0,v1⟩ := rd.ent k hlt
             have hokE := HOK.out.gv (W.regs.getD k (0,0)) (by rw [List.getD_eq_getElem?_getD,List.getElem?_eq_getElem hlt]; exact List.getElem_mem _)
             have hka : k < itemsP.length := by rw [HLI.out]; exact hlt
             have hal : (itemsP[k]'hka).1 = W.regs.getD k (0,0) := by
              have h1 : (itemsP.map (·.1))[k]? = W.regs[k]? := by rw [PA.out.ok.rg]
              rw [List.getElem?_map,List.getElem?_eq_getElem hka,List.getElem?_eq_getElem hlt] at h1
              rw [List.getD_eq_getElem?_getD,List.getElem?_eq_getElem hlt]
              simpa using h1
             have D8 := CQ.out.D.cell k; have dl := CQ.out.D.lt
             rw [List.getElem?_map,List.getElem?_eq_getElem hka] at D8
             simp only [Option.map_some] at D8
             have htk := newRegs_take (is := isP) hka
             rw [HNR.out] at htk
             have hll : (NR (itemsP.take k)).length ≤ 24 := by
              have h1 := newRegs_len isP (itemsP.take k)
              rw [HNR.out] at h1
              simp at h1; omega
             generalize W.regs.getD k (0,0) = e at *
             obtain ⟨e1,e2⟩ := e
             obtain ⟨⟨a1,d,b⟩,hit⟩ : ∃ t,itemsP[k]'hka = t := ⟨_,rfl⟩
             rw [hit] at D8 hal htk
             dsimp only at hal D8 htk
             subst hal
             dsimp only at v0 v1 htk
             have h0 := hokE.1.1; have h1 := hokE.1.2.1
             dsimp only at h0 h1
             obtain ⟨m1,rfl⟩ : ∃ m : Nat,e1 = m := ⟨e1.toNat,by omega⟩
             have hm1 : m1 < isP.length := by rw [HLP.out]; omega
             obtain ⟨_,_,e',rdi, -, -⟩ := CQ.out.I.rd
             cases e'
             obtain ⟨gi,oi,rfl,hgi,d0⟩ := rdi.boolAt m1 hm1
             have hat := atB_nat isP m1
             rw [hat] at htk
             have HTK := Lib.hid htk
             generalize isP.getD m1 false = z at *
             clear rd rdi hokE hit htk hat
             cases d
             ·cases z
              ·go_wp2_with fail
               go_roundw
               case rel => exact ⟨k + 1,vo2,vc2,hlt,by go_num,by rw [HTK.out]; simp,KQ.out,by rw [HTK.out]; simpa using SQ.out,by rw [HTK.out]; simpa using OQ.out⟩
               case measure => simp [intOf]; omega
              ·obtain ⟨lr,hlr⟩ : ∃ l,NR (itemsP.take k) = l := ⟨_,rfl⟩
               rw [hlr] at SQ OQ HTK hll
               rw [hlr]
               have HT2 := Lib.hid (show NR (itemsP.take (k + 1)) = lr ++ [((m1 : Int),e2)] from HTK.out)
               clear hlr HTK
               go_wp2_with (first | (refine wpList_agg2 rfl 159 (.tmp 205) rfl (by kernel_rfl) gg (og + k * 2) rfl _ _ v0 v1 ?_) | (at_builtin; refine wpList_app rfl (.tmp 199) (.tmp 207) 148 rfl 159 ie (.agg #[.int .i64 0, .int .i64 0]) 2 16 Try.underlying148 Hi.out Hz0.out Hz1.out Hz2.out rfl (by decide) _ lr.length (entV lr) rfl ?ha ⟨wr.heap.size,0,none⟩ 1 1 [.int .i64 (m1 : Int), .int .i64 e2] rfl rfl ?hb ?hc ?hd ?he ?hf))
               case ha => exact SQ.out.keep ((Keeps.refl (fun _ => False) wr).alloc _) (fun _ _ h => h)
               case hb => exact news_at wr 159 _
               case hc => intro u hu; simp at hu; rcases hu with rfl | rfl <;> rfl
               case hd => unfold maxLen; omega
               case he => omega
               case hf =>
                intro v2 w2 hs2 hk2 ho2
                obtain ⟨ao2,ac2,rfl, -, -, -⟩ := hs2.rd
                have ka := (Keeps.refl (fun _ => False) wr).alloc (.cells #[.int .i64 (m1 : Int), .int .i64 e2] 159)
                have KN := Lib.hid (show Keeps (fun _ => False) w8 w2 from (KQ.out.trans ka).then hk2 (fun j hj => .inr (OQ.out j hj)))
                have ON := Lib.hid (show ∀ b,ownB (.slice ao2 (lr.length + 1) ac2) b → w8.heap.size ≤ b from fun b hb => by
                 rcases ho2 b hb with h1 | h1
                 ·exact OQ.out b h1
                 ·have := KQ.out.size; first | omega | (simp at h1; omega))
                have e1 : (lr ++ [((m1 : Int),e2)]).length = lr.length + 1 := by simp
                have e2' : entV (lr ++ [((m1 : Int),e2)]) = entV lr ++ [.int .i64 (m1 : Int), .int .i64 e2] := by simp [entV]
                have SN := Lib.hid (show Sl w2 159 2 (.slice ao2 (lr ++ [((m1 : Int),e2)]).length ac2) (lr ++ [((m1 : Int),e2)]).length (entV (lr ++ [((m1 : Int),e2)])) by rw [e1,e2']; exact hs2)
                have E1 := Lib.hid e1
                clear hs2 hk2 ho2 ka e1 e2'
                go_wp2_with fail
                go_roundw
                case rel => exact ⟨k + 1,ao2,ac2,hlt,by go_num,by rw [HT2.out,E1.out],KN.out,by rw [HT2.out]; exact SN.out,by rw [HT2.out,E1.out]; exact ON.out⟩
                case measure => simp [intOf]; omega
             ·go_wp2_with fail
              go_roundw
              case rel => exact ⟨k + 1,vo2,vc2,hlt,by go_num,by rw [HTK.out]; simp,KQ.out,by rw [HTK.out]; simpa using SQ.out,by rw [HTK.out]; simpa using OQ.out⟩
              case measure => simp [intOf]; omega
            ·obtain rfl : k = W.regs.length := by omega
             have htl : NR (itemsP.take W.regs.length) = newRegs atB nowW isP itemsP := by rw [← HNR.out,List.take_of_length_le (by rw [HLI.out]; exact Nat.le_refl _)]
             obtain ⟨lr,hlr⟩ : ∃ l,newRegs atB nowW isP itemsP = l := ⟨_,rfl⟩
             rw [htl,hlr] at SQ OQ
             rw [htl,hlr]
             have HLR := Lib.hid hlr
             clear htl hlr
             obtain ⟨w9,rfl⟩ : ∃ x : World,x = wr := ⟨wr,rfl⟩
             go_wp2_with fail
             generalize hnw : newWait atB nowW isP = NW at *
             have HNW := Lib.hid hnw
             clear hnw
             have CW9 := Lib.hid (CR.out.same KQ.out)
             have HW9 := Lib.hid (HR.out.same KQ.out)
             go_loopw [18,20] (fun s u wr => ∃ (k : Nat) (vo3 : Option Addr) (vc3 : Nat),k ≤ qP.length ∧ u = .int .i64 k ∧ s = .slice vo3 (NW (qP.take k)).length vc3 ∧ Keeps (fun _ => False) w9 wr ∧ Sl wr 159 2 (.slice vo3 (NW (qP.take k)).length vc3) (NW (qP.take k)).length (entV (NW (qP.take k))) ∧ ∀ b,ownB (.slice vo3 (NW (qP.take k)).length vc3) b → w9.heap.size ≤ b) (fun _ u _ => qP.length - (intOf u).toNat)
             case atStart =>
              have e0 : NW (qP.take 0) = [] := by rw [← HNW.out]; rfl
              exact ⟨0,none,0,Nat.zero_le _,rfl,by rw [e0]; rfl,Keeps.refl _ _,by rw [e0]; exact Sl.nil _ _ _,fun b hb => by rw [e0] at hb; exact (nil_own hb).elim⟩
             case round =>
              clear c2 pl
              obtain ⟨k,vo3,vc3,hk,rfl,rfl,hK,hS,hO⟩ := hrel
              have KW := Lib.hid hK; have SW := Lib.hid hS; have OW := Lib.hid hO
              have CQ := Lib.hid (CW9.out.same hK)
              have x3 := CQ.out.X.cell 3; have xl := CQ.out.X.lt
              simp only [List.getElem?_cons_zero,List.getElem?_cons_succ] at x3
              have hq24' := HLQ.out
              clear hK hS hO
              by_cases hlt : k < qP.length
              ·obtain ⟨_,_,e',rd, -, -⟩ := CQ.out.Q.rd
               cases e'
               obtain ⟨gg,og,rfl,hgl,v0,v1⟩ := rd.ent k hlt
               have hokE := PA.out.ok.wv (qP.getD k (0,0)) (by rw [List.getD_eq_getElem?_getD,List.getElem?_eq_getElem hlt]; exact List.getElem_mem _)
               have htk := newWait_take (is := isP) hlt
               have hge : qP[k]'hlt = qP.getD k (0,0) := by rw [List.getD_eq_getElem?_getD,List.getElem?_eq_getElem hlt]; rfl
               rw [HNW.out,hge] at htk
               have hll : (NW (qP.take k)).length ≤ 24 := by
                have h1 := newWait_len isP (qP.take k)
                rw [HNW.out] at h1
                simp at h1; omega
               generalize qP.getD k (0,0) = e at *
               obtain ⟨e1,e2⟩ := e
               dsimp only at v0 v1 htk
               have h0 := hokE.1.1; have h1 := hokE.1.2.1
               dsimp only at h0 h1
               obtain ⟨m1,rfl⟩ : ∃ m : Nat,e1 = m := ⟨e1.toNat,by omega⟩
               have hm1 : m1 < isP.length := by rw [HLP.out]; omega
               obtain ⟨_,_,e',rdi, -, -⟩ := CQ.out.I.rd
               cases e'
               obtain ⟨gi,oi,rfl,hgi,d0⟩ := rdi.boolAt m1 hm1
               have hat := atB_nat isP m1
               rw [hat] at htk
               have HTK := Lib.hid htk
               generalize isP.getD m1 false = z at *
               clear rd rdi hokE htk hat hge
               cases z
               ·go_wp2_with fail
                go_roundw
                case rel => exact ⟨k + 1,vo3,vc3,hlt,by go_num,by rw [HTK.out]; simp,KW.out,by rw [HTK.out]; simpa using SW.out,by rw [HTK.out]; simpa using OW.out⟩
                case measure => simp [intOf]; omega
               ·obtain ⟨lw,hlw⟩ : ∃ l,NW (qP.take k) = l := ⟨_,rfl⟩
                rw [hlw] at SW OW HTK hll
                rw [hlw]
                have HT2 := Lib.hid (show NW (qP.take (k + 1)) = lw ++ [((m1 : Int),e2)] from HTK.out)
                clear hlw HTK
                go_wp2_with (first | (refine wpList_agg2 rfl 159 (.tmp 229) rfl (by kernel_rfl) gg (og + k * 2) rfl _ _ v0 v1 ?_) | (at_builtin; refine wpList_app rfl (.tmp 225) (.tmp 231) 148 rfl 159 ie (.agg #[.int .i64 0, .int .i64 0]) 2 16 Try.underlying148 Hi.out Hz0.out Hz1.out Hz2.out rfl (by decide) _ lw.length (entV lw) rfl ?ha ⟨wr.heap.size,0,none⟩ 1 1 [.int .i64 (m1 : Int), .int .i64 e2] rfl rfl ?hb ?hc ?hd ?he ?hf))
                case ha => exact SW.out.keep ((Keeps.refl (fun _ => False) wr).alloc _) (fun _ _ h => h)
                case hb => exact news_at wr 159 _
                case hc => intro u hu; simp at hu; rcases hu with rfl | rfl <;> rfl
                case hd => unfold maxLen; omega
                case he => omega
                case hf =>
                 intro v2 w2 hs2 hk2 ho2
                 obtain ⟨ao2,ac2,rfl, -, -, -⟩ := hs2.rd
                 have ka := (Keeps.refl (fun _ => False) wr).alloc (.cells #[.int .i64 (m1 : Int), .int .i64 e2] 159)
                 have KN := Lib.hid (show Keeps (fun _ => False) w9 w2 from (KW.out.trans ka).then hk2 (fun j hj => .inr (OW.out j hj)))
                 have ON := Lib.hid (show ∀ b,ownB (.slice ao2 (lw.length + 1) ac2) b → w9.heap.size ≤ b from fun b hb => by
                  rcases ho2 b hb with h1 | h1
                  ·exact OW.out b h1
                  ·have := KW.out.size; first | omega | (simp at h1; omega))
                 have e1 : (lw ++ [((m1 : Int),e2)]).length = lw.length + 1 := by simp
                 have e2' : entV (lw ++ [((m1 : Int),e2)]) = entV lw ++ [.int .i64 (m1 : Int), .int .i64 e2] := by simp [entV]
                 have SN := Lib.hid (show Sl w2 159 2 (.slice ao2 (lw ++ [((m1 : Int),e2)]).length ac2) (lw ++ [((m1 : Int),e2)]).length (entV (lw ++ [((m1 : Int),e2)])) by rw [e1,e2']; exact hs2)
                 have E1 := Lib.hid e1
                 clear hs2 hk2 ho2 ka e1 e2'
                 go_wp2_with fail
                 go_roundw
                 case rel => exact ⟨k + 1,ao2,ac2,hlt,by go_num,by rw [HT2.out,E1.out],KN.out,by rw [HT2.out]; exact SN.out,by rw [HT2.out,E1.out]; exact ON.out⟩
                 case measure => simp [intOf]; omega
              ·obtain rfl : k = qP.length := by omega
               have htl : NW (qP.take qP.length) = newWait atB nowW isP qP := by rw [← HNW.out,List.take_length]
               obtain ⟨lw,hlw⟩ : ∃ l,newWait atB nowW isP qP = l := ⟨_,rfl⟩
               rw [htl,hlw] at SW OW
               rw [htl,hlw]
               have HLW := Lib.hid hlw
               clear htl hlw
               have HRR := Lib.hid (HW9.out.same KW.out)
               have SQ2 := Lib.hid (SQ.out.keep KW.out (fun _ _ h => h))
               have SQL := Lib.hid (fun b hb => (SQ.out.own (k := b) hb).1)
               obtain ⟨-, -,c2,c3, -, -⟩ := HRR.out.cells
               rw [HGO.out] at c2
               rw [HQO.out] at c3
               have pl := HRR.out.hp.lt; have f2 := HRR.out.hp.free 2; have f3 := HRR.out.hp.free 3
               have TM := Lib.hid (show TMm w ((wr.setCell ⟨h.p,2,none⟩ (.slice vo2 lr.length vc2)).setCell ⟨h.p,3,none⟩ (.slice vo3 lw.length vc3)) h W (.slice vo2 lr.length vc2) (.slice vo3 lw.length vc3) lr lw h.F (cutK isP W.T 0) (.slice io isP.length icap) isP by
                rw [cutK_zero]
                have set := ((Keeps.refl (· = h.p) wr).setCell (p := ⟨h.p,2,none⟩) (.inl rfl) (.slice vo2 lr.length vc2)).setCell (p := ⟨h.p,3,none⟩) (.inl rfl) (.slice vo3 lw.length vc3)
                have nx : ∀ {b : Nat} {c : List Value} {T : TypeId},Blk wr b c T → T ≠ 150 → ¬ b = h.p := fun hb hT => hb.ne HRR.out.hp hT
                have s8 := CR.out.K.size; have s9 := KQ.out.size
                refine ⟨by simpa using (HRR.out.hp.setSame 2 _).setSame 3 _,HRR.out.ht.keep set (fun b hb _ => ?_) (fun b hb => ?_),HRR.out.hr.keep set (fun b hb => ?_),SQ2.out.keep set (fun b hb => ?_),SW.out.keep set (fun b hb => ?_),CQ.out.I.keep set (fun b hb => ?_), ?_, ?_, ?_, ?_, ?_⟩
                ·obtain ⟨_,⟨c,hc⟩,_⟩ := HRR.out.af b hb; exact nx hc (by decide)
                ·obtain ⟨cs,hs,_⟩ := HRR.out.ht; obtain ⟨_,c,hc⟩ := hs.own hb; exact nx hc (by decide)
                ·obtain ⟨_,c,hc⟩ := HRR.out.hr.own hb; exact nx hc (by decide)
                ·obtain ⟨_,c,hc⟩ := SQ2.out.own hb; exact nx hc (by decide)
                ·obtain ⟨_,c,hc⟩ := SW.out.own hb; exact nx hc (by decide)
                ·obtain ⟨_,c,hc⟩ := CQ.out.I.own hb; exact nx hc (by decide)
                ·exact (CQ.out.K.mono (fun _ _ h => h.elim)).trans (set.mono (fun b _ hb => .inl hb))
                ·rintro b ⟨h1,h2⟩
                 have := SQL.out b h1; have := OW.out b h2; omega
                ·intro b hb
                 obtain ⟨h1,⟨c,h2⟩,h3⟩ := HRR.out.af b hb
                 exact ⟨.inl hb,by simpa using h1,⟨c,set.blk h2 (nx h2 (by decide))⟩,h3⟩
                ·intro b hb; exact Nat.le_trans s8 (OQ.out b hb)
                ·intro b hb; have := OW.out b hb; omega)
               go_wp2_with fail
               generalize (wr.setCell ⟨h.p,2,none⟩ (.slice vo2 lr.length vc2)).setCell ⟨h.p,3,none⟩ (.slice vo3 lw.length vc3) = w10 at *
               go_loopw [21] (fun u wr => ∃ (k : Nat) (F : Nat → Prop),k ≤ W.T.length ∧ u = .int .i64 k ∧ TMm w wr h W (.slice vo2 lr.length vc2) (.slice vo3 lw.length vc3) lr lw F (cutK isP W.T k) (.slice io isP.length icap) isP) (fun u _ => W.T.length - (intOf u).toNat)
               case atStart => exact ⟨0,h.F,Nat.zero_le _,rfl,TM.out⟩
               case round =>
                clear TM c2 c3 f2 f3 pl
                obtain ⟨k,F,hk,rfl,hM⟩ := hrel
                have TM := Lib.hid hM
                have c0 := hM.hp.cell 0; have pl := hM.hp.lt
                simp only [List.getElem?_cons_zero] at c0
                rw [HNO.out] at c0
                clear hM
                by_cases hlt : k < W.T.length
                ·have hlc : k < (cutK isP W.T k).length := by rw [cutK_len]; exact hlt
                 have HTV := Lib.hid (show h.tv = .slice no (cutK isP W.T k).length nc by rw [cutK_len]; exact HNO.out)
                 obtain ⟨g,o,fo,fc,rfl,hgl,hfz,t0,t1,t2,t3,hrd⟩ := TM.out.cells HTV.out hlc
                 have HRD := Lib.hid (show Rd wr fo (entV (cutK isP W.T k)[k].fs) from hrd)
                 have hge := cutK_get isP W.T hlt
                 have hst := cutK_step isP W.T hlt
                 have HTH := Lib.hid (show W.th (k : Int) = W.T[k] by unfold Wd.th; rw [Int.toNat_natCast,List.getD_eq_getElem?_getD,List.getElem?_eq_getElem hlt]; rfl)
                 have HGE := Lib.hid hge
                 rw [hge] at t0 t1 t2 t3 HRD
                 have HST := Lib.hid hst
                 obtain ⟨t,ht⟩ : ∃ t,W.T[k] = t := ⟨_,rfl⟩
                 rw [ht] at t0 t1 t2 t3 HRD HTH HGE HST
                 have HAT := Lib.hid (atB_nat isP k)
                 obtain ⟨_,_,e',rdi, -, -⟩ := TM.out.I.rd
                 cases e'
                 have hki : k < isP.length := by rw [HLP.out]; exact hlt
                 obtain ⟨gi,oi,rfl,hgi,d0⟩ := rdi.boolAt k hki
                 obtain ⟨z,hz⟩ : ∃ z,isP.getD k false = z := ⟨_,rfl⟩
                 rw [hz] at d0 HAT
                 have HZ := Lib.hid hz
                 have f1 := hfz (o + k * 4 + 1); have f2 := hfz (o + k * 4 + 2); have f3 := hfz (o + k * 4 + 3)
                 obtain ⟨tk,tf,tol,tde⟩ := t
                 dsimp only at t0 t1 t2 t3 HRD
                 clear hz ht hge hst rdi hrd hfz
                 cases z
                 ·as_aux_lemma =>
                  have M2 := Lib.hid (TM.out.setDead HTV.out hlc)
                  have M3 := Lib.hid (M2.out.setNil (by rw [List.length_set]; exact HTV.out) (by rw [List.length_set]; exact hlc))
                  have HEQ := Lib.hid (cutT_no (t := ⟨tk,tf,tol,tde⟩) HZ.out)
                  go_wp2_with fail
                  go_roundw
                  case rel =>
                   refine ⟨k + 1,F,hlt,by go_num,M3.out.eqT ?_⟩
                   rw [← HST.out,HEQ.out]
                   simp only [List.set_set,List.getElem_set_self,HGE.out]
                  case measure => simp [intOf]; omega
                 ·have M2 := Lib.hid (TM.out.setOld HTV.out hlc)
                  rw [HGE.out] at M2
                  dsimp only at M2
                  have hlv := PA.out.ok.live (k : Int) HAT.out
                  have hfit := HOK.out.tk _ hlv
                  rw [HTH.out] at hfit
                  have HFT := Lib.hid hfit
                  have hk15 := fitsW_spec hfit
                  dsimp only at hk15
                  have hl2 : k < ((cutK isP W.T k).set k ⟨tk,tf,true,tde⟩).length := by rw [List.length_set]; exact hlc
                  have HTV2 := Lib.hid (show h.tv = .slice (some ⟨g,o,none⟩) ((cutK isP W.T k).set k ⟨tk,tf,true,tde⟩).length nc by rw [List.length_set]; exact HTV.out)
                  clear hlv hfit
                  go_upto_region 52 with (fail)
                  clear t0 t1 t2 t3 c0 pl hgl f1 f2 f3 d0 hgi
                  generalize wr.setCell ⟨g,o + k * 4 + 2,none⟩ (.bool true) = w11 at *
                  obtain ⟨_,_,fo',fc',e2,hgl,hfz,t0,t1,t2,t3,hrd⟩ := M2.out.cells HTV2.out hl2
                  cases e2
                  simp only [List.getElem_set_self] at t0 t1 t2 t3 hrd
                  have HRD2 := Lib.hid (show Rd w11 fo' (entV tf) from hrd)
                  have f1 := hfz (o + k * 4 + 1)
                  clear hrd HRD hfz
                  by_cases hk4 : tk = 4
                  ·subst hk4
                   as_aux_lemma =>
                   obtain ⟨u,v,rfl⟩ : ∃ u v,tf = [u,v] := by
                    have h2 : tf.length = 2 := by
                     have := HFT.out
                     simp [fitsW] at this
                     omega
                    match tf,h2 with
                    | [u,v],_ => exact ⟨u,v,rfl⟩
                   obtain ⟨gf,of,rfl,hgf,u0,u1⟩ := HRD2.out.val 0 (by simp)
                   simp only [List.getD_cons_zero,Nat.zero_mul,Nat.add_zero] at u0 u1
                   have hlen2 : ([u,v] : List Vl).length = 2 := rfl
                   rw [hlen2] at t1
                   have HEQ := Lib.hid (cutT_eph (t := ⟨4,[u,v],tol,tde⟩) HZ.out rfl rfl)
                   have hin : InL isP.length u := fun h3 => by
                    have := HOK.out.tv (k : Int) (PA.out.ok.live _ HAT.out) u (by rw [HTH.out]; simp)
                    have := Wd.okV_ref this h3
                    rw [HLP.out]
                    exact ⟨this.1,this.2.1⟩
                   obtain ⟨_,_,e',rdi, -, -⟩ := M2.out.I.rd
                   cases e'
                   have HIS := Lib.hid (inSet_c u _ icap isP w11 rdi (by have := HLP.out; omega) hin)
                   clear rdi hin hlen2
                   go_wp2_with (refine wpList_agg2g (by kernel_rfl) 78 (.tmp 281) rfl (by kernel_rfl) gf of rfl _ _ u0 u1 ?_)
                   refine HIS.out.mono ?_
                   rintro e w12 ⟨rfl,hk⟩
                   have M4 := Lib.hid (M2.out.same hk)
                   clear t0 t1 t2 t3 hgl f1 u0 u1 hgf HIS hk
                   obtain ⟨_,_,fo',fc',e2,hgl,hfz,t0,t1,t2,t3,hrd⟩ := M4.out.cells HTV2.out hl2
                   cases e2
                   simp only [List.getElem_set_self] at t0 t1 t2 t3 hrd
                   have f1 := hfz (o + k * 4 + 1)
                   rw [show ([u,v] : List Vl).length = 2 from rfl] at t1
                   clear hrd hfz
                   cases hi : inS isP u
                   ·have HI := Lib.hid hi
                    clear hi
                    have hbn : Blk (w12.alloc (.cells #[.int .i64 2, .int .i64 0, .int .i64 2, .int .i64 0] 78)) w12.heap.size (entV [(2,0),(2,0)]) 78 := Blk.newAt _ rfl rfl
                    have KN := (Keeps.refl (fun _ => False) w12).alloc (.cells #[.int .i64 2, .int .i64 0, .int .i64 2, .int .i64 0] 78)
                    have hrv : ¬ ownB h.rv w12.heap.size := fun hb => by have := (M4.out.hr.own hb).1; omega
                    have M5 := Lib.hid ((M4.out.same KN).setFs (u := (2,0)) (v := (2,0)) HTV2.out hl2 hbn (Nat.le_trans M4.out.K.size (Nat.le_refl _)) hrv)
                    clear hbn KN hrv
                    rw [alloc_setCell _ _ _ _ hgl] at M5
                    go_upto_region 54 with (fail)
                    clear t0 t1 t2 t3 hgl f1 M4
                    simp only [List.set_set,List.getElem_set_self] at M5
                    generalize (w12.setCell ⟨g,o + k * 4 + 1,none⟩ (.slice (some ⟨w12.heap.size,0,none⟩) 2 2)).alloc (.cells #[.int .i64 2, .int .i64 0, .int .i64 2, .int .i64 0] 78) = w13 at *
                    obtain ⟨_,_,fo5,fc5,e2,hgl, -,t0,t1,t2,t3, -⟩ := M5.out.cells (k := k) (by rw [List.length_set,cutK_len]; exact HNO.out) (by rw [List.length_set]; exact hlc)
                    cases e2
                    simp only [List.getElem_set_self] at t0 t1 t2 t3
                    clear t1 t2 t3
                    go_wp2_with fail
                    go_roundw
                    case rel =>
                     refine ⟨k + 1,_,hlt,by go_num,M5.out.eqT ?_⟩
                     rw [← HST.out,HEQ.out,if_pos HI.out]
                     try simp only [List.set_set,List.getElem_set_self]
                    case measure => simp [intOf]; omega
                   ·have HI := Lib.hid hi
                    clear hi
                    go_wp2_with fail
                    go_roundw
                    case rel =>
                     refine ⟨k + 1,F,hlt,by go_num,M4.out.eqT ?_⟩
                     rw [← HST.out,HEQ.out,if_neg (by rw [HI.out]; decide)]
                    case measure => simp [intOf]; omega
                  ·have k4 : (tk == 4) = false := by simpa using hk4
                   by_cases hk3 : tk = 3
                   ·subst hk3
                    as_aux_lemma =>
                    obtain ⟨u,v,rfl⟩ : ∃ u v,tf = [u,v] := by
                     have h2 : tf.length = 2 := by
                      have := HFT.out
                      simp [fitsW] at this
                      omega
                     match tf,h2 with
                     | [u,v],_ => exact ⟨u,v,rfl⟩
                    obtain ⟨gf,of,rfl,hgf,u0,u1⟩ := HRD2.out.val 0 (by simp)
                    simp only [List.getD_cons_zero,Nat.zero_mul,Nat.add_zero] at u0 u1
                    have hlen2 : ([u,v] : List Vl).length = 2 := rfl
                    rw [hlen2] at t1
                    have HEQ := Lib.hid (cutT_weak (t := ⟨3,[u,v],tol,tde⟩) HZ.out rfl rfl)
                    have hin : InL isP.length u := fun h3 => by
                     have := HOK.out.tv (k : Int) (PA.out.ok.live _ HAT.out) u (by rw [HTH.out]; simp)
                     have := Wd.okV_ref this h3
                     rw [HLP.out]
                     exact ⟨this.1,this.2.1⟩
                    obtain ⟨_,_,e',rdi, -, -⟩ := M2.out.I.rd
                    cases e'
                    have HIS := Lib.hid (inSet_c u _ icap isP w11 rdi (by have := HLP.out; omega) hin)
                    clear rdi hin hlen2
                    go_wp2_with (refine wpList_agg2g (by kernel_rfl) 78 (.tmp 303) rfl (by kernel_rfl) gf of rfl _ _ u0 u1 ?_)
                    refine HIS.out.mono ?_
                    rintro e w12 ⟨rfl,hk⟩
                    have M4 := Lib.hid (M2.out.same hk)
                    have HRD4 := Lib.hid (HRD2.out.keep hk (fun _ _ _ h => h))
                    clear t0 t1 t2 t3 hgl f1 u0 u1 hgf HIS hk
                    obtain ⟨_,_,fo',fc',e2,hgl,hfz,t0,t1,t2,t3,hrd⟩ := M4.out.cells HTV2.out hl2
                    cases e2
                    simp only [List.getElem_set_self] at t0 t1 t2 t3 hrd
                    have HRD5 := Lib.hid (show Rd w12 fo' (entV [u,v]) from hrd)
                    rw [show ([u,v] : List Vl).length = 2 from rfl] at t1
                    have f1 := hfz (o + k * 4 + 1)
                    clear hrd hfz
                    cases hi : inS isP u
                    ·have HI := Lib.hid hi
                     clear hi
                     obtain ⟨gf2,of2,rfl,hgf,v0,v1⟩ := HRD5.out.val 1 (by simp)
                     simp only [List.getD_cons_succ,List.getD_cons_zero,Nat.one_mul] at v0 v1
                     have hbn : Blk (w12.alloc (.cells #[.int .i64 2, .int .i64 0, .int .i64 v.1, .int .i64 v.2] 78)) w12.heap.size (entV [(2,0),v]) 78 := Blk.newAt _ rfl rfl
                     have KN := (Keeps.refl (fun _ => False) w12).alloc (.cells #[.int .i64 2, .int .i64 0, .int .i64 v.1, .int .i64 v.2] 78)
                     have hrv : ¬ ownB h.rv w12.heap.size := fun hb => by have := (M4.out.hr.own hb).1; omega
                     have M5 := Lib.hid ((M4.out.same KN).setFs (u := (2,0)) (v := v) HTV2.out hl2 hbn (Nat.le_trans M4.out.K.size (Nat.le_refl _)) hrv)
                     rw [alloc_setCell _ _ _ _ hgl] at M5
                     clear hbn KN hrv
                     go_wp2_with (refine wpList_agg2 rfl 78 (.tmp 314) rfl (by kernel_rfl) gf2 _ rfl _ _ v0 v1 ?_)
                     go_roundw
                     case rel =>
                      refine ⟨k + 1,_,hlt,by go_num,M5.out.eqT ?_⟩
                      rw [← HST.out,HEQ.out,if_pos HI.out]
                      simp only [List.set_set,List.getElem_set_self]
                     case measure => simp [intOf]; omega
                    ·have HI := Lib.hid hi
                     clear hi
                     go_wp2_with fail
                     go_roundw
                     case rel =>
                      refine ⟨k + 1,F,hlt,by go_num,M4.out.eqT ?_⟩
                      rw [← HST.out,HEQ.out,if_neg (by rw [HI.out]; decide)]
                     case measure => simp [intOf]; omega
                   ·have k3 : (tk == 3) = false := by simpa using hk3
                    as_aux_lemma =>
                    have HEQ := Lib.hid (cutT_other (t := ⟨tk,tf,tol,tde⟩) HZ.out hk3 hk4)
                    clear hk3 hk4
                    go_wp2_with fail
                    go_roundw
                    case rel => exact ⟨k + 1,F,hlt,by go_num,M2.out.eqT (by rw [← HST.out,HEQ.out])⟩
                    case measure => simp [intOf]; omega
                ·obtain rfl : k = W.T.length := by omega
                 rw [cutK_all] at TM
                 go_wp2_with fail
                 go_ret
                 refine ⟨by rw [HE.out]; rfl, ?_⟩
                 rw [HE.out]
                 refine TMm.done (gv := .slice vo2 lr.length vc2) (wv := .slice vo3 lw.length vc3) (F := F) (iv := .slice io isP.length icap) (is := isP) ?_ HAO.out HH.out
                 have e1 : (W.after major).regs = lr := by unfold Wd.after; rw [PD.out]; exact HLR.out
                 have e2 : (W.after major).wait = lw := by unfold Wd.after; rw [PD.out]; exact HLW.out
                 rw [e1,e2,PD.out]
                 exact TM.out
        -->rest
       ·--<pass
        obtain ⟨w7,rfl⟩ : ∃ x : World,x = wr := ⟨wr,rfl⟩
        go_wp2_with fail
        go_loopw [7,12,13] (fun a m u wr => ∃ (k : Nat) (x : Bool) (io : Option Addr) (icap : Nat) (is : List Bool) (all : List It) (vo : Option Addr) (vc : Nat) (q : List (Int × Int)),k ≤ W.regs.length ∧ u = .int .i64 k ∧ a = .slice io is.length icap ∧ m = .bool x ∧ CPm w wr h W (.slice io is.length icap) is g8 (g8 + 1) all x1 (.slice vo q.length vc) q ∧ ScanAt W isP qP itemsP k x is q all) (fun _ _ u _ => W.regs.length - (intOf u).toNat)
        case atStart => exact ⟨0,false,io,icap,isP,itemsP,vo,vc,qP,Nat.zero_le _,rfl,rfl,rfl,CP.out,ScanAt.start PA.out.ok⟩
        case round =>
         obtain ⟨k,x,io,icap,is,all,vo,vc,q,hk,rfl,rfl,rfl,hC,hS⟩ := hrel
         have CQ := Lib.hid hC; have SC := Lib.hid hS
         have HR := Lib.hid (HH.out.same hC.K)
         obtain ⟨-, -,c2, -, -, -⟩ := HR.out.cells
         rw [HGO.out] at c2
         have pl := HR.out.hp.lt
         have HLA := Lib.hid (hS.ok.alen)
         clear hC hS
         by_cases hlt : k < W.regs.length
         ·obtain ⟨_,_,e',rd, -, -⟩ := HR.out.hg.rd
          rw [HGO.out] at e'
          cases e'
          obtain ⟨gg,og,rfl,hgl,v0,v1⟩ := rd.ent k hlt
          have hokE := HOK.out.gv (W.regs.getD k (0,0)) (by rw [List.getD_eq_getElem?_getD,List.getElem?_eq_getElem hlt]; exact List.getElem_mem _)
          have hka : k < all.length := by rw [HLA.out]; exact hlt
          have hal : (all[k]'hka).1 = W.regs.getD k (0,0) := by
           have h1 : (all.map (·.1))[k]? = W.regs[k]? := by rw [SC.out.ok.rg]
           rw [List.getElem?_map,List.getElem?_eq_getElem hka,List.getElem?_eq_getElem hlt] at h1
           rw [List.getD_eq_getElem?_getD,List.getElem?_eq_getElem hlt]
           simpa using h1
          have D8 := CQ.out.D.cell k; have dl := CQ.out.D.lt; have D9 := CQ.out.M.cell k; have ml := CQ.out.M.lt
          rw [List.getElem?_map,List.getElem?_eq_getElem hka] at D8 D9
          simp only [Option.map_some] at D8 D9
          generalize W.regs.getD k (0,0) = e at *
          obtain ⟨e1,e2⟩ := e
          obtain ⟨⟨a1,d,b⟩,hit⟩ : ∃ t,all[k]'hka = t := ⟨_,rfl⟩
          rw [hit] at D8 D9 hal
          dsimp only at hal D8 D9
          subst hal
          have HAL := Lib.hid hit
          dsimp only at v0 v1
          have HEK := Lib.hid hokE
          have h0 := hokE.1.1; have h1 := hokE.1.2.1; have h2 := hokE.2.2.1; have h3 := hokE.2.2.2.1
          dsimp only at h0 h1 h2 h3
          obtain ⟨m1,rfl⟩ : ∃ m : Nat,e1 = m := ⟨e1.toNat,by omega⟩
          obtain ⟨m2,rfl⟩ : ∃ m : Nat,e2 = m := ⟨e2.toNat,by omega⟩
          have hm1 : m1 < is.length := by rw [SC.out.ok.len]; omega
          have hm2 : m2 < is.length := by rw [SC.out.ok.len]; omega
          obtain ⟨_,_,e',rdi, -, -⟩ := CQ.out.I.rd
          cases e'
          obtain ⟨gi,oi,rfl,hgi,d0⟩ := rdi.boolAt m1 hm1
          have HAT := Lib.hid (show atB is (m1 : Int) = is.getD m1 false from atB_nat is m1)
          generalize is.getD m1 false = z at *
          have KA := Lib.hid ((Keeps.refl (fun _ => False) wr).alloc (.cells #[.int .i64 (m1 : Int), .int .i64 (m2 : Int)] 159))
          have CA := Lib.hid (CQ.out.same KA.out)
          have hyb : Blk (wr.alloc (.cells #[.int .i64 (m1 : Int), .int .i64 (m2 : Int)] 159)) wr.heap.size [.int .i64 (m1 : Int), .int .i64 (m2 : Int)] 159 := Blk.newAt _ rfl rfl
          have y0 : (wr.alloc (.cells #[.int .i64 (m1 : Int), .int .i64 (m2 : Int)] 159)).cell? ⟨wr.heap.size,0,none⟩ = some (.int .i64 (m1 : Int)) := hyb.cell 0
          have y1 : (wr.alloc (.cells #[.int .i64 (m1 : Int), .int .i64 (m2 : Int)] 159)).cell? ⟨wr.heap.size,0 + 1,none⟩ = some (.int .i64 (m2 : Int)) := hyb.cell 1
          clear rd rdi hokE hit hyb
          cases d
          ·go_wp2_with ((refine wpList_agg2 rfl 159 (.tmp 106) rfl (by kernel_rfl) gg (og + k * 2) rfl _ _ v0 v1 ?_))
           go_roundw
           case rel =>
            exact ⟨k + 1,x,_,icap,is,all,vo,vc,q,hlt,by go_num,rfl,rfl,CA.out,SC.out.skip (by rw [HLA.out]; exact hlt) HAL.out (by first | rfl | simp [HAT.out])⟩
           case measure => simp [intOf]; omega
          ·cases b
           ·cases z
            ·go_wp2_with ((refine wpList_agg2 rfl 159 (.tmp 106) rfl (by kernel_rfl) gg (og + k * 2) rfl _ _ v0 v1 ?_))
             go_roundw
             case rel =>
              exact ⟨k + 1,x,_,icap,is,all,vo,vc,q,hlt,by go_num,rfl,rfl,CA.out,SC.out.skip (by rw [HLA.out]; exact hlt) HAL.out (by first | rfl | simp [HAT.out])⟩
             case measure => simp [intOf]; omega
            ·as_aux_lemma =>
            have hq24 : q.length ≤ 24 := by have := SC.out.ok.cnt; omega
            have X3 := CA.out.X.cell 3; have XL := CA.out.X.lt
            simp only [List.getElem?_cons_zero,List.getElem?_cons_succ] at X3
            go_wp2_with (first | (refine wpList_agg2 rfl 159 (.tmp 106) rfl (by kernel_rfl) gg (og + k * 2) rfl _ _ v0 v1 ?_) | (refine wpList_agg2 rfl 159 (.tmp 14) rfl (by kernel_rfl) wr.heap.size 0 rfl _ _ y0 y1 ?_) | (at_builtin; refine wpList_app rfl (.tmp 127) (.tmp 129) 148 rfl 159 ie (.agg #[.int .i64 0, .int .i64 0]) 2 16 Try.underlying148 Hi.out Hz0.out Hz1.out Hz2.out rfl (by decide) _ q.length (entV q) rfl ?ha ⟨wr.heap.size + 1,0,none⟩ 1 1 [.int .i64 (m1 : Int), .int .i64 (m2 : Int)] rfl rfl ?hb ?hc ?hd ?he ?hf))
            case ha => exact CQ.out.Q.keep (((Keeps.refl (fun _ => False) wr).alloc _).alloc _) (fun _ _ h => h)
            case hb =>
             have := news_at (wr.alloc (.cells #[.int .i64 (m1 : Int), .int .i64 (m2 : Int)] 159)) 159 #[.int .i64 (m1 : Int), .int .i64 (m2 : Int)]
             simpa using this
            case hc => intro u hu; simp at hu; rcases hu with rfl | rfl <;> rfl
            case hd => unfold maxLen; omega
            case he => omega
            case hf =>
             intro v2 w2 hs2 hk2 ho2
             obtain ⟨vo2,vc2,rfl, -, -, -⟩ := hs2.rd
             have ka2 : Keeps (fun _ => False) wr ((wr.alloc (.cells #[.int .i64 (m1 : Int), .int .i64 (m2 : Int)] 159)).alloc (.cells #[.int .i64 (m1 : Int), .int .i64 (m2 : Int)] 159)) := ((Keeps.refl _ _).alloc _).alloc _
             have CW := Lib.hid (CQ.out.wait (e := ((m1 : Int),(m2 : Int))) ka2 hs2 hk2 (by simpa using ho2))
             have hqo : ∀ b,ownB (.slice vo q.length vc) b → b < wr.heap.size := fun b hb => (CQ.out.Q.own hb).1
             have YB := Lib.hid (hk2.blk (show Blk ((wr.alloc (.cells #[.int .i64 (m1 : Int), .int .i64 (m2 : Int)] 159)).alloc (.cells #[.int .i64 (m1 : Int), .int .i64 (m2 : Int)] 159)) wr.heap.size [.int .i64 (m1 : Int), .int .i64 (m2 : Int)] 159 from (Blk.newAt _ rfl rfl).alloc _) (fun hb => by have := hqo _ hb; omega))
             have hXB := hk2.blk (CQ.out.same ka2).X (fun hb => by
              obtain ⟨_,c,hc⟩ := (CQ.out.same ka2).Q.own hb
              exact (CQ.out.same ka2).X.ne hc (by decide) rfl)
             have x3 := hXB.cell 3; have xl := hXB.lt; have xf := hXB.free 3
             simp only [List.getElem?_cons_zero,List.getElem?_cons_succ] at x3
             have YB2 := Lib.hid (YB.out.setOther (a := ⟨x1,3,none⟩) (YB.out.ne hXB (by decide)) (.slice vo2 (q.length + 1) vc2))
             clear hs2 hk2 ho2 ka2 hqo YB hXB X3 XL y0 y1 v0 v1 d0 D8 dl D9 ml c2 pl hgl hgi
             go_upto_region 22 with (fail)
             clear x3 xl xf
             generalize w2.setCell ⟨x1,3,none⟩ (.slice vo2 (q.length + 1) vc2) = w3 at *
             generalize wr.heap.size = t14 at *
             have y1 := YB2.out.cell 1; have yl := YB2.out.lt
             simp only [List.getElem?_cons_zero,List.getElem?_cons_succ] at y1
             obtain ⟨_,_,e',rdi, -, -⟩ := CW.out.I.rd
             obtain ⟨e'', -, -⟩ := Value.slice.inj e'
             cases e''
             obtain ⟨gi',oi',e'',hgi,d0⟩ := rdi.boolAt m2 hm2
             cases e''
             obtain ⟨_,cu,hgb⟩ := CW.out.I.own (k := gi) rfl
             have fz := hgb.free (oi + m2)
             have CX := Lib.hid (CW.out.alive (g := gi) (o := oi) (cap := icap) rfl hm2)
             clear rdi e' hgb
             go_upto_region 23 with (fail)
             clear y1 yl d0 fz hgi
             generalize w3.setCell ⟨gi,oi + m2,none⟩ (.bool true) = w4 at *
             have HEE := Lib.hid (show W.clo (q ++ [((m1 : Int),(m2 : Int))]) (is.set m2 true) = (W.keepW is q (m2 : Int)).1 from by
              have := Wd.keep_entry (W := W) (q := q) (is := is) (g := (m1 : Int)) (x := (m2 : Int)) (by omega) (by omega)
              simpa using this)
             have hgr := Grown_c (w := w4) (p := x1) (q := q ++ [((m1 : Int),(m2 : Int))]) (is := is.set m2 true) (some ⟨gi,oi,none⟩) icap (CX.out.gr HH.out) HOK.out (fun f hf => by
              rcases List.mem_append.1 hf with hf | hf
              ·exact SC.out.ok.wv f hf
              ·rw [List.mem_singleton] at hf; subst hf; exact HEK.out) (by
              obtain ⟨_,_,e',r, -, -⟩ := CX.out.I.rd
              obtain ⟨e'', -, -⟩ := Value.slice.inj e'
              cases e''; exact r) (by rw [List.length_set]; exact SC.out.ok.len) hT (by
              have := live_set SC.out.ok.live (x := (m2 : Int)) (by omega) (by omega) HEK.out.2.2
              simpa using this) (by simp; omega)
             rw [List.length_set,HEE.out] at hgr
             have HGR := Lib.hid hgr
             clear hgr
             go_wp2_with fail
             refine HGR.out.mono ?_
             rintro e w5 ⟨no5,nc5,rfl,hs5,hk5,ho5⟩
             have CY := Lib.hid (CX.out.grown hs5 hk5 ho5)
             clear hs5 hk5 ho5 HGR
             have z0' := CY.out.M.cell k; have zl := CY.out.M.lt; have zf := CY.out.M.free k
             rw [List.getElem?_map,List.getElem?_eq_getElem hka,HAL.out] at z0'
             simp only [Option.map_some] at z0'
             have CZ := Lib.hid (CY.out.moved hka HAL.out)
             have ST := Lib.hid (SC.out.took HOK.out hka HAL.out HAT.out)
             have eq1 := Lib.hid (show (q ++ [((m1 : Int),(m2 : Int))]).length = q.length + 1 by simp)
             go_wp2_with fail
             go_roundw
             case rel => exact ⟨k + 1,true,no5,nc5,_,_,vo2,vc2,_,hlt,by go_num,rfl,rfl,by rw [eq1.out]; exact CZ.out,ST.out⟩
             case measure => simp [intOf]; omega
           ·go_wp2_with ((refine wpList_agg2 rfl 159 (.tmp 106) rfl (by kernel_rfl) gg (og + k * 2) rfl _ _ v0 v1 ?_))
            go_roundw
            case rel =>
             exact ⟨k + 1,x,_,icap,is,all,vo,vc,q,hlt,by go_num,rfl,rfl,CA.out,SC.out.skip (by rw [HLA.out]; exact hlt) HAL.out (by first | rfl | simp [HAT.out])⟩
            case measure => simp [intOf]; omega
         ·obtain rfl : k = W.regs.length := by omega
          have SD := Lib.hid (show ScanAt W isP qP itemsP all.length x is q all by rw [HLA.out]; exact SC.out)
          go_wp2_with fail
          go_roundg (unN all + if x then 1 else 0)
          case measure =>
           have h1 := HN.out; have h2 := SC.out.fl
           simp only [if_true] at h1
           rcases h2 with ⟨rfl,rfl⟩ | ⟨rfl,h2⟩
           ·simp; omega
           ·simp; omega
          case rel => exact ⟨x,_,icap,is,all,vo,vc,q,rfl,rfl,CQ.out,PA.out.next SD.out,Nat.le_refl _⟩
        -->pass
end
end Go.Proofs.Ytjifdalflepcoab
namespace Go.Proofs.Ytjifdalflepcoab
open Go.RowKit
set_option linter.unusedVariables false
set_option linter.unusedSimpArgs false
def DInv (w wr : World) (p k : Nat) : Prop := ∃ h O W,BM w wr p h O W ∧ W.T.length ≤ k ∧ ∃ φ,Rep O W φ
theorem countL_none (l : List Bool) : countL (l.map fun _ => false) = 0 := by
 induction l with
 | nil => rfl
 | cons a l ih => simp [countL]
theorem mCut_cards {O : Wo} (h : (mCut O).1 = 0) : countL (mCut O).2.cd = 0 := by
 unfold mCut at h ⊢
 split at h
 ·cases h
 ·rename_i hn
  rw [if_neg hn]
  exact countL_none _
theorem mCut_code (O : Wo) : (mCut O).1 = 0 ∨ (mCut O).1 = 3 := by
 unfold mCut; split
 ·exact .inr rfl
 ·exact .inl rfl
section
variable {w w' : World}
theorem BM.world {w0 w w' : World} {p : Nat} {h : BH} {O : Wo} {W W' : Wd} (M : BM w0 w p h O W) (t : WorldTo w h.b w' W') : ∃ h',BM w0 w' p h' O W' := M.to (BothTo.world M.B t)
theorem BM.right_c {w0 w : World} {p : Nat} {h : BH} {O : Wo} {W : Wd} {φ : Int → Int} (R : Rep O W φ) (M : BM w0 w p h O W) (hT : W.T.length ≤ 90000) :
  Calls Try.prog 78 #[.pointer (some ⟨p,0,none⟩)] w fun e w' => e = .returned (.bool true) ∧ Keeps (fun _ => False) w w' := by
 have := Proofs.Ytjifdalflepcoab.right_c R M.B hT
 rw [M.e] at this
 exact this
set_option maxHeartbeats 16000000 in
set_option maxRecDepth 100000 in
theorem MinorDoes_raw (n o : Int) (lo : Option Addr) (lc m : Nat) (xs : List Int) (w : World) (h0 : Rd w lo (xs.map (Value.int .i64))) (hx : xs.length = m * 4) (hb : ∀ x ∈ xs,R64 x) :
  Calls Try.prog 13 #[.int .i64 n, .int .i64 o, .slice lo m lc] w fun e w' => e = .returned (.bool true) ∧ Keeps (fun _ => False) w w' := by
 have H0 := Lib.hid h0; have HX := Lib.hid hx; have HBD := Lib.hid hb
 clear h0 hx hb
 go_enter Try.func13,Try.ntmps13
 go_wp2_with fail
 refine (minorBegun_c _).mono ?_
 rintro e w1 ⟨rfl,hk1⟩
 have HK1 := Lib.hid hk1; clear hk1
 by_cases hm : 250 < m
 ·go_wp2_with fail
  go_ret
  exact ⟨rfl,HK1.out⟩
 cases hfit : Ar.fits n o
 ·have HFM := Lib.hid (show faultM n o = (1, -1) by unfold faultM; rw [hfit]; rfl)
  go_wp2_with fail
  refine (start_no n o _ hfit).mono ?_
  rintro e w2 ⟨rfl,hk2⟩
  go_wp2_with fail
  refine (RoomFault_c n o _).mono ?_
  rintro e w3 ⟨rfl,hk3⟩
  rw [HFM.out]
  have hfd : ∀ w : World,(Instr.field 26 (.agg #[.int .i64 1, .int .i64 (-1)]) 0).run Try.prog w = .ok (.int .i64 1) w := fun _ => by kernel_rfl
  go_wp2_with fail
  go_ret
  exact ⟨rfl,(HK1.out.trans hk2).trans hk3⟩
 have HFIT := Lib.hid hfit
 go_wp2_with fail
 refine (start_yes n o _ hfit).mono ?_
 rintro e w2 ⟨h,rfl,B2,k2,o2⟩
 have HM := Lib.hid (show BM w w2 h.p h (Wo.new n o) (Wd.new n o) from ⟨B2,rfl,HK1.out.trans k2,fun b hb => Nat.le_trans HK1.out.size (o2 b hb)⟩)
 clear hfit B2 k2 o2 HK1
 generalize h.p = p at *
 have HI := Lib.hid (show DInv w w2 p 0 from ⟨h,_,_,HM.out,by simp [Wd.new],_,Rep.new HFIT.out⟩)
 clear HM HFIT
 go_wp2_with fail
 refine wp_loop_over (fun i => Nat.blt 28 i && Nat.blt i 80 || Nat.blt 8 i && Nat.blt i 11) (fun s wr => ∃ k : Nat,k ≤ m ∧ s 9 = .int .i64 k ∧ DInv w wr p k) (fun s _ => m - (intOf (s 9)).toNat) ?_ ?_
 ·exact ⟨0,Nat.zero_le _,rfl,HI.out⟩
 ·intro u0 wr hrel K hK
  clear HI
  obtain ⟨k,hk,e9,hI⟩ := hrel
  have e9 : u0 9 = .int .i64 k := e9
  have HI := Lib.hid hI
  clear hI
  simp only [overA,overL,List.toList_toArray,Nat.blt,Nat.beq,Nat.ble,Nat.reduceAdd,Bool.or_false,Bool.false_or,Bool.or_true,Bool.true_or,Bool.and_true,Bool.true_and,Bool.and_false,Bool.false_and,cond_true,cond_false]
  rw [e9]
  have E9 := Lib.hid e9; clear e9
  by_cases hlt : k < m
  ·obtain ⟨h1,O1,W1,M1,hT1,φ1,R1⟩ := HI.out
   have hrd := H0.out.keep M1.K (fun _ _ _ h => h)
   obtain ⟨gs,os,rfl,hgl,d0⟩ := hrd.nth (k * 4) (by rw [HX.out]; omega)
   obtain ⟨_,_,e', -,d1⟩ := hrd.nth (k * 4 + 1) (by rw [HX.out]; omega)
   cases e'
   obtain ⟨_,_,e', -,d2⟩ := hrd.nth (k * 4 + 2) (by rw [HX.out]; omega)
   cases e'
   obtain ⟨_,_,e', -,d3⟩ := hrd.nth (k * 4 + 3) (by rw [HX.out]; omega)
   cases e'
   rw [← Nat.add_assoc] at d1 d2 d3
   have hy : ∀ j,j < 4 → R64 (xs.getD (k * 4 + j) 0) := fun j hj => HBD.out _ (by rw [List.getD_eq_getElem?_getD,List.getElem?_eq_getElem (by rw [HX.out]; omega)]; exact List.getElem_mem _)
   have HY1 := Lib.hid (hy 1 (by decide)); have HY2 := Lib.hid (hy 2 (by decide))
   generalize xs.getD (k * 4) 0 = d at *
   generalize xs.getD (k * 4 + 1) 0 = x at *
   generalize xs.getD (k * 4 + 2) 0 = y at *
   generalize xs.getD (k * 4 + 3) 0 = z at *
   have M := Lib.hid M1; have R := Lib.hid R1; have HT := Lib.hid hT1
   clear hrd hy HI M1 R1 hT1
   obtain ⟨c0,c1,pl⟩ := M.out.pc
   by_cases h6 : d < 6
   ·have hd6 : decide (d < 6) = true := by simpa using h6
    have HDO := Lib.hid (M.out.do_c d x y z (by have := HT.out; omega) HY1.out HY2.out)
    have hcs := R.out.cs d x y (rootN_lt x) (rootN_lt z)
    have hln := wdC_len W1 d x y (rootN_lt x) (rootN_lt z)
    have EQ := Lib.hid (show decide ((woC O1 d x y (rootN x) (rootN z)).1 = (wdC W1 d x y (rootN x) (rootN z)).1) = true by simpa using hcs.1)
    have HNX := Lib.hid (show ∀ w' h',BM w w' p h' (woC O1 d x y (rootN x) (rootN z)).2 (wdC W1 d x y (rootN x) (rootN z)).2 → DInv w w' p (k + 1) from fun w' h' M' => by
     obtain ⟨-,ψ,R'⟩ := hcs
     exact ⟨h',_,_,M',by have := HT.out; omega,ψ,R'⟩)
    clear hcs hln h6
    go_wp2_with (refine wpList_agg rfl 112 (.tmp 44) rfl [.int .i64 d, .int .i64 x, .int .i64 y, .int .i64 z] (by kernel_rfl) gs (os + k * 4) rfl (rangeAt_cons d0 (rangeAt_cons d1 (rangeAt_cons d2 (rangeAt_cons d3 rangeAt_nil)))) ?_)
    refine HDO.out.mono ?_
    rintro e w2 ⟨rfl,ht⟩
    obtain ⟨h2,M2⟩ := M.out.to ht
    have HIK := Lib.hid (HNX.out _ _ M2)
    rw [EQ.out]
    clear ht M2 c0 c1 pl d0 d1 d2 d3 hgl HDO HNX
    go_wp2_with fail
    refine ⟨⟨by kernel_rfl, ?rel⟩, ?measure⟩
    case rel => exact ⟨k + 1,hlt,by go_num,HIK.out⟩
    case measure => exact meas_lt (by go_num) (by first | rfl | exact E9.out) hlt
   ·have hd6 : decide (d < 6) = false := by simpa using h6
    clear h6
    have q0 := M.out.B.H.ptrs.1; have ql := M.out.B.H.hp.lt
    go_wp2_with fail
    refine (minorCut_c R.out M.out.B.H).mono ?_
    rintro e w5 ⟨rfl,ht⟩
    obtain ⟨h5,M5'⟩ := M.out.wood ht
    have M5 := Lib.hid M5'
    obtain ⟨hcode,ψ,R5'⟩ := R.out.minor
    have R5 := Lib.hid R5'
    have CC := Lib.hid (mCut_code O1)
    have HCN := Lib.hid (show (mCut O1).1 = 0 → countL (mCut O1).2.cd = 0 from mCut_cards)
    have HLC := Lib.hid (show (mCut O1).2.cd.length ≤ 1000000 from by have := R5'.ho.hc; have := R5'.ho.ha.h4; omega)
    have HT5 := Lib.hid (show (W1.cut false).2.T.length ≤ k by rw [Wd.cut_len]; exact HT.out)
    clear M5' ht M R5' c0 c1 pl q0 ql d0 d1 d2 d3 hgl
    obtain ⟨⟨c,P⟩,hP⟩ : ∃ t,mCut O1 = t := ⟨_,rfl⟩
    rw [hP] at M5 R5 hcode CC HCN HLC ⊢
    dsimp only at M5 R5 hcode CC HCN HLC ⊢
    have HCODE := Lib.hid hcode
    clear hP hcode
    obtain ⟨c0,c1,pl⟩ := M5.out.pc
    go_wp2_with fail
    refine (WCut_c false M5.out.B.R (by have := HT.out; omega)).mono ?_
    rintro e w6 ⟨rfl,ht⟩
    obtain ⟨h6,M6'⟩ := M5.out.world ht
    have M6 := Lib.hid M6'
    rw [← HCODE.out]
    clear ht M6' M5 c0 c1 pl
    have HIK := Lib.hid (show ∀ w',Keeps (fun _ => False) w6 w' → DInv w w' p (k + 1) from fun w' hk => ⟨h6,_,_,M6.out.same hk,by have := HT5.out; omega,ψ,R5.out⟩)
    rcases CC.out with rfl | rfl
    ·have hcn := HCN.out rfl
     obtain ⟨c0,c1,pl⟩ := M6.out.pc
     have q0 := M6.out.B.H.ptrs.1; have q1 := M6.out.B.H.ptrs.2.1; have ql := M6.out.B.H.hp.lt
     go_wp2_with fail
     refine (Count_c _ _ _ _ _ M6.out.B.H.hc HLC.out).mono ?_
     rintro e w7 ⟨rfl,rfl⟩
     rw [hcn]
     clear c0 c1 pl q0 q1 ql
     go_wp2_with fail
     refine (M6.out.right_c R5.out (by have := HT5.out; omega)).mono ?_
     rintro e w8 ⟨rfl,hk8⟩
     have HIK8 := Lib.hid (HIK.out _ hk8)
     clear hk8
     go_wp2_with fail
     refine ⟨⟨by kernel_rfl, ?rel⟩, ?measure⟩
     case rel => exact ⟨k + 1,hlt,by go_num,HIK8.out⟩
     case measure => exact meas_lt (by go_num) (by first | rfl | exact E9.out) hlt
    ·obtain ⟨c0,c1,pl⟩ := M6.out.pc
     go_wp2_with fail
     refine (M6.out.right_c R5.out (by have := HT5.out; omega)).mono ?_
     rintro e w8 ⟨rfl,hk8⟩
     have HIK8 := Lib.hid (HIK.out _ hk8)
     clear hk8
     go_wp2_with fail
     refine ⟨⟨by kernel_rfl, ?rel⟩, ?measure⟩
     case rel => exact ⟨k + 1,hlt,by go_num,HIK8.out⟩
     case measure => exact meas_lt (by go_num) (by first | rfl | exact E9.out) hlt
  ·obtain rfl : k = m := by omega
   obtain ⟨h1,O1,W1,M1,hT1,φ1,R1⟩ := HI.out
   have M := Lib.hid M1; have R := Lib.hid R1; have HT := Lib.hid hT1
   clear HI M1 R1 hT1
   go_wp2_with fail
   refine (M.out.right_c R.out (by have := HT.out; omega)).mono ?_
   rintro e w8 ⟨rfl,hk8⟩
   have K1 := Lib.hid (M.out.K.trans hk8)
   clear hk8
   go_wp2_with fail
   go_ret
   exact ⟨rfl,K1.out⟩
theorem MinorDoes_walk (n o : Int) (lo : Option Addr) (lc m : Nat) (xs : List Int) (w : World) (_ : R64 n) (_ : R64 o) (h0 : Rd w lo (xs.map (Value.int .i64))) (hx : xs.length = m * 4) (_ : m ≤ maxLen) (hb : ∀ x ∈ xs,R64 x) :
  Calls Try.prog 13 #[.int .i64 n, .int .i64 o, .slice lo m lc] w fun e w' => e = .returned (.bool true) ∧ Below w.heap.size w w' :=
 (MinorDoes_raw n o lo lc m xs w h0 hx hb).mono fun e w' ⟨h1,h2⟩ => ⟨h1,h2.below (fun _ _ h => h)⟩
end
end Go.Proofs.Ytjifdalflepcoab
