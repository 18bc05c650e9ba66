/-
  Parts of the proof, merged: what the functions do, and plain laws.
-/
import Derived.Test.YtjifdalflepcoacHRFP3
import Derived.Test.YtjifdalflepcoacHRFP1
import Derived.Test.YtjifdalflepcoacHRFP2
import Derived.Lib.AppendZeros
set_option maxHeartbeats 16000000
set_option maxRecDepth 100000
set_option linter.unusedVariables false
set_option linter.unusedSimpArgs false
namespace Go.Proofs.Ytjifdalflepcoac
section
open Go.RowKit
def mGoneW1 (A:Ar) (i:Int):Ar:=mFix A (i+1) (!mAlive A (A.load (i+1)))
theorem mGoneW_snoc {A:Ar} {l:List Int} {k:Nat} (h:k<l.length):mGoneW A (l.take (k+1))=mGoneW1 (mGoneW A (l.take k)) (l.getD k 0):=by
 unfold mGoneW
 rw [←List.take_append_getElem h,List.foldl_append,List.getD_eq_getElem?_getD,List.getElem?_eq_getElem h];rfl
theorem mGoneE_snoc {A:Ar} {l:List Int} {k:Nat} (h:k<l.length):(l.take (k+1)).foldl mGoneE1 A=mGoneE1 ((l.take k).foldl mGoneE1 A) (l.getD k 0):=by
 rw [←List.take_append_getElem h,List.foldl_append,List.getD_eq_getElem?_getD,List.getElem?_eq_getElem h];rfl
section
variable {w w':World} {H:CH} {wv ev rv qv:Value} {rg:List (Int × Int)} {d:Md} {s:Ms} {c:Int}
theorem CutJ.var (J:CutJ w H wv ev s c) {b:Nat} (hb:PcAt w b H) {A:Ar} (t:ArenaTo w H.pa H.g w' A):PcAt w' b H:=t.k.blk hb (fun h=>by
 rcases h with h | h
 ·exact hb.ne J.ha.hp (by decide) h
 ·exact hb.ne J.ha.hg (by decide) h)
theorem mGone_c (J:CutJ w H wv ev s c) (hs:MsOk s 100000) :
  Calls Try.prog 66 #[.pointer (some ⟨H.pc,0,none⟩)] w fun e w'=>e=.returned (.tuple #[])∧ArenaTo w H.pa H.g w' (mGone s):=by
 obtain ⟨wo,wc,hwv,-,-,-⟩:=J.hw.rd
 obtain ⟨eo,ec,hev,-,-,-⟩:=J.he.rd
 subst hwv;subst hev
 have HJ0:=Hz J
 have hwb:=hs.wb;have heb:=hs.eb;have hl:=hs.len
 have HWB:=Hz hwb;have HEB:=Hz heb
 clear J hwb heb hs
 generalize hwx:w.alloc (.cells #[.pointer (some ⟨H.pc,0,none⟩)] 106)=wx
 have HK:=Hz (show Keeps (fun _=>False) w wx by rw [←hwx];exact (Keeps.refl _ _).alloc _)
 have HB:=Hz (show PcAt wx w.heap.size H by rw [←hwx];exact Blk.newAt _ rfl rfl)
 have HX:=Hz hwx
 have HJ:=Hz (HJ0.out.same HK.out)
 clear hwx
 have q3:=HJ0.out.cells.2.2.2.1;have cl:=HJ0.out.hc.lt
 go_enter Try.func66,Try.ntmps66
 go_wp2_with fail
 rw [HX.out]
 go_loopw [14] (fun u wr=>∃ k:Nat,k≤s.wk.length∧u=.int .i64 k∧ArenaTo wx H.pa H.g wr (mGoneW s.A (s.wk.take k))) (fun u _=>s.wk.length-(intOf u).toNat)
 case atStart=>exact ⟨0,Nat.zero_le _,rfl,ArenaTo.refl HJ.out.ha (Keeps.refl _ _)⟩
 case round=>
  clear q3 cl
  obtain ⟨k,hk,rfl,t⟩:=hrel
  have T:=Hz t
  have JR:=Hz (HJ.out.arena t)
  have BR:=Hz (HJ.out.var HB.out t)
  clear t
  have b0:=BR.out.cell 0;have bl:=BR.out.lt
  simp only [List.getElem?_cons_zero] at b0
  have c0:=JR.out.cells.1;have p0:=JR.out.cells.2.2.2.2.2.1;have pl:=JR.out.hp.lt;have cl:=JR.out.hc.lt
  by_cases hlt:k<s.wk.length
  ·obtain ⟨_,_,e',rd,-,-⟩:=JR.out.hw.rd
   cases e'
   obtain ⟨ge,oe,rfl,d0⟩:=rd.int k hlt
   have hgl:=(JR.out.hw.own rfl).1
   have hin:=HWB.out (s.wk.getD k 0) (by rw [List.getD_eq_getElem?_getD,List.getElem?_eq_getElem hlt];exact List.getElem_mem hlt)
   have HTK:=Hz (mGoneW_snoc (A:=s.A) hlt)
   generalize s.wk.getD k 0=i at *
   generalize mGoneW s.A (s.wk.take k)=B at *
   have hi1:IntKind.i64.wrap (i+1)=i+1:=IntWalk.i64_in _ (by omega)
   clear rd
   go_wp2_with fail
   have JD:=Hz (JR.out.same ((Kz wr).drew))
   have BD:=Hz (((Kz wr).drew).blk BR.out (fun h=>h))
   refine wp_region_ro (.free 0 (.free 1 (.free 2 (.free 11 (.free 12 (.pure 3 (.pure 4 (.free 5 (.free 6 (.pure 7 (.free 8 (.free 9 (.pure 10 (.run 13 (.run 14 (.swi [16] (.free 15 (.run 16 (.swi [] (.fin)))))))))))))))))))) [14,15,16] (fun w'=>w'.cell? ⟨w.heap.size,0,none⟩=some (.pointer (some ⟨H.pc,0,none⟩))∧w'.cell? ⟨H.pc,0,none⟩=some (.pointer (some ⟨H.p,0,none⟩))∧w'.cell? ⟨H.p,0,none⟩=some (.pointer (some ⟨H.pa,0,none⟩))) (by kernel_rfl) (by kernel_rfl) ⟨b0,c0,p0⟩ ?_
   iterate 13 first | (refine wpRO_free rfl rfl _ (fun w'=>by go_simp;exact Gives.mk _ _) (fun K hK=>?_);go_simp;refine hK _ ?_;clear hK K) | (refine wpRO_skipF rfl rfl (fun K hK=>?_);go_simp;refine hK _ ?_;clear hK K) | (refine wpRO_pure rfl rfl _ (fun w' hG=>by obtain ⟨g0,g1,g2⟩:=hG;exact gives_agg2 rfl (by decide +kernel) rfl (by assumption) (by assumption)) (fun K hK=>?_);go_simp;refine hK _ ?_;clear hK K) | (refine wpRO_pure rfl rfl _ (fun w' hG=>by obtain ⟨g0,g1,g2⟩:=hG;go_simp;exact Gives.mk _ _) (fun K hK=>?_);go_simp;refine hK _ ?_;clear hK K) | (refine wpRO_skip rfl rfl (fun K hK=>?_);go_simp;refine hK _ ?_;clear hK K)
   refine wpRO_run rfl rfl (fun K hK=>?_);unfold gRun;go_simp
   refine (Load_c (i+1) _ JD.out.ha).mono ?_
   rintro e w1 ⟨rfl,rfl⟩
   refine hK _ _ (fun h=>h) ?_
   clear hK K
   refine wpRO_chg rfl rfl rfl (fun K hK=>?_);unfold gRun;go_simp
   refine (mAlive_c (B.load (i+1)) JD.out).mono ?_
   rintro e w1 ⟨rfl,rfl⟩
   refine hK _ _ ?_
   clear hK K
   refine wpRO_swi (fun _=>True) trivial ?_
   iterate 1 first | (refine wpRO_free rfl rfl _ (fun w'=>by go_simp;exact Gives.mk _ _) (fun K hK=>?_);go_simp;refine hK _ ?_;clear hK K) | (refine wpRO_skipF rfl rfl (fun K hK=>?_);go_simp;refine hK _ ?_;clear hK K)
   refine wpRO_chg rfl rfl rfl (fun K hK=>?_);unfold gRun;go_simp
   refine (mFix_c (i+1) (!mAlive B (B.load (i+1))) w.heap.size JD.out BD.out).mono ?_
   rintro e w2 ⟨rfl,t⟩
   have T2:=Hz (T.out.trans (ArenaTo.from_same ((Kz wr).drew) t))
   clear t
   refine hK _ _ ?_
   clear hK K
   refine wpRO_swi (fun _=>True) trivial (wpRO_fin ?_)
   clear b0 bl c0 p0 pl cl d0
   go_wp2_with fail
   go_roundw
   case rel=>exact ⟨k+1,hlt,by go_num,by rw [HTK.out];exact T2.out⟩
   case measure=>simp [intOf];omega
  ·obtain rfl:k=s.wk.length:=by omega
   rw [List.take_length] at T JR
   have HW0:=Hz (show mGone s=s.ep.foldl mGoneE1 (mGoneW s.A s.wk) from rfl)
   generalize mGoneW s.A s.wk=B at *
   obtain ⟨w1,rfl⟩:∃ x:World,x=wr:=⟨wr,rfl⟩
   have q4:=JR.out.cells.2.2.2.2.1
   try dsimp only at q4
   go_wp2_with fail
   go_loopw [41] (fun u wr=>∃ k:Nat,k≤s.ep.length∧u=.int .i64 k∧ArenaTo w1 H.pa H.g wr ((s.ep.take k).foldl mGoneE1 B)) (fun u _=>s.ep.length-(intOf u).toNat)
   case atStart=>exact ⟨0,Nat.zero_le _,rfl,ArenaTo.refl JR.out.ha (Keeps.refl _ _)⟩
   case round=>
    clear b0 bl c0 p0 pl cl q4
    obtain ⟨k,hk,rfl,t⟩:=hrel
    have T4:=Hz t
    have JQ:=Hz (JR.out.arena t)
    have BQ:=Hz (JR.out.var BR.out t)
    clear t
    have b0:=BQ.out.cell 0;have bl:=BQ.out.lt
    simp only [List.getElem?_cons_zero] at b0
    have c0:=JQ.out.cells.1;have p0:=JQ.out.cells.2.2.2.2.2.1;have pl:=JQ.out.hp.lt;have cl:=JQ.out.hc.lt
    by_cases hlt2:k<s.ep.length
    ·obtain ⟨_,_,e',rd,-,-⟩:=JQ.out.he.rd
     cases e'
     obtain ⟨ge,oe,rfl,d0⟩:=rd.int k hlt2
     have hgl:=(JQ.out.he.own rfl).1
     have hin:=HEB.out (s.ep.getD k 0) (by rw [List.getD_eq_getElem?_getD,List.getElem?_eq_getElem hlt2];exact List.getElem_mem hlt2)
     have HTK:=Hz (mGoneE_snoc (A:=B) hlt2)
     generalize s.ep.getD k 0=i at *
     generalize (s.ep.take k).foldl mGoneE1 B=D at *
     have hi1:IntKind.i64.wrap (i+1)=i+1:=IntWalk.i64_in _ (by omega)
     have hi2:IntKind.i64.wrap (i+2)=i+2:=IntWalk.i64_in _ (by omega)
     clear rd
     go_wp2_with fail
     have JD:=Hz (JQ.out.same ((Kz wr).drew))
     have BD:=Hz (((Kz wr).drew).blk BQ.out (fun h=>h))
     refine wp_region_ro (.free 8 (.free 9 (.pure 0 (.pure 1 (.free 2 (.free 3 (.pure 4 (.free 5 (.free 6 (.pure 7 (.run 10 (.run 11 (.swi [] (.free 12 (.free 13 (.fin)))))))))))))))) [11,12,13] (fun w'=>w'.cell? ⟨w.heap.size,0,none⟩=some (.pointer (some ⟨H.pc,0,none⟩))∧w'.cell? ⟨H.pc,0,none⟩=some (.pointer (some ⟨H.p,0,none⟩))∧w'.cell? ⟨H.p,0,none⟩=some (.pointer (some ⟨H.pa,0,none⟩))) (by kernel_rfl) (by kernel_rfl) ⟨b0,c0,p0⟩ ?_
     iterate 10 first | (refine wpRO_free rfl rfl _ (fun w'=>by go_simp;exact Gives.mk _ _) (fun K hK=>?_);go_simp;refine hK _ ?_;clear hK K) | (refine wpRO_skipF rfl rfl (fun K hK=>?_);go_simp;refine hK _ ?_;clear hK K) | (refine wpRO_pure rfl rfl _ (fun w' hG=>by obtain ⟨g0,g1,g2⟩:=hG;exact gives_agg2 rfl (by decide +kernel) rfl (by assumption) (by assumption)) (fun K hK=>?_);go_simp;refine hK _ ?_;clear hK K) | (refine wpRO_pure rfl rfl _ (fun w' hG=>by obtain ⟨g0,g1,g2⟩:=hG;go_simp;exact Gives.mk _ _) (fun K hK=>?_);go_simp;refine hK _ ?_;clear hK K) | (refine wpRO_skip rfl rfl (fun K hK=>?_);go_simp;refine hK _ ?_;clear hK K)
     refine wpRO_run rfl rfl (fun K hK=>?_);unfold gRun;go_simp
     refine (Load_c (i+1) _ JD.out.ha).mono ?_
     rintro e w2 ⟨rfl,rfl⟩
     refine hK _ _ (fun h=>h) ?_
     clear hK K
     refine wpRO_chg rfl rfl rfl (fun K hK=>?_);unfold gRun;go_simp
     refine (mAlive_c (D.load (i+1)) JD.out).mono ?_
     rintro e w2 ⟨rfl,rfl⟩
     refine hK _ _ ?_
     clear hK K
     refine wpRO_swi (fun _=>True) trivial ?_
     iterate 2 first | (refine wpRO_free rfl rfl _ (fun w'=>by go_simp;exact Gives.mk _ _) (fun K hK=>?_);go_simp;refine hK _ ?_;clear hK K) | (refine wpRO_skipF rfl rfl (fun K hK=>?_);go_simp;refine hK _ ?_;clear hK K)
     refine wpRO_fin ?_
     clear b0 bl c0 p0 pl cl d0
     generalize hdd:(!mAlive D (D.load (i+1)))=dd
     have HDD:=Hz hdd
     clear hdd
     go_wp2_with fail
     refine (mFix_c (i+1) dd w.heap.size JD.out BD.out).mono ?_
     rintro e w3 ⟨rfl,t⟩
     have T3:=Hz (T4.out.trans (ArenaTo.from_same ((Kz wr).drew) t))
     have J3:=Hz (JD.out.arena t)
     have B3:=Hz (JD.out.var BD.out t)
     clear t
     go_wp2_with fail
     refine (mFix_c (i+2) dd w.heap.size J3.out B3.out).mono ?_
     rintro e w4 ⟨rfl,t⟩
     have T5:=Hz (T3.out.trans t)
     clear t
     go_wp2_with fail
     go_roundw
     case rel=>exact ⟨k+1,hlt2,by go_num,by rw [HTK.out,mGoneE1,HDD.out];exact T5.out⟩
     case measure=>simp [intOf];omega
    ·obtain rfl:k=s.ep.length:=by omega
     rw [List.take_length,←HW0.out] at T4
     have T6:=Hz (ArenaTo.from_same HK.out (T.out.trans T4.out))
     clear T4 JQ BQ
     go_wp2_with fail
     go_end0
     exact ⟨rfl,T6.out⟩
end
end
section
open Go.RowKit
theorem mRoots_snoc:∀ (l:List Int) (A:Ar) (x:Int),mRoots A (l ++ [x])=(mBring (mRoots A l).1 x,(mRoots A l).2 ++ [mNow (mBring (mRoots A l).1 x) x])
 | [],A,x=>rfl
 | y :: l,A,x=>by
  show ((mRoots (mBring A y) (l ++ [x])).1,mNow (mBring A y) y :: (mRoots (mBring A y) (l ++ [x])).2)=_
  rw [mRoots_snoc l]
  rfl
theorem mRoots_len:∀ (l:List Int) (A:Ar),(mRoots A l).2.length=l.length
 | [],A=>rfl
 | y :: l,A=>by
  show (mNow (mBring A y) y :: (mRoots (mBring A y) l).2).length=_
  rw [List.length_cons,mRoots_len l,List.length_cons]
def rootsN (A:Ar) (rt:List Int) (k:Nat):List Int:=(mRoots A (rt.take k)).2 ++ rt.drop k
theorem rootsN_len {A:Ar} {rt:List Int} {k:Nat} (h:k≤rt.length):(rootsN A rt k).length=rt.length:=by
 unfold rootsN
 rw [List.length_append,mRoots_len,List.length_take,List.length_drop];omega
theorem rootsN_get {A:Ar} {rt:List Int} {k:Nat} (h:k<rt.length):(rootsN A rt k).getD k 0=rt.getD k 0:=by
 unfold rootsN
 have hl:(mRoots A (rt.take k)).2.length=k:=by rw [mRoots_len,List.length_take];omega
 rw [List.getD_eq_getElem?_getD,List.getElem?_append_right (by omega),hl,Nat.sub_self,List.getElem?_drop,Nat.add_zero,List.getD_eq_getElem?_getD]
theorem rootsN_step {A:Ar} {rt:List Int} {k:Nat} (h:k<rt.length):(mRoots A (rt.take (k+1))).1=mBring (mRoots A (rt.take k)).1 (rt.getD k 0) ∧
  (rootsN A rt k).set k (mNow (mBring (mRoots A (rt.take k)).1 (rt.getD k 0)) (rt.getD k 0))=rootsN A rt (k+1):=by
 have e:rt.getD k 0=rt[k]:=by rw [List.getD_eq_getElem?_getD,List.getElem?_eq_getElem h];rfl
 have hs:=mRoots_snoc (rt.take k) A (rt[k])
 rw [List.take_append_getElem h] at hs
 have hl:(mRoots A (rt.take k)).2.length=k:=by rw [mRoots_len,List.length_take];omega
 rw [e]
 refine ⟨by rw [hs],?_⟩
 unfold rootsN
 rw [hs,List.set_append_right _ _ (by omega),hl,Nat.sub_self,List.drop_eq_getElem_cons h,List.set_cons_zero,List.append_assoc]
 rfl
structure MC (w0:World) (h:WH) (w:World) (pc:Nat) (n0:Int) (wv ev rv qv:Value) (cd:List Bool) (rt:List Int) (rg:List (Int × Int)) (d:Md):Prop where
 C:CS w ⟨h.p,h.pa,h.g,h.pc,h.ps,h.ro,pc,n0⟩ wv ev rv qv rg d
 hc:CardsAt w h.pc h.cb n0 cd
 hr:Sl w 2 1 h.ro rt.length (rt.map (Value.int .i64))
 ap:¬ ownB h.ro h.g
 K:Keeps h.Own w0 w
 own:∀ k,((CH.mk h.p h.pa h.g h.pc h.ps h.ro pc n0).Own wv ev k∨SideFp h.ps rv qv k)→h.Own k∨w0.heap.size≤k
section
variable {w0 w w':World} {h:WH} {pc:Nat} {n0:Int} {wv ev rv qv:Value} {cd:List Bool} {rt:List Int} {rg:List (Int × Int)} {d d':Md}
theorem MC.type (M:MC w0 h w pc n0 wv ev rv qv cd rt rg d) {b:Nat} {l:List Value} {T:TypeId} (hb:Blk w b l T) (h1:T≠43∧T≠70∧T≠2∧T≠108∧T≠3∧T≠53∧T≠100) :
  ¬ ((CH.mk h.p h.pa h.g h.pc h.ps h.ro pc n0).Own wv ev b∨SideFp h.ps rv qv b):=by
 rintro (hk | hk)
 ·obtain ⟨_,U,h',hU⟩:=M.C.J.own_type hk
  refine hb.ne h' ?_ rfl
  rcases hU with rfl | rfl | rfl | rfl | rfl
  ·exact h1.1
  ·exact h1.2.1
  ·exact h1.2.2.1
  ·exact h1.2.2.2.1
  ·exact h1.2.2.2.2.1
 ·obtain ⟨_,U,h',hU⟩:=M.C.S.fp_type hk
  refine hb.ne h' ?_ rfl
  rcases hU with rfl | rfl
  ·exact h1.2.2.2.2.2.1
  ·exact h1.2.2.2.2.2.2
theorem MC.roots_ne (M:MC w0 h w pc n0 wv ev rv qv cd rt rg d) {b:Nat} (hb:ownB h.ro b):¬ ((CH.mk h.p h.pa h.g h.pc h.ps h.ro pc n0).Own wv ev b∨SideFp h.ps rv qv b):=by
 obtain ⟨_,l,hbl⟩:=M.hr.own hb
 rintro ((hk | hk | hk | hk | hk | hk) | hk)
 ·exact hbl.ne M.C.J.hp (by decide) hk
 ·exact hbl.ne M.C.J.ha.hp (by decide) hk
 ·subst hk;exact M.ap hb
 ·exact hbl.ne M.C.J.hc (by decide) hk
 ·obtain ⟨_,l',h'⟩:=M.C.J.hw.own hk;exact hbl.ne h' (by decide) rfl
 ·obtain ⟨_,l',h'⟩:=M.C.J.he.own hk;exact hbl.ne h' (by decide) rfl
 ·obtain ⟨_,U,h',hU⟩:=M.C.S.fp_type hk
  refine hbl.ne h' ?_ rfl
  rcases hU with rfl | rfl <;> decide
theorem MC.step (M:MC w0 h w pc n0 wv ev rv qv cd rt rg d) (t:CSTo w ⟨h.p,h.pa,h.g,h.pc,h.ps,h.ro,pc,n0⟩ wv ev rv qv rg d' w'):∃ wv' ev',MC w0 h w' pc n0 wv' ev' rv qv cd rt rg d'∧∀ k,(CH.mk h.p h.pa h.g h.pc h.ps h.ro pc n0).Own wv' ev' k→(CH.mk h.p h.pa h.g h.pc h.ps h.ro pc n0).Own wv ev k∨w.heap.size≤k:=by
 obtain ⟨a,b,C',k,o⟩:=t
 refine ⟨a,b,⟨C',M.hc.keep k (M.type M.hc.hp (by decide)) (M.type M.hc.hq (by decide)),M.hr.keep k (fun b hb=>M.roots_ne hb),M.ap,M.K.then k (fun k hk=>M.own k hk),fun k hk=>?_⟩,o⟩
 rcases hk with hk | hk
 ·rcases o k hk with h1 | h1
  ·exact M.own k (.inl h1)
  ·exact .inr (Nat.le_trans M.K.size h1)
 ·exact M.own k (.inr hk)
theorem MC.same (M:MC w0 h w pc n0 wv ev rv qv cd rt rg d) (k:Keeps (fun _=>False) w w'):MC w0 h w' pc n0 wv ev rv qv cd rt rg d:=
 ⟨M.C.same k,M.hc.keep k (fun h=>h) (fun h=>h),M.hr.keep k (fun _ _ h=>h),M.ap,M.K.trans (k.mono fun _ _ h=>h.elim),M.own⟩
def OwnI (h:WH) (pc:Nat) (n0:Int) (sz:Nat) (wv ev:Value):Prop:=∀ k,(CH.mk h.p h.pa h.g h.pc h.ps h.ro pc n0).Own wv ev k→(k=h.p∨k=h.pa∨k=h.g∨k=pc)∨sz≤k
theorem OwnI.nil (h:WH) (pc:Nat) (n0:Int) (sz:Nat):OwnI h pc n0 sz (.slice none 0 0) (.slice none 0 0):=by
 rintro k (h | h | h | h | h | h)
 ·exact .inl (.inl h)
 ·exact .inl (.inr (.inl h))
 ·exact .inl (.inr (.inr (.inl h)))
 ·exact .inl (.inr (.inr (.inr h)))
 ·exact (nil_own h).elim
 ·exact (nil_own h).elim
theorem OwnI.step {sz:Nat} {wv' ev':Value} (hI:OwnI h pc n0 sz wv ev) (o:∀ k,(CH.mk h.p h.pa h.g h.pc h.ps h.ro pc n0).Own wv' ev' k→(CH.mk h.p h.pa h.g h.pc h.ps h.ro pc n0).Own wv ev k∨w.heap.size≤k) (hsz:sz≤w.heap.size):OwnI h pc n0 sz wv' ev':=fun k hk=>by
 rcases o k hk with h1 | h1
 ·exact hI k h1
 ·exact .inr (Nat.le_trans hsz h1)
theorem MC.list_apart (M:MC w0 h w pc n0 wv ev rv qv cd rt rg d) {sz n:Nat} {v:Value} {xs:List Value} (hI:OwnI h pc n0 sz wv ev) (hs:Sl w 3 1 v n xs) (hlt:∀ b,ownB v b→b<sz) {b:Nat} (hb:ownB v b) :
  ¬ ((CH.mk h.p h.pa h.g h.pc h.ps h.ro pc n0).Own wv ev b∨SideFp h.ps rv qv b):=by
 obtain ⟨_,l,h'⟩:=hs.own hb
 rintro (hk | hk)
 ·rcases hI b hk with (h1 | h1 | h1 | h1) | h1
  ·exact h'.ne M.C.J.hp (by decide) h1
  ·exact h'.ne M.C.J.ha.hp (by decide) h1
  ·exact h'.ne M.C.J.ha.hg (by decide) h1
  ·exact h'.ne M.C.J.hc (by decide) h1
  ·have:=hlt b hb;omega
 ·obtain ⟨_,U,h2,hU⟩:=M.C.S.fp_type hk
  refine h'.ne h2 ?_ rfl
  rcases hU with rfl | rfl <;> decide
theorem MC.root (M:MC w0 h w pc n0 wv ev rv qv cd rt rg d) {g o cap k:Nat} {x:Int} (e:h.ro=.slice (some ⟨g,o,none⟩) rt.length cap) (hk:k<rt.length) :
  MC w0 h (w.setCell ⟨g,o+k,none⟩ (.int .i64 x)) pc n0 wv ev rv qv cd (rt.set k x) rg d:=by
 have hown:ownB h.ro g:=by rw [e];rfl
 have kk:Keeps (ownB h.ro) w (w.setCell ⟨g,o+k,none⟩ (.int .i64 x)):=(Keeps.refl _ _).setCell (p:=⟨g,o+k,none⟩) (.inl hown) _
 have ne:∀ {b:Nat} {c:List Value} {T:TypeId},Blk w b c T→T≠2→¬ ownB h.ro b:=fun hb h1 hf=>by
  obtain ⟨_,c',hc⟩:=M.hr.own hf
  exact hb.ne hc h1 rfl
 refine ⟨M.C.keep kk (fun b hb ho=>M.roots_ne ho (.inl hb)) (fun b hb ho=>M.roots_ne ho (.inr hb)),M.hc.keep kk (ne M.hc.hp (by decide)) (ne M.hc.hq (by decide)),?_,M.ap,M.K.trans (kk.mono (fun k _ hk=>.inr (.inr (.inr (.inr hk))))),M.own⟩
 have hs:=M.hr
 rw [e] at hs ⊢
 have:=hs.set (j:=k) (u:=.int .i64 x) (by omega)
 rw [List.length_set,List.map_set]
 exact this
theorem MC.rootCells (M:MC w0 h w pc n0 wv ev rv qv cd rt rg d) (h12:rt.length=12):∃ g o cap,h.ro=.slice (some ⟨g,o,none⟩) 12 cap∧g<w.heap.size∧(∀ k,w.frozen? ⟨g,k,none⟩=false)∧∀ k,k<rt.length→w.cell? ⟨g,o+k,none⟩=some (.int .i64 (rt.getD k 0)):=by
 obtain ⟨ao,cap,e,hrd,-,-⟩:=M.hr.rd
 obtain ⟨g,o,rfl,hg,hc⟩:=hrd (by intro e;have:=congrArg List.length e;rw [List.length_map,h12] at this;cases this)
 have hown:ownB h.ro g:=by rw [e];rfl
 obtain ⟨-,cur,hb⟩:=M.hr.own hown
 refine ⟨g,o,cap,by rw [e,h12],hg,fun k=>hb.free k,fun k hk=>?_⟩
 rw [hc k (by simpa using hk)]
 simp [List.getD,hk]
structure ME (w0:World) (h:WH) (w:World) (pc:Nat) (n0:Int) (wv ev rv qv:Value) (cd:List Bool) (rt:List Int) (rg wt:List (Int × Int)) (s:Ms) (c:Int):Prop where
 J:CutJ w ⟨h.p,h.pa,h.g,h.pc,h.ps,h.ro,pc,n0⟩ wv ev s c
 S:SideAt w h.ps rv qv rg wt
 hc:CardsAt w h.pc h.cb n0 cd
 hr:Sl w 2 1 h.ro rt.length (rt.map (Value.int .i64))
 ap:¬ ownB h.ro h.g
 K:Keeps h.Own w0 w
 own:∀ k,SideFp h.ps rv qv k→h.Own k∨w0.heap.size≤k
theorem ME.arena {wt:List (Int × Int)} {s:Ms} {c:Int} {A:Ar} (M:ME w0 h w pc n0 wv ev rv qv cd rt rg wt s c) (t:ArenaTo w h.pa h.g w' A):ME w0 h w' pc n0 wv ev rv qv cd rt rg wt { s with A:=A } c:=by
 have n1:∀ {b:Nat} {c:List Value} {T:TypeId},Blk w b c T→T≠70→T≠2→¬ (b=h.pa∨b=h.g):=fun hb h1 h2 e=>by
  rcases e with e | e
  ·exact hb.ne M.J.ha.hp h1 e
  ·exact hb.ne M.J.ha.hg h2 e
 refine ⟨M.J.arena t,M.S.keep t.k (fun b hb=>?_),M.hc.keep t.k (n1 M.hc.hp (by decide) (by decide)) (n1 M.hc.hq (by decide) (by decide)),M.hr.keep t.k (fun b hb=>?_),M.ap,M.K.trans (t.k.mono (fun k _ hk=>.inr (.inl hk))),M.own⟩
 ·obtain ⟨c,T,hc,hT⟩:=M.S.fp_type hb
  rcases hT with rfl | rfl
  ·exact n1 hc (by decide) (by decide)
  ·exact n1 hc (by decide) (by decide)
 ·obtain ⟨_,l,hb'⟩:=M.hr.own hb
  rintro (rfl | rfl)
  ·exact hb'.ne M.J.ha.hp (by decide) rfl
  ·exact M.ap hb
theorem ME.cards {wt:List (Int × Int)} {s:Ms} {c:Int} {l:List Bool} (M:ME w0 h w pc n0 wv ev rv qv cd rt rg wt s c) (t:CardsAt w' h.pc h.cb n0 l) (k:Keeps (·=h.cb) w w'):ME w0 h w' pc n0 wv ev rv qv l rt rg wt s c:=by
 have n1:∀ {b:Nat} {c:List Value} {T:TypeId},Blk w b c T→T≠4→¬ (b=h.cb):=fun hb h1 e=>hb.ne M.hc.hq h1 e
 refine ⟨M.J.keep k (fun b hb=>?_),M.S.keep k (fun b hb=>?_),t,M.hr.keep k (fun b hb=>?_),M.ap,M.K.trans (k.mono (fun k _ hk=>.inr (.inr (.inl (.inr hk))))),M.own⟩
 ·obtain ⟨_,T,hc,hT⟩:=M.J.own_type hb
  refine n1 hc ?_
  rcases hT with rfl | rfl | rfl | rfl | rfl <;> decide
 ·obtain ⟨c,T,hc,hT⟩:=M.S.fp_type hb
  refine n1 hc ?_
  rcases hT with rfl | rfl <;> decide
 ·obtain ⟨_,l,hb'⟩:=M.hr.own hb
  exact n1 hb' (by decide)
theorem ME.done {wt:List (Int × Int)} {s:Ms} {c:Int} (M:ME w0 h w pc n0 wv ev rv qv cd rt rg wt s c) (hn:n0=s.A.nur) (hok:(Wo.mk s.A cd rt rg wt).ok):WoodTo w0 h w ⟨s.A,cd,rt,rg,wt⟩:=by
 refine ⟨⟨h.p,h.pa,h.g,h.pc,h.cb,h.ps,rv,qv,h.ro⟩,⟨M.J.hp,M.J.ha,by dsimp only;rw [←hn];exact M.hc,M.S,M.hr,M.ap,hok⟩,rfl,M.K,?_⟩
 rintro k (hk | hk | hk | hk | hk)
 ·exact .inl (.inl hk)
 ·exact .inl (.inr (.inl hk))
 ·exact .inl (.inr (.inr (.inl hk)))
 ·exact M.own k hk
 ·exact .inl (.inr (.inr (.inr (.inr hk))))
end
theorem list_bounds (A:Ar):∀ (n:Nat) (i j:Int), ∀ p ∈ A.list n i j,i≤p∧p<j
 | 0,i,j,p,h=>by unfold Ar.list at h;cases h
 | n+1,i,j,p,h=>by
  unfold Ar.list at h
  split at h
  ·split at h
   ·rename_i h1 h2
    have hf:=A.thing_fields i
    rcases List.mem_cons.1 h with rfl | h
    ·omega
    ·have:=list_bounds A n _ _ p h;omega
   ·cases h
  ·cases h
theorem Sm.goneW {A:Ar}:∀ (l:List Int) {B:Ar},Sm A B→Sm A (mGoneW B l)
 | [],B,h=>h
 | i :: l,B,h=>Sm.goneW l (h.trans (Sm.fix h.ok (i+1) _))
theorem Sm.goneE {A:Ar}:∀ (l:List Int) {B:Ar},Sm A B→Sm A (l.foldl mGoneE1 B)
 | [],B,h=>h
 | i :: l,B,h=>Sm.goneE l ((h.trans (Sm.fix h.ok (i+1) _)).trans (Sm.fix (Sm.fix h.ok (i+1) _).ok (i+2) _))
theorem Sm.gone {s:Ms} (h:s.A.ok):Sm s.A (mGone s):=Sm.goneE s.ep (Sm.goneW s.wk (Sm.refl h))
theorem mDirty_snoc {base:Int} {cd:List Bool} {s:Ms} {l:List Int} {k:Nat} (h:k<l.length):mDirty base cd s (l.take (k+1))=if dirtyL base cd (l.getD k 0)=true then mLook (mDirty base cd s (l.take k)) (l.getD k 0) else mDirty base cd s (l.take k):=by
 unfold mDirty
 rw [←List.take_append_getElem h,List.foldl_append,List.getD_eq_getElem?_getD,List.getElem?_eq_getElem h];rfl
end
section
open Go.RowKit
def MinorRet (w:World) (h:WH) (O:Wo) (e:Ending) (w':World):Prop:=e=.returned (.int .i64 (mCut O).1)∧WoodTo w h w' (mCut O).2
section
variable {w w':World} {h:WH} {O:Wo}
theorem minorCut_c {W:Wd} {φ:Int→Int} (R:Rep O W φ) (H:WoodAt w h O) :
  Calls Try.prog 34 #[.pointer (some ⟨h.p,0,none⟩)] w (MinorRet w h O):=by
 have HH:=Hz H
 have hok:=H.ok
 obtain ⟨p0,p1,p2,p3⟩:=H.ptrs
 have pl:=H.hp.lt
 have o1:=hok.ha.h1;have o2:=hok.ha.h2;have o3:=hok.ha.h3;have o4:=hok.ha.h4
 have HR:=Hz R
 clear H R
 have HOK:=Hz hok
 clear hok
 go_enter Try.func34,Try.ntmps34
 go_wp2_with fail
 refine (Used_c w HH.out.ha).mono ?_
 rintro e w1 ⟨rfl,hk⟩
 have H1:=Hz (HH.out.keep hk (fun _ _ h=>h));have K1:=Hz hk
 clear p0 p1 p2 p3 pl hk
 obtain ⟨p0,p1,p2,p3⟩:=H1.out.ptrs
 have pl:=H1.out.hp.lt
 go_wp2_with fail
 refine (Free_c w1 H1.out.ha).mono ?_
 rintro e w2 ⟨rfl,hk⟩
 have H2:=Hz (H1.out.keep hk (fun _ _ h=>h));have K2:=Hz (K1.out.trans hk)
 clear p0 p1 p2 p3 pl hk H1 K1
 by_cases hfull:(O.ar.yng:Int) > (O.ar.ws.length:Int)-O.ar.grn
 ·have HE:=Hz (show mCut O=(3,O) by unfold mCut;rw [if_pos hfull])
  have hd:decide (((O.ar.ws.length-O.ar.grn:Nat):Int)<(O.ar.yng:Int))=true:=by simp;omega
  have hd2:decide (O.ar.ws.length-O.ar.grn<O.ar.yng)=true:=by simp;omega
  clear hfull
  go_wp2_with fail
  go_ret
  refine ⟨by rw [HE.out];rfl,?_⟩
  rw [HE.out]
  exact WoodTo.same HH.out K2.out
 ·have hd:decide (((O.ar.ws.length-O.ar.grn:Nat):Int)<(O.ar.yng:Int))=false:=by simp;omega
  have hd2:decide (O.ar.ws.length-O.ar.grn<O.ar.yng)=false:=by simp;omega
  have HF:=Hz hfull
  clear hfull
  obtain ⟨p0,p1,p2,p3⟩:=H2.out.ptrs
  have pl:=H2.out.hp.lt
  go_wp2_with fail
  clear hd hd2
  refine (Bounds_c w2 H2.out.ha).mono ?_
  rintro e w3 ⟨rfl,hk⟩
  have H3:=Hz (H2.out.keep hk (fun _ _ h=>h));have K3:=Hz (K2.out.trans hk)
  clear p0 p1 p2 p3 pl hk H2 K2
  obtain ⟨p0,p1,p2,p3⟩:=H3.out.ptrs
  have pl:=H3.out.hp.lt
  go_wp2_with fail
  generalize hwb:w3.alloc (.cells #[.pointer (some ⟨h.p,0,none⟩), .int .i64 O.ar.nur, .int .i64 0, .slice none 0 0, .slice none 0 0] 108)=wb
  have KB:=Hz (show Keeps (fun _=>False) w3 wb by rw [←hwb];exact (Keeps.refl _ _).alloc _)
  have HB:=Hz (show Blk wb w3.heap.size [.pointer (some ⟨h.p,0,none⟩), .int .i64 O.ar.nur, .int .i64 0, .slice none 0 0, .slice none 0 0] 108 by rw [←hwb];exact Blk.newAt _ rfl rfl)
  have MB:=Hz (show MC w h wb w3.heap.size O.ar.nur (.slice none 0 0) (.slice none 0 0) h.rv h.wv O.cd O.rt O.rg ⟨⟨O.ar,[],[]⟩,0,O.wt⟩ by
   have HBW:=H3.out.keep KB.out (fun _ _ h=>h)
   have hok:=HOK.out
   refine ⟨⟨⟨HBW.hp,HBW.ha,HB.out,Sl.nil _ _ _,Sl.nil _ _ _,fun k hk=>nil_own hk.1⟩,HBW.hs,⟨hok.ha,⟨by simp,(fun i hi=>by cases hi),(fun i hi=>by cases hi)⟩,by show (0:Int)≤0;omega,by show (0:Int)≤1300;omega⟩,fun e he=>hok.hw e he,rfl,by have:=hok.hq;dsimp only;omega⟩,HBW.hc,HBW.hr,HBW.ap,(K3.out.trans KB.out).mono (fun _ _ h=>h.elim),?_⟩
   rintro k ((rfl | rfl | rfl | rfl | hk | hk) | hk)
   ·exact .inl (.inl rfl)
   ·exact .inl (.inr (.inl (.inl rfl)))
   ·exact .inl (.inr (.inl (.inr rfl)))
   ·exact .inr K3.out.size
   ·exact (nil_own hk).elim
   ·exact (nil_own hk).elim
   ·exact .inl (.inr (.inr (.inr (.inl hk)))))
  clear hwb p0 p1 p2 p3 pl H3 HB KB
  generalize w3.heap.size=pc at *
  go_wp2_with fail
  refine (Things_c wb MB.out.C.J.ha).mono ?_
  rintro e w4 ⟨ao,ac,bo,bc,rfl,-,hls,hk,-,hlo⟩
  have M4:=Hz (MB.out.same hk);have HLS:=Hz hls;have HLO:=Hz hlo
  have HLT:=Hz (fun b hb=>(hls.own (k:=b) hb).1)
  clear hls hlo hk
  have cl:=M4.out.C.J.hc.lt
  go_wp2_with fail
  refine (mTop_c M4.out.C.J M4.out.C.nb).mono ?_
  rintro e w5 ⟨rfl,hk⟩
  have HSZ5:=Hz hk.size
  have M5:=Hz (M4.out.same hk);have HLS5:=Hz (HLS.out.keep hk (fun _ _ h=>h))
  clear hk cl HLS
  have q2:=M5.out.C.J.cells.2.2.1;have cl:=M5.out.C.J.hc.lt;have fz:=M5.out.C.J.hc.free 2
  have q3:=M5.out.C.J.cells.2.2.2.2.2.2.2.2;have pl:=M5.out.C.J.hp.lt
  dsimp only at q2 q3
  obtain ⟨gr,og,rcap,ero,-,-,-⟩:=M5.out.rootCells HOK.out.h12
  have HRO:=Hz ero
  rw [ero] at q3
  clear ero
  have HA5:=Hz M5.out.C.ok.ok
  have hsto:=(M5.out.C.J.setC (O.ar.grn:Int))
  obtain ⟨wv6,ev6,M6',o6⟩:=M5.out.step (M5.out.C.cut hsto ⟨M5.out.C.ok.ok,M5.out.C.ok.ms.more (by dsimp only;omega),by omega,by omega⟩ rfl)
  have M6:=Hz M6'
  have HI6:=Hz ((OwnI.nil h pc O.ar.nur w4.heap.size).step o6 HSZ5.out)
  have HLS6:=Hz (HLS5.out.keep ((Keeps.refl (·=pc) w5).setCell (p:=⟨pc,2,none⟩) (.inl rfl) (.int .i64 (O.ar.grn:Int))) (fun b hb e=>by
   obtain ⟨_,l,h'⟩:=HLS5.out.own hb
   exact h'.ne M5.out.C.J.hc (by decide) e))
  clear M6' hsto o6
  dsimp only at M6 HLS6
  go_wp2_with fail
  have HSZ6:=Hz (show w5.heap.size≤(w5.setCell ⟨pc,2,none⟩ (.int .i64 (O.ar.grn:Int))).heap.size by simp)
  generalize w5.setCell ⟨pc,2,none⟩ (.int .i64 (O.ar.grn:Int))=w6 at *
  clear M5 HLS5 q2 q3 cl fz pl MB M4
  go_loopw [65] (fun u wr=>∃ k:Nat,k≤12∧u=.int .i64 k∧∃ wv ev,MC w h wr pc O.ar.nur wv ev h.rv h.wv O.cd (rootsN O.ar O.rt k) O.rg ⟨⟨(mRoots O.ar (O.rt.take k)).1,[],[]⟩,O.ar.grn,O.wt⟩∧OwnI h pc O.ar.nur w4.heap.size wv ev∧w4.heap.size≤wr.heap.size∧Sl wr 3 1 (.slice bo O.ar.things.2.length bc) O.ar.things.2.length (O.ar.things.2.map (Value.int .i64))) (fun u _=>12-(intOf u).toNat)
  case atStart=>exact ⟨0,Nat.zero_le _,rfl,_,_,M6.out,HI6.out,by have:=HSZ5.out;have:=HSZ6.out;omega,HLS6.out⟩
  case round=>
   clear M6 HLS6 HI6 ev6 wv6
   obtain ⟨k,hk,rfl,wv,ev,hM,hI,hsz,hls⟩:=hrel
   have M:=Hz hM;have HLS:=Hz hls;have HI:=Hz hI;have HSR:=Hz hsz
   clear hM hls hI hsz
   by_cases hlt:k<12
   ·have hl12:=HOK.out.h12
    have hrl:(rootsN O.ar O.rt k).length=12:=by rw [rootsN_len (by omega)];exact hl12
    have hst:=rootsN_step (A:=O.ar) (rt:=O.rt) (k:=k) (by omega)
    have hgt:=rootsN_get (A:=O.ar) (rt:=O.rt) (k:=k) (by omega)
    have HST:=Hz hst
    obtain ⟨gr',og',rcap',ero,hgl,hfz,hcl⟩:=M.out.rootCells hrl
    rw [HRO.out] at ero
    cases ero
    have d0:=hcl k (by omega)
    rw [hgt] at d0
    have q3:=M.out.C.J.cells.2.2.2.2.2.2.2.2;have pl:=M.out.C.J.hp.lt
    dsimp only at q3
    rw [HRO.out] at q3
    have hf:=hfz (og+k)
    have HFZ:=Hz hfz
    clear hst hgt hcl hl12 hfz
    generalize O.rt.getD k 0=x at *
    go_wp2_with fail
    have MD:=Hz (M.out.same ((Kz wr).drew))
    refine wp_region_ro (.free 0 (.free 1 (.free 2 (.free 4 (.free 5 (.free 6 (.pure 3 (.run 7 (.free 8 (.run 9 (.swi [] (.fin)))))))))))) [9] (fun w'=>w'.cell? ⟨h.p,3,none⟩=some (.slice (some ⟨gr,og,none⟩) 12 rcap)) (by kernel_rfl) (by kernel_rfl) q3 ?_
    iterate 7 first | (refine wpRO_free rfl rfl _ (fun w'=>by go_simp;exact Gives.mk _ _) (fun K hK=>?_);go_simp;refine hK _ ?_;clear hK K) | (refine wpRO_skipF rfl rfl (fun K hK=>?_);go_simp;refine hK _ ?_;clear hK K) | (refine wpRO_pure rfl rfl _ (fun w' hG=>by obtain g0:=hG;exact gives_agg2 rfl (by decide +kernel) rfl (by assumption) (by assumption)) (fun K hK=>?_);go_simp;refine hK _ ?_;clear hK K) | (refine wpRO_pure rfl rfl _ (fun w' hG=>by obtain g0:=hG;go_simp;exact Gives.mk _ _) (fun K hK=>?_);go_simp;refine hK _ ?_;clear hK K) | (refine wpRO_skip rfl rfl (fun K hK=>?_);go_simp;refine hK _ ?_;clear hK K)
    refine wpRO_run rfl rfl (fun K hK=>?_);unfold gRun;go_simp
    refine (mBring_c x MD.out.C.J).mono ?_
    rintro e w7 ⟨rfl,t⟩
    have T:=Hz t
    have hsm:=Sm.bring MD.out.C.ok.ok x
    obtain ⟨wv7,ev7,M7',o7⟩:=MD.out.step (MD.out.C.cut (MD.out.C.J.arenaTo t) (MD.out.C.ok.arena hsm.ok) hsm.nur)
    have M7:=Hz M7'
    have HI7:=Hz (HI.out.step o7 HSR.out)
    have HS7:=Hz (Nat.le_trans HSR.out t.k.size)
    have q3':=M7.out.C.J.cells.2.2.2.2.2.2.2.2
    dsimp only at q3'
    rw [HRO.out] at q3'
    refine hK _ _ (fun _=>q3') ?_
    clear hK K M7' o7 hsm t q3 q3' d0 hgl pl hf
    obtain ⟨gr',og',rcap',ero,hgl,hfz,hcl⟩:=M7.out.rootCells hrl
    rw [HRO.out] at ero
    cases ero
    have d0:=hcl k (by omega)
    have hf:=hfz (og+k)
    clear hcl hfz
    iterate 1 first | (refine wpRO_free rfl rfl _ (fun w'=>by go_simp;exact Gives.mk _ _) (fun K hK=>?_);go_simp;refine hK _ ?_;clear hK K) | (refine wpRO_skipF rfl rfl (fun K hK=>?_);go_simp;refine hK _ ?_;clear hK K)
    refine wpRO_chg rfl rfl rfl (fun K hK=>?_);unfold gRun;go_simp
    refine hK _ _ ?_
    clear hK K d0 hf
    refine wpRO_swi (fun _=>True) trivial (wpRO_fin ?_)
    have M8:=Hz (M7.out.root (x:=mNow (mBring (mRoots O.ar (O.rt.take k)).1 x) x) (by rw [HRO.out,hrl]) (by rw [hrl];exact hlt))
    have HL8:=Hz (show Sl (w7.setCell ⟨gr,og+k,none⟩ (.int .i64 (mNow (mBring (mRoots O.ar (O.rt.take k)).1 x) x))) 3 1 (.slice bo O.ar.things.2.length bc) O.ar.things.2.length (O.ar.things.2.map (Value.int .i64)) by
     have k1:=(Kz wr).drew
     have h1:=HLS.out.keep k1 (fun _ _ h=>h)
     have h2:=h1.keep T.out.k (fun b hb e=>MD.out.list_apart HI.out h1 HLT.out hb (.inl (e.elim (fun e=>.inr (.inl e)) (fun e=>.inr (.inr (.inl e))))))
     refine h2.keep ((Keeps.refl (·=gr) w7).setCell (p:=⟨gr,og+k,none⟩) (.inl rfl) _) (fun b hb e=>?_)
     obtain ⟨_,l,h'⟩:=M7.out.hr.own (k:=gr) (by rw [HRO.out];rfl)
     obtain ⟨_,l2,h3⟩:=h2.own hb
     exact h3.ne h' (by decide) e)
    rw [HST.out.2] at M8
    clear M7 T MD
    go_wp2_with fail
    go_roundw
    case rel=>exact ⟨k+1,hlt,by go_num,_,_,by rw [HST.out.1];exact M8.out,HI7.out,by have:=HS7.out;simpa using this,HL8.out⟩
    case measure=>simp [intOf];omega
   ·obtain rfl:k=12:=by omega
    have hr12:rootsN O.ar O.rt 12=(mRoots O.ar O.rt).2:=by
     unfold rootsN
     rw [List.take_of_length_le (by rw [HOK.out.h12];exact Nat.le_refl _),List.drop_eq_nil_of_le (by rw [HOK.out.h12];exact Nat.le_refl _),List.append_nil]
    rw [hr12,List.take_of_length_le (by rw [HOK.out.h12];exact Nat.le_refl _)] at M
    clear hr12 hlt hk
    obtain ⟨w7,rfl⟩:∃ x:World,x=wr:=⟨wr,rfl⟩
    have HLL:=Hz (show O.ar.things.2.length≤1300 from Ar.list_len O.ar 1300 _ _)
    have HLB:=Hz (show ∀ p ∈ O.ar.things.2,0≤p∧p≤1300 from fun p hp=>by have:=list_bounds O.ar 1300 _ _ p hp;omega)
    obtain ⟨L,hL⟩:∃ L,O.ar.things.2=L:=⟨_,rfl⟩
    have HLE:=Hz hL
    rw [hL] at HLS HLL HLB HLT
    obtain ⟨A1,hA1⟩:∃ A,(mRoots O.ar O.rt).1=A:=⟨_,rfl⟩
    have HA1:=Hz hA1
    rw [hA1] at M
    obtain ⟨rt1,hrt1⟩:∃ l,(mRoots O.ar O.rt).2=l:=⟨_,rfl⟩
    have HRT:=Hz hrt1
    rw [hrt1] at M
    rw [hL]
    clear hL hA1 hrt1
    have hll:=HLL.out
    go_wp2_with fail
    go_loopw [82] (fun u wr=>∃ k:Nat,k≤L.length∧u=.int .i64 k∧∃ wv ev,MC w h wr pc O.ar.nur wv ev h.rv h.wv O.cd rt1 O.rg ⟨mDirty O.ar.nur O.cd ⟨A1,[],[]⟩ (L.take k),O.ar.grn,O.wt⟩∧MsOk (mDirty O.ar.nur O.cd ⟨A1,[],[]⟩ (L.take k)) k∧OwnI h pc O.ar.nur w4.heap.size wv ev∧w4.heap.size≤wr.heap.size∧Sl wr 3 1 (.slice bo L.length bc) L.length (L.map (Value.int .i64))) (fun u _=>L.length-(intOf u).toNat)
    case atStart=>exact ⟨0,Nat.zero_le _,rfl,_,_,M.out,⟨by simp [mDirty],(fun i hi=>by cases hi),(fun i hi=>by cases hi)⟩,HI.out,HSR.out,HLS.out⟩
    case round=>
     clear M HI HSR HLS wv ev
     obtain ⟨k,hk,rfl,wv,ev,hM,hms,hI,hsz,hls⟩:=hrel
     have M:=Hz hM;have HLS:=Hz hls;have HI:=Hz hI;have HSR:=Hz hsz;have HMS:=Hz hms
     clear hM hls hI hsz hms
     by_cases hlt:k<L.length
     ·obtain ⟨_,_,e',rd,-,-⟩:=HLS.out.rd
      cases e'
      obtain ⟨ge,oe,rfl,d0⟩:=rd.int k hlt
      have hgl:=(HLS.out.own rfl).1
      have hin:=HLB.out (L.getD k 0) (by rw [List.getD_eq_getElem?_getD,List.getElem?_eq_getElem hlt];exact List.getElem_mem hlt)
      have HDS:=Hz (mDirty_snoc (base:=O.ar.nur) (cd:=O.cd) (s:=⟨A1,[],[]⟩) hlt)
      have hml:=HMS.out.len
      generalize L.getD k 0=i at *
      obtain ⟨sk,hsk⟩:∃ s,mDirty O.ar.nur O.cd ⟨A1,[],[]⟩ (L.take k)=s:=⟨_,rfl⟩
      rw [hsk] at M HMS HDS hml
      clear hsk rd
      have p1:=M.out.C.J.cells.2.2.2.2.2.2.1;have pl:=M.out.C.J.hp.lt
      dsimp only at p1
      have hcd:=HOK.out.hc
      go_wp2_with fail
      refine (Dirty_c h.pc h.cb O.ar.nur i O.cd wr M.out.hc (by omega) (by omega) (by omega) (by omega) (by omega)).mono ?_
      rintro e w8 ⟨rfl,rfl⟩
      clear p1 pl d0
      cases hdi:dirtyL O.ar.nur O.cd i
      ·have HE:=Hz (HDS.out.trans (if_neg (by rw [hdi];decide)))
       clear hdi HDS
       go_wp2_with fail
       go_roundw
       case rel=>
        (repeat apply Exists.intro)
        exact ⟨⟨k+1,hlt,by go_num,wv,ev,by rw [HE.out];exact M.out,by rw [HE.out];exact HMS.out.more (by omega),HI.out,HSR.out,HLS.out⟩,rfl⟩
       case measure=>simp [intOf];omega
      ·have HE:=Hz (HDS.out.trans (if_pos hdi))
       clear hdi HDS
       go_wp2_with fail
       refine (mLook_c i M.out.C.J hin.1 hin.2 (by dsimp only;have:=HLL.out;omega)).mono ?_
       rintro e w8 ⟨rfl,t⟩
       have hml2:=(HMS.out.look hin.1 hin.2)
       have HMS2:=Hz hml2
       have hsm:=Sm.look M.out.C.ok.ok i
       obtain ⟨_,_,_,kt,_⟩:=id t
       have HL8:=Hz (HLS.out.keep kt (fun b hb ho=>M.out.list_apart HI.out HLS.out HLT.out hb (.inl ho)))
       obtain ⟨wv8,ev8,M8',o8⟩:=M.out.step (M.out.C.cut t ⟨hsm.ok,hml2.more (by have:=HLL.out;dsimp only;omega),by dsimp only;omega,by dsimp only;omega⟩ hsm.nur)
       have M8:=Hz M8'
       have HI8:=Hz (HI.out.step o8 HSR.out)
       have HS8:=Hz (Nat.le_trans HSR.out kt.size)
       clear t kt hml2 hsm M8' o8
       go_wp2_with fail
       go_roundw
       case rel=>
        (repeat apply Exists.intro)
        exact ⟨⟨k+1,hlt,by go_num,wv8,ev8,by rw [HE.out];exact M8.out,by rw [HE.out];exact HMS2.out.more (by omega),HI8.out,HS8.out,HL8.out⟩,rfl⟩
       case measure=>simp [intOf];omega
     ·obtain rfl:k=L.length:=by omega
      rw [List.take_length] at M
      clear HMS HLS hlt hk
      have HPRE:=Hz (show mPre O=mDrain 2000 ⟨mDirty O.ar.nur O.cd ⟨A1,[],[]⟩ L,O.ar.grn,O.wt⟩ by unfold mPre;rw [HLE.out,HA1.out])
      go_wp2_with fail
      refine (mDrain_c M.out.C).mono ?_
      rintro e w8 ⟨rfl,t⟩
      obtain ⟨wv8,ev8,M8',-⟩:=M.out.step t
      rw [←HPRE.out] at M8'
      have M8:=Hz M8'
      clear t M8' M
      have p2:=M8.out.C.J.cells.2.2.2.2.2.2.2.1;have pl:=M8.out.C.J.hp.lt
      dsimp only at p2
      go_wp2_with fail
      refine wp_region_ro (.free 0 (.free 1 (.free 2 (.free 4 (.pure 3 (.run 5 (.run 6 (.swi [] (.fin))))))))) [6] (fun w'=>w'.cell? ⟨h.p,2,none⟩=some (.pointer (some ⟨h.ps,0,none⟩))) (by kernel_rfl) (by kernel_rfl) p2 ?_
      iterate 5 first | (refine wpRO_free rfl rfl _ (fun w'=>by go_simp;exact Gives.mk _ _) (fun K hK=>?_);go_simp;refine hK _ ?_;clear hK K) | (refine wpRO_skipF rfl rfl (fun K hK=>?_);go_simp;refine hK _ ?_;clear hK K) | (refine wpRO_pure rfl rfl _ (fun w' hG=>by obtain g0:=hG;exact gives_agg2 rfl (by decide +kernel) rfl (by assumption) (by assumption)) (fun K hK=>?_);go_simp;refine hK _ ?_;clear hK K) | (refine wpRO_pure rfl rfl _ (fun w' hG=>by obtain g0:=hG;go_simp;exact Gives.mk _ _) (fun K hK=>?_);go_simp;refine hK _ ?_;clear hK K) | (refine wpRO_skip rfl rfl (fun K hK=>?_);go_simp;refine hK _ ?_;clear hK K)
      refine wpRO_run rfl rfl (fun K hK=>?_);unfold gRun;go_simp
      refine (mSaved_c (M8.out.same ((Kz w8).drew)).C.J).mono ?_
      rintro e w9 ⟨b,rfl,hb,hk,hlo⟩
      have M9:=Hz (M8.out.same ((Kz w8).drew.trans hk))
      have HB9:=Hz hb;have HLO9:=Hz (show w8.heap.size≤b from hlo)
      have p2':=M9.out.C.J.cells.2.2.2.2.2.2.2.1
      dsimp only at p2'
      refine hK _ _ (fun _=>p2') ?_
      clear hK K hb hk hlo p2 p2' pl
      skip
      refine wpRO_chg rfl rfl rfl (fun K hK=>?_);unfold gRun;go_simp
      have hq24:=HOK.out.hq
      refine (Settle_c h.ps (mSettleL ⟨h.p,h.pa,h.g,h.pc,h.ps,h.ro,pc,O.ar.nur⟩ b) ((mPre O).s,(mPre O).c) (fun k=>(CH.mk h.p h.pa h.g h.pc h.ps h.ro pc O.ar.nur).Own wv8 ev8 k∨k=b) h.rv h.wv O.rg (mPre O).q w9 ⟨wv8,ev8,M9.out.C.J,M9.out.C.ok,M9.out.C.nb,HB9.out,rfl⟩ M9.out.C.S (fun k hk=>by
       rcases hk with ⟨h1 | h1,h2⟩
       ·exact M9.out.C.J.side_apart M9.out.C.S h1 h2
       ·subst h1
        obtain ⟨_,U,h3,hU⟩:=M9.out.C.S.fp_type h2
        refine HB9.out.ne h3 ?_ rfl
        rcases hU with rfl | rfl <;> decide) (by omega) (by rw [HPRE.out,mDrain_len];dsimp only;omega) (fun e he=>HOK.out.hg e he) (fun e he=>M9.out.C.q e he)).mono ?_
      rintro e w10 ⟨rfl,F',rv',qv',⟨wv',ev',hJ',hsc,hnb,hb',rfl⟩,hS',-,hk',-,hsf⟩
      refine hK _ _ ?_
      clear hK K
      refine wpRO_swi (fun _=>True) trivial (wpRO_fin ?_)
      have HPS:=Hz (show passM (mSettleL ⟨h.p,h.pa,h.g,h.pc,h.ps,h.ro,pc,O.ar.nur⟩ b).alive (mSettleL ⟨h.p,h.pa,h.g,h.pc,h.ps,h.ro,pc,O.ar.nur⟩ b).keep ((mPre O).s,(mPre O).c) O.rg (mPre O).q=mPass O from rfl)
      rw [HPS.out] at hJ' hsc hnb hS'
      have M10:=Hz (show ME w h w10 pc O.ar.nur wv' ev' rv' qv' O.cd rt1 (newRegs mtAlive mtNow (mPass O).1 (mPass O).2.2) (newWait mtAlive mtNow (mPass O).1 (mPass O).2.1) (mPass O).1.1 (mPass O).1.2 by
       have hne:∀ {k:Nat} {l:List Value} {T:TypeId},Blk w9 k l T→T≠106→¬ ((CH.mk h.p h.pa h.g h.pc h.ps h.ro pc O.ar.nur).Own wv8 ev8 k∨SideFp h.ps h.rv h.wv k)→¬ (((CH.mk h.p h.pa h.g h.pc h.ps h.ro pc O.ar.nur).Own wv8 ev8 k∨k=b)∨SideFp h.ps h.rv h.wv k):=fun hb hT hn hx=>by
        rcases hx with (h1 | h1) | h1
        ·exact hn (.inl h1)
        ·subst h1;exact hb.ne HB9.out hT rfl
        ·exact hn (.inr h1)
       have M:=M9.out
       refine ⟨hJ',hS',M.hc.keep hk' (hne M.hc.hp (by decide) (M.type M.hc.hp (by decide))) (hne M.hc.hq (by decide) (M.type M.hc.hq (by decide))),M.hr.keep hk' (fun k hk=>?_),M.ap,M.K.then hk' (fun k hk=>?_),fun k hk=>?_⟩
       ·obtain ⟨_,l,h'⟩:=M.hr.own hk
        exact hne h' (by decide) (M.roots_ne hk)
       ·rcases hk with (h1 | h1) | h1
        ·exact M.own k (.inl h1)
        ·subst h1;exact .inr (Nat.le_trans M8.out.K.size HLO9.out)
        ·exact M.own k (.inr h1)
       ·rcases hsf k hk with h1 | h1
        ·exact M.own k (.inr h1)
        ·exact .inr (Nat.le_trans M.K.size h1))
      have HSC:=Hz (show ScOk (mPass O).1.1 (mPass O).1.2 from hsc)
      have HNB:=Hz (show (O.ar.nur:Int)=(mPass O).1.1.A.nur from hnb)
      clear hJ' hsc hnb hb' hS' hk' hsf HPS M8 M9
      go_wp2_with fail
      refine (mGone_c M10.out.J (HSC.out.ms.more (by have:=HSC.out.c1;omega))).mono ?_
      rintro e w11 ⟨rfl,t⟩
      have M11:=Hz (M10.out.arena t)
      clear t M10
      have p1:=M11.out.J.cells.2.2.2.2.2.2.1;have pl:=M11.out.J.hp.lt
      dsimp only at p1
      go_wp2_with fail
      refine (Clear_c h.pc h.cb O.ar.nur O.cd w11 M11.out.hc).mono ?_
      rintro e w12 ⟨rfl,hc,hk⟩
      have M12:=Hz (M11.out.cards hc hk)
      clear hc hk p1 pl M11
      have p0:=M12.out.J.cells.2.2.2.2.2.1;have pl:=M12.out.J.hp.lt
      dsimp only at p0
      go_wp2_with fail
      refine (AClear_c w12 M12.out.J.ha).mono ?_
      rintro e w13 ⟨rfl,t⟩
      have M13:=Hz (M12.out.arena t)
      clear t M12 p0 pl
      have HE:=Hz (show mCut O=(0,⟨(mGone (mPass O).1.1).clear,List.replicate O.cd.length false,rt1,newRegs mtAlive mtNow (mPass O).1 (mPass O).2.2,newWait mtAlive mtNow (mPass O).1 (mPass O).2.1⟩) by
       unfold mCut
       rw [if_neg (by have:=HF.out;omega),HRT.out]
       congr 2
       simp [List.eq_replicate_iff])
      have HRM:=Hz (HR.out.minor.2)
      go_wp2_with fail
      go_ret
      refine ⟨by rw [HE.out];rfl,?_⟩
      obtain ⟨ψ,R'⟩:=HRM.out
      have hok':=R'.ho
      rw [HE.out] at hok' ⊢
      refine M13.out.done ?_ hok'
      rw [HNB.out]
      have:=(Sm.gone HSC.out.ok).nur
      show ((mPass O).1.1.A.nur:Int)=((mGone (mPass O).1.1).clear.nur:Int)
      rw [←this];rfl
end
end
section
structure ShutA (A:Ar) (T:Int→Prop):Prop where
 ok:A.ok
 bd:∀ i,T i→0≤i∧i<A.ws.length
 fd:∀ i,T i→∀ x ∈ A.fields i,x%4=1→T (x/4)
 two:∀ i,T i→((A.thing i).1=3∨(A.thing i).1=4)→A.load (i+1) ∈ A.fields i∧A.load (i+2) ∈ A.fields i
def Dm (T:Int→Prop) (x:Int):Prop:=x%4=1→T (x/4)
structure GsOk (A:Ar) (T:Int→Prop) (s:Gs) (L:Nat):Prop where
 len:s.lv.length=A.ws.length
 st:∀ i ∈ s.st,T i
 ep:∀ i ∈ s.ep,T i∧(A.thing i).1=4
 sum:s.st.length+s.ep.length+fals s.lv≤L
section
variable {A:Ar} {T:Int→Prop} {s:Gs} {L:Nat} {q:List (Int × Int)}
theorem GsOk.more {M:Nat} (h:GsOk A T s L) (hl:L≤M):GsOk A T s M:=⟨h.len,h.st,h.ep,by have:=h.sum;omega⟩
theorem jMark_new {x:Int} (h:¬ jAlive s x=true):x%4=1∧atB s.lv (x/4)=false:=by
 unfold jAlive at h
 by_cases h1:x%4=1
 ·refine ⟨h1,?_⟩
  simpa [h1] using h
 ·exact absurd (by simp [h1]) h
theorem GsOk.mark {x:Int} (h:GsOk A T s L) (H:ShutA A T) (hx:Dm T x):GsOk A T (jMark s x) L∧jM (jMark s x)=jM s∧(jMark s x).ep=s.ep:=by
 unfold jMark
 split
 ·exact ⟨h,rfl,rfl⟩
 ·rename_i hn
  obtain ⟨h1,h2⟩:=jMark_new hn
  have hT:=hx h1
  obtain ⟨b0,b1⟩:=H.bd _ hT
  have hf:s.lv.getD (x/4).toNat false=false:=by
   unfold atB at h2
   simpa [b0] using h2
  have hs:=fals_set (l:=s.lv) (i:=(x/4).toNat) (by rw [h.len];omega) hf
  refine ⟨⟨by simp [h.len],fun i hi=>?_,h.ep,?_⟩,?_,rfl⟩
  ·rcases List.mem_append.1 hi with hi | hi
   ·exact h.st i hi
   ·rw [List.mem_singleton.1 hi];exact hT
  ·have:=h.sum
   simp only [List.length_append,List.length_cons,List.length_nil]
   omega
  ·unfold jM
   simp only [List.length_append,List.length_cons,List.length_nil]
   omega
theorem GsOk.marks (H:ShutA A T):∀ (l:List Int) {s:Gs},GsOk A T s L→(∀ x ∈ l,Dm T x)→GsOk A T (jMarks s l) L∧jM (jMarks s l)=jM s∧(jMarks s l).ep=s.ep
 | [],s,h,_=>⟨h,rfl,rfl⟩
 | x :: l,s,h,hl=>by
  obtain ⟨h1,e1,p1⟩:=h.mark H (hl x (by simp))
  obtain ⟨h2,e2,p2⟩:=GsOk.marks H l h1 (fun y hy=>hl y (by simp [hy]))
  exact ⟨h2,e2.trans e1,p2.trans p1⟩
theorem GsOk.look {i:Int} (h:GsOk A T s L) (H:ShutA A T) (hi:T i):GsOk A T (jLook A s i) (L+1)∧jM (jLook A s i)=jM s:=by
 unfold jLook
 split
 ·obtain ⟨h1,e1,-⟩:=GsOk.marks H (A.fields i) h (fun x hx=>H.fd i hi x hx)
  exact ⟨h1.more (by omega),e1⟩
 ·split
  ·rename_i h3
   obtain ⟨h1,e1,-⟩:=h.mark H (x:=A.load (i+2)) (H.fd i hi _ (H.two i hi (.inl h3)).2)
   exact ⟨h1.more (by omega),e1⟩
  ·split
   ·rename_i h4
    refine ⟨⟨h.len,h.st,fun j hj=>?_,?_⟩,rfl⟩
    ·rcases List.mem_append.1 hj with hj | hj
     ·exact h.ep j hj
     ·rw [List.mem_singleton.1 hj];exact ⟨hi,h4⟩
    ·have:=h.sum
     simp only [List.length_append,List.length_cons,List.length_nil]
     omega
   ·exact ⟨h.more (by omega),rfl⟩
theorem GsOk.drop (h:GsOk A T s L) (hne:s.st≠[]):GsOk A T { s with st:=s.st.dropLast } (L-1)∧jM { s with st:=s.st.dropLast } + 1=jM s∧T (s.st.getLastD 0):=by
 obtain ⟨hm,he⟩:=getLastD_mem hne
 have hl:s.st.dropLast.length+1=s.st.length:=by
  rw [List.length_dropLast]
  have:=List.length_pos_iff.2 hne
  omega
 refine ⟨⟨h.len,fun i hi=>h.st i (List.dropLast_subset _ hi),h.ep,?_⟩,?_,h.st _ hm⟩
 ·have:=h.sum;dsimp only;omega
 ·unfold jM;dsimp only;omega
theorem GsOk.pop (h:GsOk A T s L) (H:ShutA A T) (hne:s.st≠[]):GsOk A T (jPop A s) L∧jM (jPop A s)+1=jM s:=by
 obtain ⟨h1,e1,hT⟩:=h.drop hne
 obtain ⟨h2,e2⟩:=h1.look H hT
 have:=h.sum
 have hp:=List.length_pos_iff.2 hne
 exact ⟨h2.more (by omega),by unfold jPop;omega⟩
theorem GsOk.pops (H:ShutA A T):∀ (n:Nat) {s:Gs},GsOk A T s L→jM s<n→GsOk A T (jPops A n s) L∧(jPops A n s).st=[]∧jM (jPops A n s)≤jM s
 | 0,s,h,hm=>by omega
 | n+1,s,h,hm=>by
  unfold jPops
  split
  ·rename_i he;exact ⟨h,he,Nat.le_refl _⟩
  ·rename_i hne
   obtain ⟨h1,e1⟩:=h.pop H hne
   obtain ⟨h2,e2,e3⟩:=GsOk.pops H n h1 (by omega)
   exact ⟨h2,e2,by omega⟩
theorem GsOk.eph1 {i:Int} (h:GsOk A T s L) (H:ShutA A T) (hi:T i∧(A.thing i).1=4):GsOk A T (jEph1 A s i) L∧jM (jEph1 A s i)=jM s∧(jEph1 A s i).ep=s.ep:=by
 unfold jEph1
 split
 ·exact h.mark H (H.fd i hi.1 _ (H.two i hi.1 (.inr hi.2)).2)
 ·exact ⟨h,rfl,rfl⟩
theorem GsOk.ephs (H:ShutA A T):∀ (l:List Int) {s:Gs},GsOk A T s L→(∀ i ∈ l,T i∧(A.thing i).1=4)→GsOk A T (jEph A s l) L∧jM (jEph A s l)=jM s
 | [],s,h,_=>⟨h,rfl⟩
 | i :: l,s,h,hl=>by
  obtain ⟨h1,e1,-⟩:=h.eph1 H (hl i (by simp))
  obtain ⟨h2,e2⟩:=GsOk.ephs H l h1 (fun j hj=>hl j (by simp [hj]))
  exact ⟨h2,e2.trans e1⟩
theorem GsOk.wake (H:ShutA A T):∀ (q:List (Int × Int)) {s:Gs},GsOk A T s L→(∀ e ∈ q,Dm T e.1∧Dm T e.2)→GsOk A T (wakeM jAlive jKp s q).1 L∧jM (wakeM jAlive jKp s q).1=jM s
 | [],s,h,_=>⟨h,rfl⟩
 | e :: q,s,h,hq=>by
  unfold wakeM
  split
  ·obtain ⟨h1,e1,-⟩:=h.mark H (hq e (by simp)).2
   obtain ⟨h2,e2⟩:=GsOk.wake H q (s:=(jKp s e.2).1) h1 (fun f hf=>hq f (by simp [hf]))
   exact ⟨h2,e2.trans e1⟩
  ·exact GsOk.wake H q h (fun f hf=>hq f (by simp [hf]))
theorem jEph_snoc {l:List Int} {k:Nat} (h:k<l.length):jEph A s (l.take (k+1))=jEph1 A (jEph A s (l.take k)) (l.getD k 0):=by
 unfold jEph
 rw [←List.take_append_getElem h,List.foldl_append,List.getD_eq_getElem?_getD,List.getElem?_eq_getElem h];rfl
theorem jMarks_snoc {l:List Int} {k:Nat} (h:k<l.length):jMarks s (l.take (k+1))=jMark (jMarks s (l.take k)) (l.getD k 0):=by
 unfold jMarks
 rw [←List.take_append_getElem h,List.foldl_append,List.getD_eq_getElem?_getD,List.getElem?_eq_getElem h];rfl
theorem GsOk.round (h:GsOk A T s L) (H:ShutA A T) (hq:∀ e ∈ q,Dm T e.1∧Dm T e.2) (hm:jM s<2000):GsOk A T (jRound A q s) L∧jM (jRound A q s)≤jM s∧((jRound A q s).st≠[]→fals (jRound A q s).lv<fals (jPops A 2000 s).lv)∧jM (jPops A 2000 s)≤jM s:=by
 obtain ⟨h1,e1,m1⟩:=GsOk.pops H 2000 h hm
 obtain ⟨h2,m2⟩:=GsOk.ephs H (jPops A 2000 s).ep h1 h1.ep
 obtain ⟨h3,m3⟩:=GsOk.wake H q h2 hq
 refine ⟨h3,?_,fun hne=>?_,m1⟩
 ·unfold jRound;omega
 ·have:=List.length_pos_iff.2 hne
  have e0:(jPops A 2000 s).st.length=0:=by rw [e1];rfl
  have m4:(jRound A q s).st.length+fals (jRound A q s).lv=(jPops A 2000 s).st.length+fals (jPops A 2000 s).lv:=m3.trans m2
  clear m1 m2 m3
  omega
theorem jMark_fals (x:Int) (h:GsOk A T s L) (H:ShutA A T) (hx:Dm T x):fals (jMark s x).lv≤fals s.lv:=by
 have:=(h.mark H hx).2.1
 unfold jMark at this ⊢
 split
 ·exact Nat.le_refl _
 ·rename_i hn
  rw [if_neg hn] at this
  unfold jM at this
  simp only [List.length_append,List.length_cons,List.length_nil] at this
  dsimp only
  omega
theorem jMarks_fals (H:ShutA A T):∀ (l:List Int) {s:Gs},GsOk A T s L→(∀ x ∈ l,Dm T x)→fals (jMarks s l).lv≤fals s.lv
 | [],s,h,_=>Nat.le_refl _
 | x :: l,s,h,hl=>Nat.le_trans (jMarks_fals H l (h.mark H (hl x (by simp))).1 (fun y hy=>hl y (by simp [hy]))) (jMark_fals x h H (hl x (by simp)))
theorem jLook_fals {i:Int} (h:GsOk A T s L) (H:ShutA A T) (hi:T i):fals (jLook A s i).lv≤fals s.lv:=by
 unfold jLook
 split
 ·exact jMarks_fals H _ h (fun x hx=>H.fd i hi x hx)
 ·split
  ·rename_i h3
   exact jMark_fals _ h H (H.fd i hi _ (H.two i hi (.inl h3)).2)
  ·split
   ·exact Nat.le_refl _
   ·exact Nat.le_refl _
theorem jPop_fals (h:GsOk A T s L) (H:ShutA A T) (hne:s.st≠[]):fals (jPop A s).lv≤fals s.lv:=by
 obtain ⟨h1,e1,hT⟩:=h.drop hne
 exact jLook_fals h1 H hT
theorem jPops_fals (H:ShutA A T):∀ (n:Nat) {s:Gs},GsOk A T s L→fals (jPops A n s).lv≤fals s.lv
 | 0,s,h=>Nat.le_refl _
 | n+1,s,h=>by
  unfold jPops
  split
  ·exact Nat.le_refl _
  ·rename_i hne
   exact Nat.le_trans (jPops_fals H n (h.pop H hne).1) (jPop_fals h H hne)
theorem jRound_fals (h:GsOk A T s L) (H:ShutA A T) (hq:∀ e ∈ q,Dm T e.1∧Dm T e.2) (hm:jM s<2000):fals (jRound A q s).lv≤fals s.lv:=by
 obtain ⟨h1,e1,m1⟩:=GsOk.pops H 2000 h hm
 obtain ⟨h2,m2⟩:=GsOk.ephs H (jPops A 2000 s).ep h1 h1.ep
 obtain ⟨h3,m3⟩:=GsOk.wake H q h2 hq
 have e0:(jPops A 2000 s).st.length=0:=by rw [e1];rfl
 have m4:(jRound A q s).st.length+fals (jRound A q s).lv=(jPops A 2000 s).st.length+fals (jPops A 2000 s).lv:=m3.trans m2
 have:=jPops_fals H 2000 h
 omega
theorem jMark_ep (s:Gs) (x:Int):(jMark s x).ep=s.ep:=by unfold jMark;split <;> rfl
theorem jEph_ep (A:Ar):∀ (l:List Int) (s:Gs),(jEph A s l).ep=s.ep
 | [],s=>rfl
 | i :: l,s=>by
  show (jEph A (jEph1 A s i) l).ep=_
  rw [jEph_ep A l]
  unfold jEph1
  split
  ·exact jMark_ep _ _
  ·rfl
end
theorem Rep.shut {O:Wo} {W:Wd} {φ:Int→Int} (R:Rep O W φ):ShutA O.ar (fun p=>∃ i,W.live i∧φ i=p):=by
 have key:∀ i,W.live i→∀ x ∈ O.ar.fields (φ i), ∃ v ∈ (W.th i).fs,x=encV φ v:=fun i hi x hx=>by
  unfold Ar.fields at hx
  rw [R.th i hi] at hx
  simp only [List.mem_map,List.mem_range] at hx
  obtain ⟨j,hj,rfl⟩:=hx
  have hj':j<(W.th i).fs.length:=by omega
  exact ⟨(W.th i).fs[j],List.getElem_mem _,R.fl i hi j _ (List.getElem?_eq_getElem hj')⟩
 refine ⟨R.ho.ha,?_,?_,?_⟩
 ·rintro p ⟨i,hi,rfl⟩
  have h1:=R.ho.ha.h1;have h2:=R.ho.ha.h2;have h3:=R.ho.ha.h3
  cases ho:(W.th i).old
  ·have:=Tile.mem R.ty _ (R.iny i hi ho)
   have:=O.ar.thing_fields (φ i)
   omega
  ·have:=Tile.mem R.tz _ (R.ino i hi ho)
   have:=O.ar.thing_fields (φ i)
   omega
 ·rintro p ⟨i,hi,rfl⟩ x hx h1
  obtain ⟨v,hv,rfl⟩:=key i hi x hx
  have hok:=R.hw.tv i hi v hv
  have h3:=(encV_mod hok).1 h1
  refine ⟨v.2,Wd.okV_ref hok h3,?_⟩
  rw [encV_ref φ h3];omega
 ·rintro p ⟨i,hi,rfl⟩ h34
  rw [R.th i hi] at h34
  have hf:=R.hw.tk i hi
  have h2:(W.th i).fs.length=2:=by
   unfold fitsW at hf
   simp at hf
   dsimp only at h34
   rcases hf with (hf | hf) | hf <;> omega
  unfold Ar.fields
  rw [R.th i hi]
  simp only [h2]
  exact ⟨List.mem_map.2 ⟨0,by simp,by simp⟩,List.mem_map.2 ⟨1,by simp,by congr 1;omega⟩⟩
end
section
open Go.RowKit
theorem info_int8':(Try.prog.info? 3).map (fun i=>(i.zero,i.size,i.bytes))=some (some (.int .i64 0),1,8):=by kernel_rfl
structure JH where
 p:Nat
 pa:Nat
 g:Nat
 cp:Nat
 ps:Nat
 ro:Value
 pc:Nat
 lb:Nat
 tb:Nat
def JH.Own (H:JH) (sv ev:Value) (k:Nat):Prop:=k=H.p∨k=H.pa∨k=H.g∨k=H.pc∨k=H.lb∨k=H.tb∨ownB sv k∨ownB ev k
structure JAt (w:World) (H:JH) (sv ev:Value) (A:Ar) (s:Gs) (f:List Int):Prop where
 hp:Blk w H.p [.pointer (some ⟨H.pa,0,none⟩), .pointer (some ⟨H.cp,0,none⟩), .pointer (some ⟨H.ps,0,none⟩),H.ro] 43
 ha:ArenaAt w H.pa H.g A
 hc:Blk w H.pc [.pointer (some ⟨H.p,0,none⟩), .slice (some ⟨H.lb,0,none⟩) s.lv.length s.lv.length, .slice (some ⟨H.tb,0,none⟩) f.length f.length,sv,ev] 121
 hl:Blk w H.lb (s.lv.map Value.bool) 4
 ht:Blk w H.tb (f.map (Value.int .i64)) 3
 hs:Sl w 3 1 sv s.st.length (s.st.map (Value.int .i64))
 he:Sl w 3 1 ev s.ep.length (s.ep.map (Value.int .i64))
 ap:∀ k,¬ (ownB sv k∧ownB ev k)
 at_:¬ ownB sv H.tb∧¬ ownB ev H.tb
def JTo (w:World) (H:JH) (sv ev:Value) (A:Ar) (s:Gs) (f:List Int) (w':World):Prop:=
 ∃ sv' ev',JAt w' H sv' ev' A s f∧Keeps (H.Own sv ev) w w'∧∀ k,H.Own sv' ev' k→H.Own sv ev k∨w.heap.size≤k
section
variable {w w':World} {H:JH} {sv ev:Value} {A:Ar} {s:Gs} {f:List Int}
theorem JAt.own_type (J:JAt w H sv ev A s f) {k:Nat} (hk:H.Own sv ev k):∃ l T,Blk w k l T∧(T=43∨T=70∨T=2∨T=121∨T=4∨T=3):=by
 rcases hk with rfl | rfl | rfl | rfl | rfl | rfl | hk | hk
 ·exact ⟨_,_,J.hp, .inl rfl⟩
 ·exact ⟨_,_,J.ha.hp, .inr (.inl rfl)⟩
 ·exact ⟨_,_,J.ha.hg, .inr (.inr (.inl rfl))⟩
 ·exact ⟨_,_,J.hc, .inr (.inr (.inr (.inl rfl)))⟩
 ·exact ⟨_,_,J.hl, .inr (.inr (.inr (.inr (.inl rfl))))⟩
 ·exact ⟨_,_,J.ht, .inr (.inr (.inr (.inr (.inr rfl))))⟩
 ·obtain ⟨_,l,h⟩:=J.hs.own hk;exact ⟨_,_,h, .inr (.inr (.inr (.inr (.inr rfl))))⟩
 ·obtain ⟨_,l,h⟩:=J.he.own hk;exact ⟨_,_,h, .inr (.inr (.inr (.inr (.inr rfl))))⟩
theorem JAt.own_lt (J:JAt w H sv ev A s f) {k:Nat} (hk:H.Own sv ev k):k<w.heap.size:=by
 obtain ⟨_,_,h,_⟩:=J.own_type hk;exact h.lt
theorem JAt.keep {S:Nat→Prop} (J:JAt w H sv ev A s f) (k:Keeps S w w') (hn:∀ b,H.Own sv ev b→¬ S b):JAt w' H sv ev A s f:=
 ⟨k.blk J.hp (hn _ (.inl rfl)),J.ha.keep k (hn _ (.inr (.inl rfl))) (hn _ (.inr (.inr (.inl rfl)))),k.blk J.hc (hn _ (.inr (.inr (.inr (.inl rfl))))),k.blk J.hl (hn _ (.inr (.inr (.inr (.inr (.inl rfl)))))),
  k.blk J.ht (hn _ (.inr (.inr (.inr (.inr (.inr (.inl rfl))))))),J.hs.keep k (fun b hb=>hn b (.inr (.inr (.inr (.inr (.inr (.inr (.inl hb)))))))),J.he.keep k (fun b hb=>hn b (.inr (.inr (.inr (.inr (.inr (.inr (.inr hb)))))))),J.ap,J.at_⟩
theorem JAt.same (J:JAt w H sv ev A s f) (k:Keeps (fun _=>False) w w'):JAt w' H sv ev A s f:=J.keep k (fun _ _ h=>h)
theorem JTo.refl (J:JAt w H sv ev A s f):JTo w H sv ev A s f w:=⟨sv,ev,J,Keeps.refl _ _,fun _ h=>.inl h⟩
theorem JTo.join {w1:World} {sv1 ev1:Value} (k1:Keeps (H.Own sv ev) w w1) (o1:∀ k,H.Own sv1 ev1 k→H.Own sv ev k∨w.heap.size≤k) (t:JTo w1 H sv1 ev1 A s f w'):JTo w H sv ev A s f w':=by
 obtain ⟨a2,b2,J2,k2,o2⟩:=t
 refine ⟨a2,b2,J2,k1.then k2 o1,fun k hk=>?_⟩
 rcases o2 k hk with h | h
 ·exact o1 k h
 ·exact .inr (Nat.le_trans k1.size h)
def JTm (w:World) (H:JH) (sv ev:Value) (A:Ar) (s:Gs) (f:List Int) (w':World):Prop:=
 ∃ sv',JAt w' H sv' ev A s f∧Keeps (H.Own sv ev) w w'∧∀ k,H.Own sv' ev k→H.Own sv ev k∨w.heap.size≤k
theorem JTm.to (t:JTm w H sv ev A s f w'):JTo w H sv ev A s f w':=by
 obtain ⟨a,J,k,o⟩:=t
 exact ⟨a,ev,J,k,o⟩
theorem JTm.refl (J:JAt w H sv ev A s f):JTm w H sv ev A s f w:=⟨sv,J,Keeps.refl _ _,fun _ h=>.inl h⟩
theorem JTm.join {w1:World} {sv1:Value} (k1:Keeps (H.Own sv ev) w w1) (o1:∀ k,H.Own sv1 ev k→H.Own sv ev k∨w.heap.size≤k) (t:JTm w1 H sv1 ev A s f w'):JTm w H sv ev A s f w':=by
 obtain ⟨a2,J2,k2,o2⟩:=t
 refine ⟨a2,J2,k1.then k2 o1,fun k hk=>?_⟩
 rcases o2 k hk with h | h
 ·exact o1 k h
 ·exact .inr (Nat.le_trans k1.size h)
theorem JAt.cells (J:JAt w H sv ev A s f):w.cell? ⟨H.pc,0,none⟩=some (.pointer (some ⟨H.p,0,none⟩))∧w.cell? ⟨H.pc,1,none⟩=some (.slice (some ⟨H.lb,0,none⟩) s.lv.length s.lv.length)∧w.cell? ⟨H.pc,2,none⟩=some (.slice (some ⟨H.tb,0,none⟩) f.length f.length) ∧
  w.cell? ⟨H.pc,3,none⟩=some sv∧w.cell? ⟨H.pc,4,none⟩=some ev∧w.cell? ⟨H.p,0,none⟩=some (.pointer (some ⟨H.pa,0,none⟩)):=
 ⟨J.hc.cell 0,J.hc.cell 1,J.hc.cell 2,J.hc.cell 3,J.hc.cell 4,J.hp.cell 0⟩
theorem JAt.lvCell (J:JAt w H sv ev A s f) {i:Nat} (hi:i<s.lv.length):w.cell? ⟨H.lb,i,none⟩=some (.bool (s.lv.getD i false)):=by
 rw [J.hl.cell];simp [List.getD,hi]
theorem JAt.toCell (J:JAt w H sv ev A s f) {i:Nat} (hi:i<f.length):w.cell? ⟨H.tb,i,none⟩=some (.int .i64 (f.getD i 0)):=by
 rw [J.ht.cell];simp [List.getD,hi]
theorem JAt.setLv (J:JAt w H sv ev A s f) (i:Nat):JAt (w.setCell ⟨H.lb,i,none⟩ (.bool true)) H sv ev A { s with lv:=s.lv.set i true } f:=by
 have k:=(Keeps.refl (·=H.lb) w).setCell (p:=⟨H.lb,i,none⟩) (.inl rfl) (.bool true)
 have ne:∀ {b:Nat} {l:List Value} {T:TypeId},Blk w b l T→T≠4→¬ b=H.lb:=fun hb hT=>hb.ne J.hl hT
 refine ⟨k.blk J.hp (ne J.hp (by decide)),J.ha.keep k (ne J.ha.hp (by decide)) (ne J.ha.hg (by decide)),?_,?_,k.blk J.ht (ne J.ht (by decide)),J.hs.keep k (fun b hb=>by obtain ⟨_,l,h⟩:=J.hs.own hb;exact ne h (by decide)),J.he.keep k (fun b hb=>by obtain ⟨_,l,h⟩:=J.he.own hb;exact ne h (by decide)),J.ap,J.at_⟩
 ·have:=k.blk J.hc (ne J.hc (by decide))
  simpa using this
 ·simpa [List.map_set] using J.hl.setSame i (.bool true)
theorem JAt.setTo (J:JAt w H sv ev A s f) (i:Nat) (x:Int):JAt (w.setCell ⟨H.tb,i,none⟩ (.int .i64 x)) H sv ev A s (f.set i x):=by
 have k:=(Keeps.refl (·=H.tb) w).setCell (p:=⟨H.tb,i,none⟩) (.inl rfl) (.int .i64 x)
 have ne:∀ {b:Nat} {l:List Value} {T:TypeId},Blk w b l T→T≠3→¬ b=H.tb:=fun hb hT=>hb.ne J.ht hT
 refine ⟨k.blk J.hp (ne J.hp (by decide)),J.ha.keep k (ne J.ha.hp (by decide)) (ne J.ha.hg (by decide)),?_,k.blk J.hl (ne J.hl (by decide)),?_,J.hs.keep k (fun b hb e=>J.at_.1 (e ▸ hb)),J.he.keep k (fun b hb e=>J.at_.2 (e ▸ hb)),J.ap,J.at_⟩
 ·have:=k.blk J.hc (ne J.hc (by decide))
  simpa using this
 ·simpa [List.map_set] using J.ht.setSame i (.int .i64 x)
theorem JAt.appS {w1 w2:World} {v2:Value} {i:Int} (J:JAt w H sv ev A s f) (k1:Keeps (fun _=>False) w w1) (hs:Sl w2 3 1 v2 (s.st.length+1) (s.st.map (Value.int .i64) ++ [.int .i64 i])) (k2:Keeps (ownB sv) w1 w2)
  (ho:∀ k,ownB v2 k→ownB sv k∨w1.heap.size≤k):JTm w H sv ev A { s with st:=s.st ++ [i] } f (w2.setCell ⟨H.pc,3,none⟩ v2):=by
 have J1:=J.same k1
 have nw:∀ {b:Nat} {l:List Value} {T:TypeId},Blk w1 b l T→T≠3→¬ ownB sv b:=fun hb hT hv=>by
  obtain ⟨_,l',h⟩:=J1.hs.own hv;exact hb.ne h hT rfl
 have hp2:=k2.blk J1.hp (nw J1.hp (by decide));have hc2:=k2.blk J1.hc (nw J1.hc (by decide));have hl2:=k2.blk J1.hl (nw J1.hl (by decide));have ht2:=k2.blk J1.ht J.at_.1
 have ha2:=J1.ha.keep k2 (nw J1.ha.hp (by decide)) (nw J1.ha.hg (by decide))
 have he2:=J1.he.keep k2 (fun b hb hv=>J.ap b ⟨hv,hb⟩)
 have set:=(Keeps.refl (·=H.pc) w2).setCell (p:=⟨H.pc,3,none⟩) (.inl rfl) v2
 have ne:∀ {b:Nat} {l:List Value} {T:TypeId},Blk w2 b l T→T≠121→¬ b=H.pc:=fun hb hT=>hb.ne hc2 hT
 refine ⟨v2,⟨set.blk hp2 (ne hp2 (by decide)),ha2.keep set (ne ha2.hp (by decide)) (ne ha2.hg (by decide)),by simpa using hc2.setSame 3 v2,set.blk hl2 (ne hl2 (by decide)),set.blk ht2 (ne ht2 (by decide)),?_,he2.keep set (fun b hb=>by obtain ⟨_,l,h⟩:=he2.own hb;exact ne h (by decide)),?_,⟨fun h=>?_,J.at_.2⟩⟩,?_,?_⟩
 ·have:({ s with st:=s.st ++ [i] }:Gs).st.length=s.st.length+1:=by simp
  rw [this]
  simpa using hs.keep set (fun b hb=>by obtain ⟨_,l,h⟩:=hs.own hb;exact ne h (by decide))
 ·rintro k ⟨h1,h2⟩
  rcases ho k h1 with h | h
  ·exact J.ap k ⟨h,h2⟩
  ·have:=(J1.he.own h2).1;omega
 ·rcases ho _ h with h | h
  ·exact J.at_.1 h
  ·have:=J1.ht.lt;omega
 ·refine Keeps.setCell ?_ (p:=⟨H.pc,3,none⟩) (.inl (.inr (.inr (.inr (.inl rfl))))) v2
  exact (k1.mono fun _ _ h=>h.elim).trans (k2.mono fun k _ hk=>.inr (.inr (.inr (.inr (.inr (.inr (.inl hk)))))))
 ·rintro k (h | h | h | h | h | h | h | h)
  ·exact .inl (.inl h)
  ·exact .inl (.inr (.inl h))
  ·exact .inl (.inr (.inr (.inl h)))
  ·exact .inl (.inr (.inr (.inr (.inl h))))
  ·exact .inl (.inr (.inr (.inr (.inr (.inl h)))))
  ·exact .inl (.inr (.inr (.inr (.inr (.inr (.inl h))))))
  ·rcases ho k h with h | h
   ·exact .inl (.inr (.inr (.inr (.inr (.inr (.inr (.inl h)))))))
   ·exact .inr (Nat.le_trans k1.size h)
  ·exact .inl (.inr (.inr (.inr (.inr (.inr (.inr (.inr h)))))))
theorem JAt.appE {w1 w2:World} {v2:Value} {i:Int} (J:JAt w H sv ev A s f) (k1:Keeps (fun _=>False) w w1) (hs:Sl w2 3 1 v2 (s.ep.length+1) (s.ep.map (Value.int .i64) ++ [.int .i64 i])) (k2:Keeps (ownB ev) w1 w2)
  (ho:∀ k,ownB v2 k→ownB ev k∨w1.heap.size≤k):JTo w H sv ev A { s with ep:=s.ep ++ [i] } f (w2.setCell ⟨H.pc,4,none⟩ v2):=by
 have J1:=J.same k1
 have nw:∀ {b:Nat} {l:List Value} {T:TypeId},Blk w1 b l T→T≠3→¬ ownB ev b:=fun hb hT hv=>by
  obtain ⟨_,l',h⟩:=J1.he.own hv;exact hb.ne h hT rfl
 have hp2:=k2.blk J1.hp (nw J1.hp (by decide));have hc2:=k2.blk J1.hc (nw J1.hc (by decide));have hl2:=k2.blk J1.hl (nw J1.hl (by decide));have ht2:=k2.blk J1.ht J.at_.2
 have ha2:=J1.ha.keep k2 (nw J1.ha.hp (by decide)) (nw J1.ha.hg (by decide))
 have hs2:=J1.hs.keep k2 (fun b hb hv=>J.ap b ⟨hb,hv⟩)
 have set:=(Keeps.refl (·=H.pc) w2).setCell (p:=⟨H.pc,4,none⟩) (.inl rfl) v2
 have ne:∀ {b:Nat} {l:List Value} {T:TypeId},Blk w2 b l T→T≠121→¬ b=H.pc:=fun hb hT=>hb.ne hc2 hT
 refine ⟨sv,v2,⟨set.blk hp2 (ne hp2 (by decide)),ha2.keep set (ne ha2.hp (by decide)) (ne ha2.hg (by decide)),by simpa using hc2.setSame 4 v2,set.blk hl2 (ne hl2 (by decide)),set.blk ht2 (ne ht2 (by decide)),hs2.keep set (fun b hb=>by obtain ⟨_,l,h⟩:=hs2.own hb;exact ne h (by decide)),?_,?_,⟨J.at_.1,fun h=>?_⟩⟩,?_,?_⟩
 ·have:({ s with ep:=s.ep ++ [i] }:Gs).ep.length=s.ep.length+1:=by simp
  rw [this]
  simpa using hs.keep set (fun b hb=>by obtain ⟨_,l,h⟩:=hs.own hb;exact ne h (by decide))
 ·rintro k ⟨h1,h2⟩
  rcases ho k h2 with h | h
  ·exact J.ap k ⟨h1,h⟩
  ·have:=(J1.hs.own h1).1;omega
 ·rcases ho _ h with h | h
  ·exact J.at_.2 h
  ·have:=J1.ht.lt;omega
 ·refine Keeps.setCell ?_ (p:=⟨H.pc,4,none⟩) (.inl (.inr (.inr (.inr (.inl rfl))))) v2
  exact (k1.mono fun _ _ h=>h.elim).trans (k2.mono fun k _ hk=>.inr (.inr (.inr (.inr (.inr (.inr (.inr hk)))))))
 ·rintro k (h | h | h | h | h | h | h | h)
  ·exact .inl (.inl h)
  ·exact .inl (.inr (.inl h))
  ·exact .inl (.inr (.inr (.inl h)))
  ·exact .inl (.inr (.inr (.inr (.inl h))))
  ·exact .inl (.inr (.inr (.inr (.inr (.inl h)))))
  ·exact .inl (.inr (.inr (.inr (.inr (.inr (.inl h))))))
  ·exact .inl (.inr (.inr (.inr (.inr (.inr (.inr (.inl h)))))))
  ·rcases ho k h with h | h
   ·exact .inl (.inr (.inr (.inr (.inr (.inr (.inr (.inr h)))))))
   ·exact .inr (Nat.le_trans k1.size h)
theorem Sl.drop {w:World} {e g o n cap:Nat} {l:List Int} (h:Sl w e 1 (.slice (some ⟨g,o,none⟩) (n+1) cap) (n+1) (l.map (Value.int .i64))):Sl w e 1 (.slice (some ⟨g,o,none⟩) n cap) n (l.dropLast.map (Value.int .i64)):=by
 obtain ⟨g',o',cap',cur,e',hb,h1,h2,h3,h4⟩:=h.laid (by omega)
 cases e'
 have hl:=h.len
 rw [List.length_map] at hl
 refine ⟨by rw [List.length_map,List.length_dropLast];omega, .inr ⟨g,o,cap,cur,rfl,hb,by omega,h2,h3,?_⟩⟩
 have e1:l.dropLast=l.take n:=by rw [List.dropLast_eq_take];congr 1;omega
 rw [e1,List.map_take,←h4,List.take_take]
 congr 1;omega
theorem JAt.pop {g o n cap:Nat} (J:JAt w H (.slice (some ⟨g,o,none⟩) (n+1) cap) ev A s f) (hn:s.st.length=n+1) :
  JAt (w.setCell ⟨H.pc,3,none⟩ (.slice (some ⟨g,o,none⟩) n cap)) H (.slice (some ⟨g,o,none⟩) n cap) ev A { s with st:=s.st.dropLast } f:=by
 have set:=(Keeps.refl (·=H.pc) w).setCell (p:=⟨H.pc,3,none⟩) (.inl rfl) (.slice (some ⟨g,o,none⟩) n cap)
 have ne:∀ {b:Nat} {l:List Value} {T:TypeId},Blk w b l T→T≠121→¬ b=H.pc:=fun hb hT=>hb.ne J.hc hT
 have hs:=J.hs
 rw [hn] at hs
 have hl:({ s with st:=s.st.dropLast }:Gs).st.length=n:=by show s.st.dropLast.length=n;rw [List.length_dropLast];omega
 refine ⟨set.blk J.hp (ne J.hp (by decide)),J.ha.keep set (ne J.ha.hp (by decide)) (ne J.ha.hg (by decide)),by simpa using J.hc.setSame 3 (.slice (some ⟨g,o,none⟩) n cap),set.blk J.hl (ne J.hl (by decide)),set.blk J.ht (ne J.ht (by decide)),?_,J.he.keep set (fun b hb=>by obtain ⟨_,l,h⟩:=J.he.own hb;exact ne h (by decide)),J.ap,J.at_⟩
 rw [hl]
 exact hs.drop.keep set (fun b hb=>by obtain ⟨_,l,h⟩:=hs.own (k:=b) hb;exact ne h (by decide))
theorem JAt.arena (J:JAt w H sv ev A s f) {B:Ar} (t:ArenaTo w H.pa H.g w' B):JAt w' H sv ev B s f:=by
 have n1:∀ {b:Nat} {c:List Value} {T:TypeId},Blk w b c T→T≠70→T≠2→¬ (b=H.pa∨b=H.g):=fun hb h1 h2 e=>by
  rcases e with e | e
  ·exact hb.ne J.ha.hp h1 e
  ·exact hb.ne J.ha.hg h2 e
 exact ⟨t.k.blk J.hp (n1 J.hp (by decide) (by decide)),t.at_,t.k.blk J.hc (n1 J.hc (by decide) (by decide)),t.k.blk J.hl (n1 J.hl (by decide) (by decide)),t.k.blk J.ht (n1 J.ht (by decide) (by decide)),
  J.hs.keep t.k (fun b hb=>by obtain ⟨_,l,h⟩:=J.hs.own hb;exact n1 h (by decide) (by decide)),J.he.keep t.k (fun b hb=>by obtain ⟨_,l,h⟩:=J.he.own hb;exact n1 h (by decide) (by decide)),J.ap,J.at_⟩
theorem jAlive_c (x:Int) (J:JAt w H sv ev A s f) (hx:x%4=1→0≤x/4∧x/4<s.lv.length) (hl:s.lv.length≤1000000) :
  Calls Try.prog 73 #[.pointer (some ⟨H.pc,0,none⟩), .int .i64 x] w fun e w'=>e=.returned (.bool (jAlive s x))∧w=w':=by
 obtain ⟨-,c1,-,-,-,-⟩:=J.cells
 have cl:=J.hc.lt;have ll:=J.hl.lt
 by_cases h1:x%4=1
 ·obtain ⟨b0,b1⟩:=hx h1
  have hi:=J.lvCell (i:=(x/4).toNat) (by omega)
  have HE:=Hz (show jAlive s x=s.lv.getD (x/4).toNat false by simp [jAlive,h1,atB,b0])
  have AY:=Hz (fun w=>At_yes x w h1)
  clear J hx h1
  generalize s.lv.getD (x/4).toNat false=b at *
  generalize x/4=i at *
  obtain ⟨i,rfl⟩:=Int.eq_ofNat_of_zero_le b0
  simp only [Int.toNat_natCast] at hi
  generalize s.lv.length=n at *
  go_enter Try.func73,Try.ntmps73
  go_wp2_with fail
  refine (AY.out _).mono ?_
  rintro e w1 ⟨rfl,rfl⟩
  go_wp2_with fail
  go_ret
  exact ⟨ret_bool HE.out.symm,rfl⟩
 ·have HE:=Hz (show jAlive s x=true by simp [jAlive,h1])
  have AN:=Hz (fun w=>At_no x w h1)
  clear J hx h1
  go_enter Try.func73,Try.ntmps73
  go_wp2_with fail
  refine (AN.out _).mono ?_
  rintro e w1 ⟨rfl,rfl⟩
  go_wp2_with fail
  go_ret
  exact ⟨ret_bool HE.out.symm,rfl⟩
end
end
section
open Go.RowKit
section
variable {w w':World} {H:JH} {sv ev:Value} {A:Ar} {s:Gs} {f:List Int} {T:Int→Prop} {L:Nat}
theorem JAt.alive_c (x:Int) (J:JAt w H sv ev A s f) (S:ShutA A T) (G:GsOk A T s L) (hx:Dm T x) :
  Calls Try.prog 73 #[.pointer (some ⟨H.pc,0,none⟩), .int .i64 x] w fun e w'=>e=.returned (.bool (jAlive s x))∧w=w':=
 jAlive_c x J (fun h=>by rw [G.len];exact S.bd _ (hx h)) (by rw [G.len];have:=S.ok.h4;omega)
theorem jMark_c (x:Int) (J:JAt w H sv ev A s f) (S:ShutA A T) (G:GsOk A T s L) (hx:Dm T x) (hL:L≤100000) :
  Calls Try.prog 69 #[.pointer (some ⟨H.pc,0,none⟩), .int .i64 x] w fun e w'=>e=.returned (.tuple #[])∧JTm w H sv ev A (jMark s x) f w':=by
 have HAL:=Hz (J.alive_c x S G hx)
 have HJ:=Hz J
 obtain ⟨-,c1,-,c3,-,-⟩:=J.cells
 have cl:=J.hc.lt;have ll:=J.hl.lt
 cases hal:jAlive s x
 ·have hnew:=jMark_new (by rw [hal];decide)
  obtain ⟨b0,b1⟩:=S.bd _ (hx hnew.1)
  have hsum:=G.sum
  have hlen:=G.len
  have h4:=S.ok.h4
  have AY:=Hz (fun w=>At_yes x w hnew.1)
  have HE:=Hz (show jMark s x=⟨s.lv.set (x/4).toNat true,s.st ++ [x/4],s.ep⟩ by unfold jMark;rw [hal];rfl)
  rw [hal] at HAL
  have hi:=J.lvCell (i:=(x/4).toNat) (by omega)
  have hf:=J.hl.free (x/4).toNat
  obtain ⟨i0,hi0,hz0,hz1,hz2⟩:=info_parts info_int8'
  have Hi:=Hz hi0;have Hz0:=Hz hz0;have Hz1:=Hz hz1;have Hz2:=Hz hz2;clear hi0 hz0 hz1 hz2
  obtain ⟨so,sc,rfl,-,-,-⟩:=J.hs.rd
  have hst:s.st.length≤100000:=by omega
  have hb1:(x/4)<s.lv.length:=by omega
  have hb3:s.lv.length≤1000000:=by omega
  clear J hal hnew hsum hlen b1 hx S G
  generalize s.lv.getD (x/4).toNat false=b at *
  generalize x/4=i at *
  obtain ⟨i,rfl⟩:=Int.eq_ofNat_of_zero_le b0
  simp only [Int.toNat_natCast] at hi hf HE
  have hb2:i<s.lv.length:=by omega
  go_enter Try.func69,Try.ntmps69
  go_wp2_with fail
  refine HAL.out.mono ?_
  rintro e w1 ⟨rfl,rfl⟩
  go_wp2_with fail
  refine (AY.out _).mono ?_
  rintro e w1 ⟨rfl,rfl⟩
  have J1:=Hz (HJ.out.setLv i)
  have KS:=Hz (show Keeps (H.Own (.slice so s.st.length sc) ev) w (w.setCell ⟨H.lb,i,none⟩ (.bool true)) from (Keeps.refl _ w).setCell (p:=⟨H.lb,i,none⟩) (.inl (.inr (.inr (.inr (.inr (.inl rfl)))))) _)
  have hlt2:(i:Int)<s.lv.length:=by omega
  go_upto_region 3 with fail
  generalize w.setCell ⟨H.lb,i,none⟩ (.bool true)=w2 at *
  clear c1 c3 cl ll hi hf
  have c3:=J1.out.cells.2.2.2.1;have cl:=J1.out.hc.lt
  go_wp2_with (at_builtin;refine wpList_app rfl (.tmp 25) (.tmp 27) 63 rfl 3 i0 (.int .i64 0) 1 8 Try.underlying63 Hi.out Hz0.out Hz1.out Hz2.out rfl (by decide) _ s.st.length (s.st.map (Value.int .i64)) rfl ?ha ⟨w2.heap.size,0,none⟩ 1 1 [.int .i64 i] rfl rfl ?hb ?hc ?hd ?he ?hf)
  case ha=>exact J1.out.hs.keep ((Kz w2).alloc _) (fun _ _ h=>h)
  case hb=>exact news_at w2 3 _
  case hc=>intro u hu;simp at hu;subst hu;rfl
  case hd=>unfold maxLen;omega
  case he=>omega
  case hf=>
   intro v2 w3 hs2 hk2 ho2
   obtain ⟨ao2,cap2,rfl,-,-,-⟩:=hs2.rd
   have T2:=Hz (J1.out.appS ((Kz w2).alloc (.cells #[.int .i64 i] 3)) hs2 hk2 (by simpa using ho2))
   have K2:=Hz (((Kz w2).alloc (.cells #[.int .i64 i] 3)).blk J1.out.hc (fun h=>h))
   have K3:=Hz (hk2.blk K2.out (fun hv=>by
    obtain ⟨_,l,h⟩:=(J1.out.hs.keep ((Kz w2).alloc (.cells #[.int .i64 i] 3)) (fun _ _ h=>h)).own hv
    exact K2.out.ne h (by decide) rfl))
   clear hs2 hk2 ho2 K2 c3 cl
   have x0:=K3.out.cell 3;have xl:=K3.out.lt;have xf:=K3.out.free 3
   simp only [List.getElem?_cons_zero,List.getElem?_cons_succ] at x0
   go_wp2_with fail
   go_end0
   refine ⟨rfl,?_⟩
   rw [HE.out]
   exact JTm.join KS.out (fun k hk=>.inl hk) T2.out
 ·have HE:=Hz (show jMark s x=s by unfold jMark;rw [hal];rfl)
  rw [hal] at HAL
  clear J hal
  go_enter Try.func69,Try.ntmps69
  go_wp2_with fail
  refine HAL.out.mono ?_
  rintro e w1 ⟨rfl,rfl⟩
  go_wp2_with fail
  go_end0
  refine ⟨rfl,?_⟩
  rw [HE.out]
  exact JTm.refl HJ.out
theorem jLook_c (i:Int) (J:JAt w H sv ev A s f) (S:ShutA A T) (G:GsOk A T s L) (hi:T i) (hL:L≤90000) :
  Calls Try.prog 102 #[.pointer (some ⟨H.pc,0,none⟩), .int .i64 i] w fun e w'=>e=.returned (.tuple #[])∧JTo w H sv ev A (jLook A s i) f w':=by
 have HJ:=Hz J
 have HS:=Hz S;have HG:=Hz G
 have bd:=S.bd i hi
 have h4:=S.ok.h4
 have FD:=Hz (S.fd i hi)
 have TW:=Hz (S.two i hi)
 have hsum:=G.sum
 obtain ⟨c0,-,-,-,c4,p0⟩:=J.cells
 have pl:=J.hp.lt;have cl:=J.hc.lt
 have HTH:=Hz (Thing_c i w J.ha)
 have hb:=A.thing_fields i
 obtain ⟨G2,hGe⟩:∃ G,jLook A s i=G:=⟨_,rfl⟩
 have HL:=Hz hGe
 clear J S G hi
 unfold jLook at hGe
 have hfields:A.fields i=(List.range (A.thing i).2.1.toNat).map fun (j:Nat)=>A.load (i+1+(j:Int)):=rfl
 obtain ⟨F,hF⟩:∃ F,A.fields i=F:=⟨_,rfl⟩
 rw [hF] at hGe FD TW hfields
 obtain ⟨⟨k,n,cd⟩,hT⟩:∃ t,A.thing i=t:=⟨_,rfl⟩
 rw [hT] at HTH hb hGe hfields TW
 dsimp only at HTH hb hGe hfields TW
 have HFI:=Hz hfields
 clear hT hF hfields
 have hi1:IntKind.i64.wrap (i+1)=i+1:=IntWalk.i64_in _ (by omega)
 by_cases k12:k=1∨k=2
 ·rw [if_pos k12] at hGe
  have HE:=Hz hGe
  clear hGe
  obtain ⟨m,rfl⟩:∃ m:Nat,n=m:=⟨n.toNat,by omega⟩
  have hFl:F.length=m:=by rw [HFI.out];simp
  have HFL:=Hz hFl
  have HFG:=Hz (show ∀ q:Nat,q<m→A.load (i+1+q)=F.getD q 0 from fun q hq=>by
   rw [HFI.out,List.getD_eq_getElem?_getD,List.getElem?_map,List.getElem?_range (by simpa using hq)];rfl)
  clear hFl
  rcases k12 with rfl | rfl
  all_goals
   go_enter Try.func102,Try.ntmps102
   go_wp2_with fail
   refine HTH.out.mono ?_
   rintro e w1 ⟨rfl,rfl⟩
   go_wp2_with fail
   go_loopw [26] (fun u wr=>∃ q:Nat,q≤m∧u=.int .i64 q∧JTo w H sv ev A (jMarks s (F.take q)) f wr) (fun u _=>m-(intOf u).toNat)
   case atStart=>exact ⟨0,Nat.zero_le _,rfl,JTo.refl HJ.out⟩
   case round=>
    obtain ⟨q,hq,rfl,t⟩:=hrel
    obtain ⟨sv1,ev1,J1,k1,o1⟩:=t
    have HJ1:=Hz J1;have K1:=Hz k1;have O1:=Hz o1
    clear k1 o1 c0 c4 p0 pl cl
    by_cases hlt:q<m
    ·obtain ⟨c0,-,-,-,-,p0⟩:=J1.cells
     have pl:=J1.hp.lt;have cl:=J1.hc.lt
     have G1:=Hz (GsOk.marks HS.out (F.take q) HG.out (fun x hx=>FD.out x (List.mem_of_mem_take hx))).1
     have HMS:=Hz (jMarks_snoc (s:=s) (l:=F) (k:=q) (by rw [HFL.out];exact hlt))
     have DM:=Hz (show Dm T (F.getD q 0) from FD.out _ (by rw [List.getD_eq_getElem?_getD,List.getElem?_eq_getElem (by rw [HFL.out];exact hlt)];exact List.getElem_mem _))
     have HLQ:=Hz (HFG.out q hlt)
     have hiq:IntKind.i64.wrap (i+1+q)=i+1+q:=IntWalk.i64_in _ (by omega)
     clear J1
     generalize F.getD q 0=x at *
     go_wp2_with fail
     refine (Load_c (i+1+q) _ HJ1.out.ha).mono ?_
     rintro e w2 ⟨rfl,rfl⟩
     rw [HLQ.out]
     go_wp2_with fail
     refine (jMark_c x HJ1.out HS.out G1.out DM.out (by omega)).mono ?_
     rintro e w2 ⟨rfl,t⟩
     have T2:=Hz (JTo.join K1.out O1.out t.to)
     clear t c0 p0 pl cl
     go_wp2_with fail
     go_roundw
     case rel=>exact ⟨q+1,hlt,by go_num,by rw [HMS.out];exact T2.out⟩
     case measure=>simp [intOf];omega
    ·obtain rfl:q=m:=by omega
     clear J1
     go_wp2_with fail
     go_end0
     refine ⟨rfl,?_⟩
     rw [HL.out,←HE.out]
     refine JTo.join K1.out O1.out (JTo.refl ?_)
     have:=HJ1.out
     rw [List.take_of_length_le (by rw [HFL.out];exact Nat.le_refl _)] at this
     exact this
 ·have k1:(k == 1)=false:=by simp;omega
  have k2:(k == 2)=false:=by simp;omega
  rw [if_neg k12] at hGe
  clear k12
  obtain ⟨i0,hi0,hz0,hz1,hz2⟩:=info_parts info_int8'
  have Hi:=Hz hi0;have Hz0:=Hz hz0;have Hz1:=Hz hz1;have Hz2:=Hz hz2;clear hi0 hz0 hz1 hz2
  by_cases k3:k=3
  ·subst k3
   rw [if_pos rfl] at hGe
   have HE:=Hz hGe
   have DM:=Hz (show Dm T (A.load (i+2)) from FD.out _ (TW.out (.inl rfl)).2)
   clear hGe
   have hi2:IntKind.i64.wrap (i+2)=i+2:=IntWalk.i64_in _ (by omega)
   go_enter Try.func102,Try.ntmps102
   go_wp2_with fail
   refine HTH.out.mono ?_
   rintro e w1 ⟨rfl,rfl⟩
   go_wp2_with fail
   refine (Load_c (i+2) _ HJ.out.ha).mono ?_
   rintro e w2 ⟨rfl,rfl⟩
   go_wp2_with fail
   refine (jMark_c _ HJ.out HS.out HG.out DM.out (by omega)).mono ?_
   rintro e w2 ⟨rfl,t⟩
   have T2:=Hz t.to
   clear t
   go_wp2_with fail
   go_end0
   refine ⟨rfl,?_⟩
   rw [HL.out,←HE.out]
   exact T2.out
  ·have k3':(k == 3)=false:=by simpa using k3
   rw [if_neg k3] at hGe
   clear k3
   by_cases k4:k=4
   ·subst k4
    rw [if_pos rfl] at hGe
    have HE:=Hz hGe
    clear hGe
    obtain ⟨eo,ec,rfl,-,-,-⟩:=HJ.out.he.rd
    go_enter Try.func102,Try.ntmps102
    go_wp2_with fail
    refine HTH.out.mono ?_
    rintro e w1 ⟨rfl,rfl⟩
    go_wp2_with (at_builtin;refine wpList_app rfl (.tmp 64) (.tmp 66) 63 rfl 3 i0 (.int .i64 0) 1 8 Try.underlying63 Hi.out Hz0.out Hz1.out Hz2.out rfl (by decide) _ s.ep.length (s.ep.map (Value.int .i64)) rfl ?ha ⟨w.heap.size,0,none⟩ 1 1 [.int .i64 i] rfl rfl ?hb ?hc ?hd ?he ?hf)
    case ha=>exact HJ.out.he.keep ((Kz w).alloc _) (fun _ _ h=>h)
    case hb=>exact news_at w 3 _
    case hc=>intro u hu;simp at hu;subst hu;rfl
    case hd=>unfold maxLen;omega
    case he=>omega
    case hf=>
     intro v2 w2 hs2 hk2 ho2
     obtain ⟨ao2,cap2,rfl,-,-,-⟩:=hs2.rd
     have T2:=Hz (HJ.out.appE ((Kz w).alloc (.cells #[.int .i64 i] 3)) hs2 hk2 (by simpa using ho2))
     have K2:=Hz (((Kz w).alloc (.cells #[.int .i64 i] 3)).blk HJ.out.hc (fun h=>h))
     have K3:=Hz (hk2.blk K2.out (fun hv=>by
      obtain ⟨_,l,h⟩:=(HJ.out.he.keep ((Kz w).alloc (.cells #[.int .i64 i] 3)) (fun _ _ h=>h)).own hv
      exact K2.out.ne h (by decide) rfl))
     clear hs2 hk2 ho2 K2
     have x0:=K3.out.cell 4;have xl:=K3.out.lt;have xf:=K3.out.free 4
     simp only [List.getElem?_cons_zero,List.getElem?_cons_succ] at x0
     clear c0 c4 p0 pl cl
     go_wp2_with fail
     go_end0
     refine ⟨rfl,?_⟩
     rw [HL.out,←HE.out]
     exact T2.out
   ·have k4':(k == 4)=false:=by simpa using k4
    rw [if_neg k4] at hGe
    have HE:=Hz hGe
    clear hGe k4
    go_enter Try.func102,Try.ntmps102
    go_wp2_with fail
    refine HTH.out.mono ?_
    rintro e w1 ⟨rfl,rfl⟩
    go_wp2_with fail
    go_end0
    refine ⟨rfl,?_⟩
    rw [HL.out,←HE.out]
    exact JTo.refl HJ.out
end
end
section
open Go.RowKit
variable {τ:Type}
theorem WakeN_c (p:Nat) (L:Liv Try.prog p τ) (kp:τ→Int→τ × Int) (hsame:∀ t l x,L.keep t l x=((kp t x).1,l,(kp t x).2)) (t:τ) (F:Nat→Prop) (rv wv:Value) (regs wait:List (Int × Int)) (w:World)
  (hdk:∀ t x,L.D t x→L.alive t x=false→L.DK t x) (hJ:L.J w t F) (h:SideAt w p rv wv regs wait) (hap:Apart F p rv wv) (hl:wait.length≤1000000) (hD:∀ e ∈ wait,L.D t e.1∧L.D t e.2) :
  Calls Try.prog 96 #[.pointer (some ⟨p,0,none⟩), .agg #[.func (.func L.fa) L.a1 L.a2, .func (.func L.fk) L.k1 L.k2, .nilFunc]] w fun e w'=>WakeTo L kp t F rv wv regs wait w e w':=by
 obtain ⟨wo,wc,rfl,hrd,_,_⟩:=h.hw.rd
 have c1:=h.hp.cell 1
 simp only [List.getElem?_cons_zero,List.getElem?_cons_succ] at c1
 have hpl:=h.hp.lt
 have H:=Hz h
 have HSM:=Hz hsame;have HDK:=Hz hdk;have HJ:=Hz hJ;have HA:=Hz hap;have HD:=Hz hD
 clear h hrd hsame hdk hJ hap hD
 have ea:=L.ea;have ek:=L.ek;have en:=L.en
 generalize hbox:w.alloc (.cells #[.func (.func L.fa) L.a1 L.a2, .func (.func L.fk) L.k1 L.k2, .nilFunc] 116)=wb
 have hkb:Keeps (fun b=>F b∨SideFp p rv (.slice wo wait.length wc) b) w wb:=by rw [←hbox];exact (Keeps.refl _ _).alloc _
 have hbb:Blk wb w.heap.size [.func (.func L.fa) L.a1 L.a2, .func (.func L.fk) L.k1 L.k2, .nilFunc] 116:=by rw [←hbox];exact Blk.newAt _ rfl rfl
 have hszb:wb.heap.size=w.heap.size+1:=by rw [←hbox];simp
 have hkb0:Keeps (fun _=>False) w wb:=by rw [←hbox];exact (Keeps.refl _ _).alloc _
 have HI:WakeIn L kp t F rv (.slice wo wait.length wc) regs wait wb wb 0 false:=
  ⟨t,F,[],rfl,L.J_keep HJ.out hkb0 (fun _ _ h=>h),H.out.keep hkb0 (fun _ _ h=>h),HA.out,Keeps.refl _ _,fun b hb=>.inl hb,by simpa using HD.out,by simp⟩
 have HKB:=Hz hkb;have HBB:=Hz hbb;have HSZ:=Hz hszb;have HBX:=Hz hbox
 clear hkb hbb hszb hkb0 hbox
 go_enter Try.func96,Try.ntmps96
 go_wp2_with fail
 rw [HBX.out]
 go_loopw [5,14] (fun v i wr=>∃ (k:Nat) (woke:Bool),k≤wait.length∧i=.int .i64 k∧v=.bool woke∧WakeIn L kp t F rv (.slice wo wait.length wc) regs wait wb wr k woke) (fun _ i _=>wait.length-(intOf i).toNat)
 case atStart=>exact ⟨0,false,Nat.zero_le _,rfl,rfl,HI⟩
 case round=>
  clear HI c1
  obtain ⟨k,woke,hk,rfl,rfl,tk,Fk,pre,hpk,hJ,hS,hA,hK,hFk,hDk,hM⟩:=hrel
  have GJ:=Hz hJ;have GS:=Hz hS;have GA:=Hz hA;have GK:=Hz hK;have GF:=Hz hFk;have GD:=Hz hDk;have GM:=Hz hM;have GP:=Hz hpk
  clear hJ hS hA hK hFk hDk hM hpk
  by_cases hlt:k<wait.length
  ·have hdr:wait.drop k=wait.getD k (0,0) :: wait.drop (k+1):=by
    rw [List.drop_eq_getElem_cons hlt];simp [List.getD,hlt]
   have hm:=GM.out;have hs:=GS.out;have hd:=GD.out
   have HDR:=Hz hdr
   rw [hdr] at hm hs hd
   have hvd:=hd (wait.getD k (0,0)) (by simp)
   have hgt:(pre ++ wait.getD k (0,0) :: wait.drop (k+1)).getD k (0,0)=wait.getD k (0,0):=by
    simp [List.getD,GP.out]
   have hln:(pre ++ wait.getD k (0,0) :: wait.drop (k+1)).length=wait.length:=by simp [GP.out];omega
   generalize wait.getD k (0,0)=v at *
   obtain ⟨g,o,cap,cur,he,hb,_,_,_,_⟩:=hs.hw.laid (by omega)
   rw [hln] at he
   cases he
   obtain ⟨_,_,e',hrd,_,_⟩:=hs.hw.rd
   rw [hln] at e'
   cases e'
   obtain ⟨g',o',e',hgl,d0,d1⟩:=hrd.ent k (by omega)
   cases e'
   rw [hgt] at d0 d1
   have hbw:w.heap.size<wb.heap.size:=by rw [HSZ.out];omega
   have hbn:∀ b,(F b∨SideFp p rv (.slice (some ⟨g,o,none⟩) wait.length wc) b)→¬ b=w.heap.size:=by
    rintro b (h | h) rfl
    ·have:=L.J_lt HJ.out h;omega
    ·have:=H.out.fp_lt h;omega
   have hbx:Blk wr w.heap.size _ _:=GK.out.blk HBB.out (fun h=>hbn _ h rfl)
   have HX:=Hz hbx;have HM:=Hz hm;have HS:=Hz hs;have HD:=Hz hd;have HV:=Hz hvd;have HN:=Hz hbn
   have b0:=hbx.cell 0;have b1:=hbx.cell 1
   have bl:=hbx.lt
   simp only [List.getElem?_cons_zero,List.getElem?_cons_succ] at b0 b1
   clear hm hs hd hvd hbx hbn hb hrd hgt hdr
   have ALL:Hid (∀ w2,Keeps (fun _=>False) wr w2→(L.alive tk v.1 && !L.alive tk v.2)=false→WakeIn L kp t F rv (.slice (some ⟨g,o,none⟩) wait.length wc) regs wait wb w2 (k+1) woke):=fun w2 h1 h2=>WakeIn.skip GP.out HDR.out GJ.out HS.out GA.out GK.out GF.out HD.out HM.out h1 h2
   go_wp2_with fail
   have hk0:=(Kz wr).alloc (.cells #[Value.int IntKind.i64 v.fst,Value.int IntKind.i64 v.snd] 100)
   refine (L.alive_c _ tk Fk v.1 (L.J_keep GJ.out hk0 (fun _ _ h=>h)) HV.out.1).mono ?_
   rintro e w1 ⟨rfl,hk1⟩
   have HK1:=Hz (hk0.trans hk1)
   have HE1:=Hz (hk1.blk (Blk.newAt (w:=wr) _ rfl rfl) (fun h=>h))
   have x0:=(HK1.out.blk HX.out (fun h=>h)).cell 0
   have xl:=(HK1.out.blk HX.out (fun h=>h)).lt
   have e1:=HE1.out.cell 1
   have el:=HE1.out.lt
   simp only [List.getElem?_cons_zero,List.getElem?_cons_succ] at x0 e1
   clear hk0 hk1
   cases ha:L.alive tk v.1
   ·go_wp2_with fail
    go_roundw
    case rel=>exact ⟨k+1,woke,by omega,by go_num,rfl,ALL.out _ HK1.out (by rw [ha];rfl)⟩
    case measure=>simp [intOf];omega
   ·go_wp2_with fail
    refine (L.alive_c _ tk Fk v.2 (L.J_keep GJ.out HK1.out (fun _ _ h=>h)) HV.out.2).mono ?_
    rintro e w2 ⟨rfl,hk2⟩
    have HK2:=Hz (HK1.out.trans hk2)
    have HE2:=Hz (hk2.blk HE1.out (fun h=>h))
    clear x0 xl e1 el
    have x0:=(HK2.out.blk HX.out (fun h=>h)).cell 1
    have xl:=(HK2.out.blk HX.out (fun h=>h)).lt
    have e1:=HE2.out.cell 1
    have el:=HE2.out.lt
    simp only [List.getElem?_cons_zero,List.getElem?_cons_succ] at x0 e1
    clear hk2
    cases hb:L.alive tk v.2
    ·go_wp2_with fail
     refine (L.keep_c _ tk Fk rv _ regs _ v.2 (L.J_keep GJ.out HK2.out (fun _ _ h=>h)) (HS.out.keep HK2.out (fun _ _ h=>h)) GA.out (HDK.out _ _ HV.out.2 hb) HD.out (by omega)).mono ?_
     rintro e w3 ⟨rfl,F3,hJ3,hS3,hA3,hk3,hF3⟩
     have hdk:∀ e ∈ pre ++ v :: wait.drop (k+1),L.D (kp tk v.2).1 e.1∧L.D (kp tk v.2).1 e.2:=by
      intro e he
      have:=HD.out e he
      have a1:=L.D_keep (wait:=pre ++ v :: wait.drop (k+1)) (HDK.out _ _ HV.out.2 hb) this.1
      have a2:=L.D_keep (wait:=pre ++ v :: wait.drop (k+1)) (HDK.out _ _ HV.out.2 hb) this.2
      rw [HSM.out] at a1 a2
      exact ⟨a1,a2⟩
     have hdn:=L.D_new (wait:=pre ++ v :: wait.drop (k+1)) (HDK.out _ _ HV.out.2 hb)
     have e3:(L.keep tk (pre ++ v :: wait.drop (k+1)) v.2).2.2=(kp tk v.2).2:=by rw [HSM.out]
     rw [e3]
     rw [HSM.out] at hJ3 hS3 hdn
     replace hJ3:L.J w3 (kp tk v.2).1 F3:=hJ3
     replace hS3:SideAt w3 p rv (.slice (some ⟨g,o,none⟩) wait.length wc) regs (pre ++ v :: wait.drop (k+1)):=hS3
     replace hdn:L.D (kp tk v.2).1 (kp tk v.2).2:=hdn
     clear e3
     have hpg:p≠g:=fun e=>hS3.pw (by subst e;rfl)
     obtain ⟨g3,o3,cap3,cur3,he3,hb3,_,_,_,_⟩:=hS3.hw.laid (by omega)
     rw [hln] at he3
     cases he3
     have HS3:=Hz (hS3.setThing (kp tk v.2).2)
     have hk3':Keeps (fun b=>Fk b∨SideFp p rv (.slice (some ⟨g,o,none⟩) wait.length wc) b) wr w3:=(HK2.out.mono fun _ _ h=>h.elim).trans hk3
     have HF3:Hid (∀ b,F3 b→Fk b∨wr.heap.size≤b):=fun b hb=>by
      rcases hF3 b hb with h | h
      ·exact .inl h
      ·exact .inr (Nat.le_trans HK2.out.size h)
     have hng:¬ F3 g:=fun h=>hA3 g ⟨h, .inr (.inr rfl)⟩
     have HJ3:=Hz (L.J_keep hJ3 ((Keeps.refl (·=g) w3).setCell (p:=⟨g,o+pre.length*2+1,none⟩) (.inl rfl) (.int .i64 (kp tk v.2).2)) (by rintro b hb rfl;exact hng hb))
     have HK3:=Hz (hk3'.setCell (p:=⟨g,o+pre.length*2+1,none⟩) (.inl (.inr (.inr (.inr rfl)))) (.int .i64 (kp tk v.2).2))
     have HA3:=Hz hA3
     have p1:=hS3.hp.cell 1
     have fz:=hb3.free (o+k*2+1)
     obtain ⟨_,_,e3,hrd3,_,_⟩:=hS3.hw.rd
     rw [hln] at e3
     cases e3
     obtain ⟨g3,o3,e3,_,q0,q1⟩:=hrd3.ent k (by omega)
     cases e3
     have gl:=hb3.lt
     have pl:=hS3.hp.lt
     simp only [List.getElem?_cons_zero,List.getElem?_cons_succ] at p1
     rw [GP.out] at HJ3 HK3 HS3
     have HDN:Hid (∀ e ∈ pre ++ (v.1,(kp tk v.2).2) :: wait.drop (k+1),L.D (kp tk v.2).1 e.1∧L.D (kp tk v.2).1 e.2):=by
      intro e he
      simp only [List.mem_append,List.mem_cons] at he
      rcases he with he | rfl | he
      ·exact hdk e (by simp [he])
      ·exact ⟨(hdk v (by simp)).1,hdn⟩
      ·exact hdk e (by simp [he])
     have HX3:Hid (w.heap.size<w3.heap.size):=Nat.lt_of_lt_of_le xl hk3.size
     have hx3:=HX3.out
     clear hrd3 hJ3 hS3 hA3 hk3 hF3 hdk hdn hk3' hng hb3 x0 xl e1 el
     clear HX3
     go_wp2_with fail
     go_roundw
     case rel=>exact ⟨k+1,true,by omega,by go_num,rfl,WakeIn.kept GP.out GK.out GF.out HM.out HJ3.out HS3.out HA3.out HK3.out HF3.out HDN.out (by rw [ha,hb];rfl)⟩
     case measure=>simp [intOf];omega
    ·go_wp2_with fail
     go_roundw
     case rel=>exact ⟨k+1,woke,by omega,by go_num,rfl,ALL.out _ HK2.out (by rw [ha,hb];rfl)⟩
     case measure=>simp [intOf];omega
  ·obtain rfl:k=wait.length:=by omega
   go_wp2_with fail
   go_ret
   have hm:=GM.out
   have hs:=GS.out
   have hd:=GD.out
   rw [List.drop_length] at hm hs hd
   simp only [wakeM,List.append_nil,Bool.or_false] at hm hs hd
   refine ⟨by rw [hm];rfl,Fk,by rw [hm];exact GJ.out,by rw [hm];exact hs,GA.out,HKB.out.trans GK.out,fun b hb=>?_,by rw [hm];exact hd⟩
   rcases GF.out b hb with h | h
   ·exact .inl h
   ·exact .inr (by rw [HSZ.out] at h;omega)
end
section
open Go.RowKit
def JcAt (w:World) (b:Nat) (H:JH):Prop:=Blk w b [.pointer (some ⟨H.pc,0,none⟩)] 118
def isF:Value→Bool
 | .bool b=>!b
 | _=>false
def falsW (w:World) (b:Nat):Nat:=match w.heap[b]? with | some (.cells cs _ _)=>(cs.toList.filter isF).length | _=>0
def lenW (w:World) (b i:Nat):Nat:=match w.cell? ⟨b,i,none⟩ with | some (.slice _ n _)=>n | _=>0
theorem falsW_of {w:World} {b:Nat} {l:List Bool} {T:TypeId} (h:Blk w b (l.map Value.bool) T):falsW w b=fals l:=by
 unfold falsW fals
 unfold Blk at h
 rw [h]
 simp only [List.filter_map,List.length_map]
 congr 1
theorem lenW_of {w:World} {b i n cap:Nat} {ao:Option Addr} (h:w.cell? ⟨b,i,none⟩=some (.slice ao n cap)):lenW w b i=n:=by unfold lenW;rw [h]
section
variable {w w':World} {H:JH} {sv ev rv qv:Value} {A:Ar} {s:Gs} {f:List Int} {T:Int→Prop} {L sp:Nat} {rg q:List (Int × Int)}
theorem JAt.var_ne (J:JAt w H sv ev A s f) {b:Nat} (hb:JcAt w b H):¬ H.Own sv ev b:=fun h=>by
 obtain ⟨_,T,h',hT⟩:=J.own_type h
 refine hb.ne h' ?_ rfl
 rcases hT with rfl | rfl | rfl | rfl | rfl | rfl <;> decide
theorem JAt.side_apart {p:Nat} (J:JAt w H sv ev A s f) (S:SideAt w p rv qv rg q) {k:Nat} (hk:H.Own sv ev k):¬ SideFp p rv qv k:=fun hs=>by
 obtain ⟨_,T,h,hT⟩:=J.own_type hk
 obtain ⟨_,U,h',hU⟩:=S.fp_type hs
 refine h.ne h' ?_ rfl
 rcases hT with rfl | rfl | rfl | rfl | rfl | rfl <;> rcases hU with rfl | rfl <;> decide
theorem jSame_c (x:Int) (w:World):Calls Try.prog 72 #[.int .i64 x] w fun e w'=>e=.returned (.int .i64 x)∧w=w':=by
 go_enter Try.func72,Try.ntmps72
 go_wp2_with fail
 go_ret
 exact ⟨rfl,rfl⟩
theorem jDrain1_c (x:Int) (b:Nat) (J:JAt w H sv ev A s f) (S:ShutA A T) (G:GsOk A T s L) (hx:Dm T x) (hL:L≤100000) (hb:JcAt w b H) :
  Calls Try.prog 103 #[.int .i64 x, .pointer (some ⟨b,0,none⟩)] w fun e w'=>e=.returned (.int .i64 x)∧JTm w H sv ev A (jMark s x) f w':=by
 have HM:=Hz (jMark_c x J S G hx hL)
 have b0:=hb.cell 0;have bl:=hb.lt
 simp only [List.getElem?_cons_zero] at b0
 clear J S G hb
 go_enter Try.func103,Try.ntmps103
 go_wp2_with fail
 refine HM.out.mono ?_
 rintro e w1 ⟨rfl,t⟩
 have T1:=Hz t
 clear t b0 bl
 go_wp2_with fail
 go_ret
 exact ⟨rfl,T1.out⟩
def jWakeL (H:JH) (A:Ar) (f:List Int) (T:Int→Prop) (L:Nat) (S:ShutA A T) (hL:L≤100000) (sp b:Nat):Liv Try.prog sp Gs where
 J:=fun w s F=>∃ sv ev,JAt w H sv ev A s f∧GsOk A T s L∧JcAt w b H∧F=fun k=>H.Own sv ev k∨k=b
 D:=fun _ x=>Dm T x
 DK:=fun _ x=>Dm T x
 alive:=jAlive
 keep:=fun s q x=>((jKp s x).1,q,(jKp s x).2)
 now:=fun _ x=>x
 fa:=73
 fk:=103
 fn:=72
 a1:=#[.pointer (some ⟨H.pc,0,none⟩)]
 a2:=#[]
 k1:=#[]
 k2:=#[.pointer (some ⟨b,0,none⟩)]
 n1:=#[]
 n2:=#[]
 ea:=fun args w=>by kernel_rfl
 ek:=fun args w=>by kernel_rfl
 en:=fun args w=>by kernel_rfl
 J_keep:=fun h k hn=>by
  obtain ⟨sv,ev,h1,h2,h3,rfl⟩:=h
  exact ⟨sv,ev,h1.keep k (fun b hb=>hn b (.inl hb)),h2,k.blk h3 (hn _ (.inr rfl)),rfl⟩
 J_lt:=fun h hk=>by
  obtain ⟨sv,ev,h1,h2,h3,rfl⟩:=h
  rcases hk with hk | rfl
  ·exact h1.own_lt hk
  ·exact h3.lt
 alive_c:=fun w t F x hJ hx=>by
  obtain ⟨sv,ev,h1,h2,-⟩:=hJ
  exact (h1.alive_c x S h2 hx).mono (by rintro e w' ⟨rfl,rfl⟩;exact ⟨rfl,Keeps.refl _ _⟩)
 now_c:=fun w t F x hJ _=>(jSame_c x w).mono (by rintro e w' ⟨rfl,rfl⟩;exact ⟨rfl,Keeps.refl _ _⟩)
 keep_c:=fun w t F rv qv regs wait x hJ hS hA hx hq hl=>by
  obtain ⟨sv,ev,h1,h2,h3,rfl⟩:=hJ
  refine (jDrain1_c x b h1 S h2 hx hL h3).mono ?_
  rintro e w' ⟨rfl,sv',J',k',o'⟩
  have hS':=hS.keep k' (fun b hb hk=>hA b ⟨.inl hk,hb⟩)
  refine ⟨rfl,_,⟨sv',ev,J',(h2.mark S hx).1,k'.blk h3 (h1.var_ne h3),rfl⟩,hS',fun k hk=>?_,k'.mono (fun _ _ h=>.inl (.inl h)),fun k hk=>?_⟩
  ·rcases hk with ⟨hk | hk,hs⟩
   ·exact J'.side_apart hS' hk hs
   ·exact hA k ⟨.inr hk,hs⟩
  ·rcases hk with hk | hk
   ·exact (o' k hk).imp .inl id
   ·exact .inl (.inr hk)
 DK_D:=fun h=>h
 DK_keep:=fun _ h=>h
 D_keep:=fun _ h=>h
 D_new:=fun h=>h
 D_wait:=fun _ h=>h
 keep_len:=rfl
structure JS (w:World) (H:JH) (sp:Nat) (sv ev rv qv:Value) (A:Ar) (f:List Int) (T:Int→Prop) (L:Nat) (rg q:List (Int × Int)) (s:Gs):Prop where
 J:JAt w H sv ev A s f
 S:SideAt w sp rv qv rg q
 ok:GsOk A T s L
def JSTo (w:World) (H:JH) (sp:Nat) (sv ev rv qv:Value) (A:Ar) (f:List Int) (T:Int→Prop) (L:Nat) (rg q:List (Int × Int)) (s:Gs) (w':World):Prop:=
 ∃ sv' ev',JS w' H sp sv' ev' rv qv A f T L rg q s∧Keeps (fun k=>H.Own sv ev k∨SideFp sp rv qv k) w w'∧∀ k,H.Own sv' ev' k→H.Own sv ev k∨w.heap.size≤k
theorem JS.keep {S:Nat→Prop} (C:JS w H sp sv ev rv qv A f T L rg q s) (k:Keeps S w w') (h1:∀ b,H.Own sv ev b→¬ S b) (h2:∀ b,SideFp sp rv qv b→¬ S b):JS w' H sp sv ev rv qv A f T L rg q s:=
 ⟨C.J.keep k h1,C.S.keep k h2,C.ok⟩
theorem JS.same (C:JS w H sp sv ev rv qv A f T L rg q s) (k:Keeps (fun _=>False) w w'):JS w' H sp sv ev rv qv A f T L rg q s:=C.keep k (fun _ _ h=>h) (fun _ _ h=>h)
theorem JSTo.refl (C:JS w H sp sv ev rv qv A f T L rg q s) (k:Keeps (fun _=>False) w w'):JSTo w H sp sv ev rv qv A f T L rg q s w':=⟨sv,ev,C.same k,k.mono (fun _ _ h=>h.elim),fun _ h=>.inl h⟩
theorem JSTo.join {w1:World} {sv1 ev1:Value} (k1:Keeps (fun k=>H.Own sv ev k∨SideFp sp rv qv k) w w1) (o1:∀ k,H.Own sv1 ev1 k→H.Own sv ev k∨w.heap.size≤k) (t:JSTo w1 H sp sv1 ev1 rv qv A f T L rg q s w'):JSTo w H sp sv ev rv qv A f T L rg q s w':=by
 obtain ⟨a2,b2,J2,k2,o2⟩:=t
 refine ⟨a2,b2,J2,k1.then k2 (fun k hk=>?_),fun k hk=>?_⟩
 ·rcases hk with hk | hk
  ·exact (o1 k hk).imp .inl id
  ·exact .inl (.inr hk)
 ·rcases o2 k hk with h | h
  ·exact o1 k h
  ·exact .inr (Nat.le_trans k1.size h)
theorem JS.var (C:JS w H sp sv ev rv qv A f T L rg q s) {b:Nat} (hb:JcAt w b H) (k:Keeps (fun k=>H.Own sv ev k∨SideFp sp rv qv k) w w'):JcAt w' b H:=k.blk hb (fun h=>by
 rcases h with h | h
 ·exact C.J.var_ne hb h
 ·obtain ⟨_,U,h',hU⟩:=C.S.fp_type h
  refine hb.ne h' ?_ rfl
  rcases hU with rfl | rfl <;> decide)
def DrainJ (w:World) (H:JH) (sp b:Nat) (sv ev rv qv:Value) (A:Ar) (f:List Int) (T:Int→Prop) (L:Nat) (rg q:List (Int × Int)) (s:Gs) (m:Value) (wr:World):Prop:=
 (∃ (n:Nat) (s1:Gs),m=.bool true∧JSTo w H sp sv ev rv qv A f T L rg q s1 wr∧JcAt wr b H∧jDrain A q 2000 s=jDrain A q (n+1) s1∧fals s1.lv≤n) ∨
  (m=.bool false∧JSTo w H sp sv ev rv qv A f T L rg q (jDrain A q 2000 s) wr)
def drainMuJ (H:JH) (m:Value) (wr:World):Nat:=falsW wr H.lb+match m with | .bool true=>1 | _=>0
def PopsI (w:World) (H:JH) (sp b:Nat) (sv ev rv qv:Value) (A:Ar) (f:List Int) (T:Int→Prop) (L:Nat) (rg q:List (Int × Int)) (s:Gs) (wr:World):Prop:=
 ∃ (n:Nat) (s2:Gs),JSTo w H sp sv ev rv qv A f T L rg q s2 wr∧JcAt wr b H∧jPops A 2000 s=jPops A n s2∧jM s2<n
theorem jM_lt (h:GsOk A T s L) (hL:L≤1900):jM s<2000:=by have:=h.sum;unfold jM;omega
theorem JAt.jM (J:JAt w H sv ev A s f):lenW w H.pc 3+falsW w H.lb=Proofs.Ytjifdalflepcoac.jM s:=by
 obtain ⟨so,sc,e,-,-,-⟩:=J.hs.rd
 have c3:=J.cells.2.2.2.1
 rw [e] at c3
 rw [lenW_of c3,falsW_of J.hl]
 rfl
theorem JSTo.jM (t:JSTo w H sp sv ev rv qv A f T L rg q s w'):lenW w' H.pc 3+falsW w' H.lb=Proofs.Ytjifdalflepcoac.jM s:=by
 obtain ⟨_,_,C,-,-⟩:=t;exact C.J.jM
theorem JSTo.fals (t:JSTo w H sp sv ev rv qv A f T L rg q s w'):falsW w' H.lb=Proofs.Ytjifdalflepcoac.fals s.lv:=by
 obtain ⟨_,_,C,-,-⟩:=t;exact falsW_of C.J.hl
theorem jDrain_c (C:JS w H sp sv ev rv qv A f T L rg q s) (S:ShutA A T) (hq:∀ e ∈ q,Dm T e.1∧Dm T e.2) (hql:q.length≤1000000) (hL:L≤1900) :
  Calls Try.prog 71 #[.pointer (some ⟨H.pc,0,none⟩), .pointer (some ⟨sp,0,none⟩)] w fun e w'=>e=.returned (.tuple #[])∧JSTo w H sp sv ev rv qv A f T L rg q (jDrain A q 2000 s) w':=by
 have HC0:=Hz C
 have HS:=Hz S;have HQ:=Hz hq;have HQL:=Hz hql
 clear C S hq hql
 generalize hwx:w.alloc (.cells #[.pointer (some ⟨H.pc,0,none⟩)] 118)=wx
 have HK:=Hz (show Keeps (fun _=>False) w wx by rw [←hwx];exact (Keeps.refl _ _).alloc _)
 have HB:=Hz (show JcAt wx w.heap.size H by rw [←hwx];exact Blk.newAt _ rfl rfl)
 have HX:=Hz hwx
 have HC:=Hz (HC0.out.same HK.out)
 have HTJ:=Hz (JSTo.refl HC0.out HK.out)
 clear hwx HC0
 go_enter Try.func71,Try.ntmps71
 go_wp2_with fail
 rw [HX.out]
 generalize hbe:w.heap.size=b at HB HX ⊢
 have BG:=Hz (Nat.le_of_eq hbe)
 clear HX hbe
 go_loopw [4] (fun m wr=>DrainJ w H sp b sv ev rv qv A f T L rg q s m wr) (fun m wr=>drainMuJ H m wr)
 case atStart=>exact .inl ⟨1999,s,rfl,HTJ.out,HB.out,rfl,by have:=HC.out.ok.sum;omega⟩
 case round=>
  rcases hrel with ⟨n,s1,rfl,ht,hb1,he,hn⟩ | ⟨rfl,ht⟩
  ·obtain ⟨sv1,ev1,C1,k1,o1⟩:=ht
   have HMU:=Hz (show drainMuJ H (.bool true) wr=fals s1.lv+1 by unfold drainMuJ;rw [falsW_of C1.J.hl])
   have HC1:=Hz C1;have K1:=Hz k1;have O1:=Hz o1;have HE:=Hz he;have HN:=Hz hn;have HB1:=Hz hb1
   clear C1 k1 o1 he hn hb1 HB
   obtain ⟨w1,rfl⟩:∃ x:World,x=wr:=⟨wr,rfl⟩
   go_wp2_with fail
   go_loopw [14] (fun _ wr=>PopsI w1 H sp b sv1 ev1 rv qv A f T L rg q s1 wr) (fun _ wr=>lenW wr H.pc 3+falsW wr H.lb)
   case atStart=>exact ⟨2000,s1,JSTo.refl HC1.out (Keeps.refl _ _),HB1.out,rfl,jM_lt HC1.out.ok hL⟩
   case round=>
    obtain ⟨m,s2,⟨sv2,ev2,C2,k2,o2⟩,hb2,he2,hm2⟩:=hrel
    have HC2:=Hz C2;have K2:=Hz k2;have O2:=Hz o2;have HE2:=Hz he2;have HM2:=Hz hm2;have HB2:=Hz hb2
    clear k2 o2 he2 hm2
    have b0:=hb2.cell 0;have bl:=hb2.lt
    simp only [List.getElem?_cons_zero] at b0
    have c3:=C2.J.cells.2.2.2.1;have c4:=C2.J.cells.2.2.2.2.1;have cl:=C2.J.hc.lt
    clear hb2 C2
    obtain ⟨so,sc,rfl,hsr,-,hsc⟩:=HC2.out.J.hs.rd
    obtain ⟨eo,ec,rfl,-,-,-⟩:=HC2.out.J.he.rd
    have HLF:=Hz HC2.out.J.jM
    have hstl:s2.st.length≤2000:=by have:=HC2.out.ok.sum;omega
    have hepl:s2.ep.length≤2000:=by have:=HC2.out.ok.sum;omega
    by_cases hne:s2.st=[]
    ·have hl0:s2.st.length=0:=by rw [hne];rfl
     have HST:=Hz (show jPops A 2000 s1=s2 by rw [HE2.out,jPops_none _ hne])
     rw [hl0] at c3
     clear hne hsr hsc HE2 HM2 HLF hstl hl0
     obtain ⟨w2,rfl⟩:∃ x:World,x=wr:=⟨wr,rfl⟩
     go_wp2_with fail
     go_loopw [49] (fun u wr=>∃ k:Nat,k≤s2.ep.length∧u=.int .i64 k∧∃ sv',JS wr H sp sv' (.slice eo s2.ep.length ec) rv qv A f T L rg q (jEph A s2 (s2.ep.take k))∧Keeps (fun k=>H.Own (.slice so s2.st.length sc) (.slice eo s2.ep.length ec) k∨SideFp sp rv qv k) w2 wr∧(∀ k,H.Own sv' (.slice eo s2.ep.length ec) k→H.Own (.slice so s2.st.length sc) (.slice eo s2.ep.length ec) k∨w2.heap.size≤k)∧JcAt wr b H) (fun u _=>s2.ep.length-(intOf u).toNat)
     case atStart=>exact ⟨0,Nat.zero_le _,rfl,_,HC2.out,Keeps.refl _ _,fun _ h=>.inl h,HB2.out⟩
     case round=>
      clear c3 c4 cl b0 bl
      obtain ⟨k,hk,rfl,sv3,C3,k3,o3,hb3⟩:=hrel
      have HC3:=Hz C3;have K3:=Hz k3;have O3:=Hz o3;have HB3:=Hz hb3
      clear C3 k3 o3 hb3
      have hee:=jEph_ep A (s2.ep.take k) s2
      have b0:=HB3.out.cell 0;have bl:=HB3.out.lt
      simp only [List.getElem?_cons_zero] at b0
      have c0:=HC3.out.J.cells.1;have p0:=HC3.out.J.cells.2.2.2.2.2;have pl:=HC3.out.J.hp.lt;have cl:=HC3.out.J.hc.lt
      by_cases hlt:k<s2.ep.length
      ·have he3:=HC3.out.J.he
       rw [hee] at he3
       obtain ⟨_,_,e',rd,-,-⟩:=he3.rd
       cases e'
       obtain ⟨ge,oe,rfl,d0⟩:=rd.int k hlt
       have hgl:=(he3.own rfl).1
       have hmem:s2.ep.getD k 0 ∈ s2.ep:=by rw [List.getD_eq_getElem?_getD,List.getElem?_eq_getElem hlt];exact List.getElem_mem hlt
       have hin:=HC2.out.ok.ep _ hmem
       have hbd:=HS.out.bd _ hin.1
       have h4:=HS.out.ok.h4
       have HTK:=Hz (jEph_snoc (A:=A) (s:=s2) hlt)
       generalize s2.ep.getD k 0=i at *
       have D1:=Hz (show Dm T (A.load (i+1)) from HS.out.fd i hin.1 _ (HS.out.two i hin.1 (.inr hin.2)).1)
       have D2:=Hz (show Dm T (A.load (i+2)) from HS.out.fd i hin.1 _ (HS.out.two i hin.1 (.inr hin.2)).2)
       have GE:=Hz (HC3.out.ok.eph1 HS.out hin).1
       have hi1:IntKind.i64.wrap (i+1)=i+1:=IntWalk.i64_in _ (by omega)
       have hi2:IntKind.i64.wrap (i+2)=i+2:=IntWalk.i64_in _ (by omega)
       obtain ⟨s3,hs3⟩:∃ s,jEph A s2 (s2.ep.take k)=s:=⟨_,rfl⟩
       rw [hs3] at HC3 HTK GE hee
       have HEE:=Hz hee
       clear rd hmem he3 hs3 hin hee
       go_wp2_with fail
       refine wp_region_ro (.free 8 (.free 9 (.pure 0 (.pure 1 (.free 2 (.free 3 (.pure 4 (.free 5 (.free 6 (.pure 7 (.run 10 (.run 11 (.swi [] (.fin)))))))))))))) [11] (fun w'=>w'.cell? ⟨b,0,none⟩=some (.pointer (some ⟨H.pc,0,none⟩))∧w'.cell? ⟨H.pc,0,none⟩=some (.pointer (some ⟨H.p,0,none⟩))∧w'.cell? ⟨H.p,0,none⟩=some (.pointer (some ⟨H.pa,0,none⟩))) (by kernel_rfl) (by kernel_rfl) ⟨b0,c0,p0⟩ ?_
       iterate 10 first | (refine wpRO_free rfl rfl _ (fun w'=>by go_simp;exact Gives.mk _ _) (fun K hK=>?_);go_simp;refine hK _ ?_;clear hK K) | (refine wpRO_skipF rfl rfl (fun K hK=>?_);go_simp;refine hK _ ?_;clear hK K) | (refine wpRO_pure rfl rfl _ (fun w' hG=>by obtain ⟨b0,c0,p0⟩:=hG;exact gives_agg2 rfl (by decide +kernel) rfl (by assumption) (by assumption)) (fun K hK=>?_);go_simp;refine hK _ ?_;clear hK K) | (refine wpRO_pure rfl rfl _ (fun w' hG=>by obtain ⟨b0,c0,p0⟩:=hG;go_simp;exact Gives.mk _ _) (fun K hK=>?_);go_simp;refine hK _ ?_;clear hK K) | (refine wpRO_skip rfl rfl (fun K hK=>?_);go_simp;refine hK _ ?_;clear hK K)
       have HC4:=Hz (HC3.out.same ((Kz wr).drew));have HB4:=Hz ((Kz wr).drew.blk HB3.out (fun h=>h))
       have K4:=Hz (K3.out.trans ((Kz wr).drew.mono (fun _ _ h=>h.elim)))
       refine wpRO_run rfl rfl (fun K hK=>?_);unfold gRun;go_simp
       refine (Load_c (i+1) _ HC4.out.J.ha).mono ?_
       rintro e w4 ⟨rfl,rfl⟩
       refine hK _ _ (fun h=>h) ?_
       clear hK K
       refine wpRO_chg rfl rfl rfl (fun K hK=>?_);unfold gRun;go_simp
       refine (HC4.out.J.alive_c _ HS.out HC4.out.ok D1.out).mono ?_
       rintro e w4 ⟨rfl,rfl⟩
       refine hK _ _ ?_
       clear hK K b0 bl c0 p0 pl cl d0 hgl HC3 HB3 K3
       refine wpRO_swi (fun _=>True) trivial (wpRO_fin ?_)
       generalize wr.drew=wr at *
       cases hal:jAlive s3 (A.load (i+1))
       ·have HJ1:=Hz (show jEph1 A s3 i=s3 by unfold jEph1;rw [hal];rfl)
        clear hal
        go_wp2_with fail
        go_roundw
        case rel=>exact ⟨k+1,hlt,by go_num,_,by rw [HTK.out,HJ1.out];exact HC4.out,K4.out,O3.out,HB4.out⟩
        case measure=>simp [intOf];omega
       ·have HJ1:=Hz (show jEph1 A s3 i=jMark s3 (A.load (i+2)) by unfold jEph1;rw [hal];rfl)
        clear hal
        have b0:=HB4.out.cell 0;have bl:=HB4.out.lt
        simp only [List.getElem?_cons_zero] at b0
        have c0:=HC4.out.J.cells.1;have p0:=HC4.out.J.cells.2.2.2.2.2;have pl:=HC4.out.J.hp.lt;have cl:=HC4.out.J.hc.lt
        go_wp2_with fail
        refine wp_region_ro (.free 8 (.free 9 (.pure 0 (.pure 1 (.free 2 (.free 3 (.pure 4 (.free 5 (.free 6 (.pure 7 (.run 10 (.run 11 (.swi [] (.fin)))))))))))))) [11] (fun w'=>w'.cell? ⟨b,0,none⟩=some (.pointer (some ⟨H.pc,0,none⟩))∧w'.cell? ⟨H.pc,0,none⟩=some (.pointer (some ⟨H.p,0,none⟩))∧w'.cell? ⟨H.p,0,none⟩=some (.pointer (some ⟨H.pa,0,none⟩))) (by kernel_rfl) (by kernel_rfl) ⟨b0,c0,p0⟩ ?_
        iterate 10 first | (refine wpRO_free rfl rfl _ (fun w'=>by go_simp;exact Gives.mk _ _) (fun K hK=>?_);go_simp;refine hK _ ?_;clear hK K) | (refine wpRO_skipF rfl rfl (fun K hK=>?_);go_simp;refine hK _ ?_;clear hK K) | (refine wpRO_pure rfl rfl _ (fun w' hG=>by obtain ⟨b0,c0,p0⟩:=hG;exact gives_agg2 rfl (by decide +kernel) rfl (by assumption) (by assumption)) (fun K hK=>?_);go_simp;refine hK _ ?_;clear hK K) | (refine wpRO_pure rfl rfl _ (fun w' hG=>by obtain ⟨b0,c0,p0⟩:=hG;go_simp;exact Gives.mk _ _) (fun K hK=>?_);go_simp;refine hK _ ?_;clear hK K) | (refine wpRO_skip rfl rfl (fun K hK=>?_);go_simp;refine hK _ ?_;clear hK K)
        have HC5:=Hz (HC4.out.same ((Kz wr).drew));have HB5:=Hz ((Kz wr).drew.blk HB4.out (fun h=>h))
        have K5:=Hz (K4.out.trans ((Kz wr).drew.mono (fun _ _ h=>h.elim)))
        refine wpRO_run rfl rfl (fun K hK=>?_);unfold gRun;go_simp
        refine (Load_c (i+2) _ HC5.out.J.ha).mono ?_
        rintro e w4 ⟨rfl,rfl⟩
        refine hK _ _ (fun h=>h) ?_
        clear hK K
        refine wpRO_chg rfl rfl rfl (fun K hK=>?_);unfold gRun;go_simp
        refine (jMark_c _ HC5.out.J HS.out HC5.out.ok D2.out (by omega)).mono ?_
        rintro e w6 ⟨rfl,sv6,J6,k6,o6⟩
        have HB6:=Hz (k6.blk HB5.out (HC5.out.J.var_ne HB5.out))
        have GE':=GE.out
        rw [HJ1.out] at GE'
        have C6:=Hz (show JS w6 H sp sv6 (.slice (some ⟨ge,oe,none⟩) s2.ep.length ec) rv qv A f T L rg q (jMark s3 (A.load (i+2))) from ⟨J6,HC5.out.S.keep k6 (fun b hb hk=>HC5.out.J.side_apart HC5.out.S hk hb),GE'⟩)
        have K6:=Hz (K5.out.then (k6.mono (T:=fun k=>H.Own sv3 (.slice (some ⟨ge,oe,none⟩) s2.ep.length ec) k∨SideFp sp rv qv k) (fun _ _ h=>.inl h)) (fun k hk=>by
         rcases hk with hk | hk
         ·exact (O3.out k hk).imp .inl id
         ·exact .inl (.inr hk)))
        have O6:=Hz (show ∀ k,H.Own sv6 (.slice (some ⟨ge,oe,none⟩) s2.ep.length ec) k→H.Own (.slice so s2.st.length sc) (.slice (some ⟨ge,oe,none⟩) s2.ep.length ec) k∨w2.heap.size≤k from fun k hk=>by
         rcases o6 k hk with h | h
         ·exact O3.out k h
         ·exact .inr (Nat.le_trans K5.out.size h))
        refine hK _ _ ?_
        clear hK K b0 bl c0 p0 pl cl J6 k6 o6 GE'
        refine wpRO_swi (fun _=>True) trivial (wpRO_fin ?_)
        go_wp2_with fail
        go_roundw
        case rel=>exact ⟨k+1,hlt,by go_num,_,by rw [HTK.out,HJ1.out];exact C6.out,K6.out,O6.out,HB6.out⟩
        case measure=>simp [intOf];omega
      ·obtain rfl:k=s2.ep.length:=by omega
       rw [List.take_length] at HC3 hee
       obtain ⟨s3,hs3⟩:∃ s,jEph A s2 s2.ep=s:=⟨_,rfl⟩
       have HS3:=Hz hs3
       rw [hs3] at HC3
       clear hs3 hee hlt hk
       go_wp2_with fail
       refine (WakeN_c sp (jWakeL H A f T L HS.out (by omega) sp b) jKp (fun _ _ _=>rfl) s3 (fun k=>H.Own sv3 (.slice eo s2.ep.length ec) k∨k=b) rv qv rg q wr (fun _ _ h _=>h) ⟨_,_,HC3.out.J,HC3.out.ok,HB3.out,rfl⟩ HC3.out.S (fun k hk=>by
        rcases hk with ⟨hk | hk,hs⟩
        ·exact HC3.out.J.side_apart HC3.out.S hk hs
        ·subst hk
         obtain ⟨_,U,h',hU⟩:=HC3.out.S.fp_type hs
         refine HB3.out.ne h' ?_ rfl
         rcases hU with rfl | rfl <;> decide) HQL.out (fun e he=>HQ.out e he)).mono ?_
       rintro e w6 ⟨rfl,F6,⟨sv6,ev6,hJ6,hG6,hB6,rfl⟩,hS6,-,hk6,hF6,-⟩
       replace hS6:SideAt w6 sp rv qv rg (wakeM jAlive jKp s3 q).2.1:=hS6
       rw [wakeM_same] at hS6
       replace hJ6:JAt w6 H sv6 ev6 A (wakeM jAlive jKp s3 q).1 f:=hJ6
       replace hG6:GsOk A T (wakeM jAlive jKp s3 q).1 L:=hG6
       have HRD:=Hz (show jRound A q s1=(wakeM jAlive jKp s3 q).1 by unfold jRound;rw [HST.out,HS3.out])
       rw [←HRD.out] at hJ6 hG6
       have C6:=Hz (show JS w6 H sp sv6 ev6 rv qv A f T L rg q (jRound A q s1) from ⟨hJ6,hS6,hG6⟩)
       have KB:=Hz hB6
       have T6:=Hz (show JSTo w H sp sv ev rv qv A f T L rg q (jRound A q s1) w6 from by
        have k12:=K1.out.then K2.out (fun k hk=>hk.elim (fun h=>(O1.out k h).imp .inl id) (fun h=>.inl (.inr h)))
        have o12:∀ k,H.Own (.slice so s2.st.length sc) (.slice eo s2.ep.length ec) k→H.Own sv ev k∨w.heap.size≤k:=fun k hk=>by
         rcases O2.out k hk with h | h
         ·exact O1.out k h
         ·exact .inr (Nat.le_trans K1.out.size h)
        have k13:=k12.then K3.out (fun k hk=>hk.elim (fun h=>(o12 k h).imp .inl id) (fun h=>.inl (.inr h)))
        have o13:∀ k,H.Own sv3 (.slice eo s2.ep.length ec) k→H.Own sv ev k∨w.heap.size≤k:=fun k hk=>by
         rcases O3.out k hk with h | h
         ·exact o12 k h
         ·exact .inr (Nat.le_trans k12.size h)
        refine ⟨sv6,ev6,C6.out,k13.then hk6 (fun k hk=>?_),fun k hk=>?_⟩
        ·rcases hk with (hk | hk) | hk
         ·exact (o13 k hk).imp .inl id
         ·exact .inr (by rw [hk];exact BG.out)
         ·exact .inl (.inr hk)
        ·rcases hF6 k (.inl hk) with (h | h) | h
         ·exact o13 k h
         ·exact .inr (by rw [h];exact BG.out)
         ·exact .inr (Nat.le_trans k13.size h))
       have RD:=Hz (HC1.out.ok.round HS.out HQ.out (jM_lt HC1.out.ok hL))
       have RF:=Hz (jRound_fals HC1.out.ok HS.out HQ.out (jM_lt HC1.out.ok hL))
       have PF:=Hz (jPops_fals HS.out 2000 HC1.out.ok)
       have FW:=Hz T6.out.fals
       clear hJ6 hG6 hB6 hS6 hk6 hF6 b0 bl c0 p0 pl cl HRD HS3 HC3 HB3 K3 O3
       have b0:=KB.out.cell 0;have bl:=KB.out.lt
       simp only [List.getElem?_cons_zero] at b0
       have c3:=C6.out.J.cells.2.2.2.1;have cl:=C6.out.J.hc.lt
       obtain ⟨so6,sc6,rfl,-,-,-⟩:=C6.out.J.hs.rd
       obtain ⟨s4,hs4⟩:∃ s,jRound A q s1=s:=⟨_,rfl⟩
       have HS4:=Hz hs4
       rw [hs4] at C6 T6 RD RF FW c3
       clear hs4
       by_cases hne:s4.st=[]
       ·have hl0:s4.st.length=0:=by rw [hne];rfl
        have HNE:=Hz hne
        rw [hl0] at c3
        clear hne hl0
        go_wp2_with fail
        go_roundw
        case rel=>exact .inr ⟨rfl,by rw [HE.out,jDrain,if_pos (by rw [HS4.out];exact HNE.out),HS4.out];exact T6.out⟩
        case measure=>
         have h1:=HMU.out;have h2:=RF.out;have h3:=FW.out
         rw [h1];unfold drainMuJ;rw [h3];dsimp only;omega
       ·have HNE:=Hz hne
        have hpos:=List.length_pos_iff.2 hne
        obtain ⟨l,hl⟩:∃ l,s4.st.length=l+1:=⟨s4.st.length-1,by omega⟩
        rw [hl] at c3
        have hlt:=RD.out.2.2.1 hne
        have HLT:=Hz hlt
        have hll:l≤2000:=by have:=RD.out.1.sum;omega
        have hd2:(0:Int)<(l:Int)+1:=by omega
        have hd:decide ((0:Int)<(l:Int)+1)=true:=decide_eq_true hd2
        clear hne hpos hl hlt
        go_wp2_with fail
        go_roundw
        case rel=>
         refine .inl ⟨n-1,s4,rfl,T6.out,KB.out,?_,?_⟩
         ·rw [HE.out]
          obtain ⟨n,rfl⟩:∃ k,n=k+1:=⟨n-1,by have:=HN.out;have:=HLT.out;have:=PF.out;omega⟩
          show jDrain A q (n+1+1) s1=jDrain A q (n+1) s4
          rw [jDrain,HS4.out,if_neg HNE.out]
         ·have:=HN.out;have:=HLT.out;have:=PF.out;omega
        case measure=>
         have h1:=HMU.out;have h2:=RF.out;have h3:=FW.out;have h4:=HLT.out;have h5:=PF.out
         rw [h1];unfold drainMuJ;rw [h3];dsimp only;omega
    ·have hpos:=List.length_pos_iff.2 hne
     obtain ⟨l,hl⟩:∃ l,s2.st.length=l+1:=⟨s2.st.length-1,by omega⟩
     obtain ⟨g,o,rfl,d0⟩:=hsr.int l (by omega)
     have hgl:=(HC2.out.J.hs.own rfl).1
     obtain ⟨hpG,hpM⟩:=HC2.out.ok.pop HS.out hne
     obtain ⟨hdG,hdM,hdT⟩:=HC2.out.ok.drop hne
     have hlast:s2.st.getLastD 0=s2.st.getD l 0:=by
      rw [List.getLastD_eq_getLast?,List.getLast?_eq_getElem?,hl,List.getD_eq_getElem?_getD];rfl
     have HP:=Hz (show jPop A s2=jLook A { s2 with st:=s2.st.dropLast } (s2.st.getD l 0) by unfold jPop;rw [hlast])
     rw [hlast] at hdT
     have PG:=Hz hpG;have PM:=Hz hpM;have DG:=Hz hdG;have DT:=Hz hdT
     have HNE:=Hz hne
     have HSL:=Hz hl
     rw [hl] at HC2 c3 hsc O2
     clear hpG hpM hdG hdM hdT hlast hne hpos hl hsr
     generalize s2.st.getD l 0=x at *
     have hll:l≤2000:=by have:=HSL.out;omega
     have hwl:IntKind.i64.wrap (l:Int)=l:=IntWalk.i64_in _ (by omega)
     have hl1:(l:Int)<(l:Int)+1:=by omega
     have hlc:l≤sc:=by omega
     go_wp2_with fail
     refine wp_region_ro (.pure 0 (.free 1 (.free 2 (.pure 3 (.pure 4 (.free 5 (.free 6 (.pure 7 (.free 8 (.free 9 (.free 10 (.pure 11 (.free 12 (.fin)))))))))))))) [] (fun w'=>w'.cell? ⟨b,0,none⟩=some (.pointer (some ⟨H.pc,0,none⟩))∧w'.cell? ⟨H.pc,3,none⟩=some (.slice (some ⟨g,o,none⟩) (l+1) sc)∧w'.cell? ⟨g,o+l,none⟩=some (.int .i64 x)) (by kernel_rfl) (by kernel_rfl) ⟨b0,c3,d0⟩ ?_
     iterate 13 first | (refine wpRO_free rfl rfl _ (fun w'=>by go_simp;exact Gives.mk _ _) (fun K hK=>?_);go_simp;refine hK _ ?_;clear hK K) | (refine wpRO_skipF rfl rfl (fun K hK=>?_);go_simp;refine hK _ ?_;clear hK K) | (refine wpRO_pure rfl rfl _ (fun w' hG=>by obtain ⟨b0,c3,d0⟩:=hG;exact gives_agg2 rfl (by decide +kernel) rfl (by assumption) (by assumption)) (fun K hK=>?_);go_simp;refine hK _ ?_;clear hK K) | (refine wpRO_pure rfl rfl _ (fun w' hG=>by obtain ⟨b0,c3,d0⟩:=hG;go_simp;exact Gives.mk _ _) (fun K hK=>?_);go_simp;refine hK _ ?_;clear hK K) | (refine wpRO_skip rfl rfl (fun K hK=>?_);go_simp;refine hK _ ?_;clear hK K)
     refine wpRO_fin ?_
     have HC3:=Hz (HC2.out.same ((Kz wr).drew));have HB3:=Hz ((Kz wr).drew.blk HB2.out (fun h=>h))
     have K3:=Hz (K2.out.trans ((Kz wr).drew.mono (fun _ _ h=>h.elim)))
     clear b0 c3 d0 bl c4 cl hgl
     generalize wr.drew=wr at *
     have b0:=HB3.out.cell 0;have bl:=HB3.out.lt
     simp only [List.getElem?_cons_zero] at b0
     have c3:=HC3.out.J.cells.2.2.2.1;have cl:=HC3.out.J.hc.lt;have cf:=HC3.out.J.hc.free 3
     go_wp2_with fail
     refine wp_region_ro (.pure 0 (.pure 1 (.free 2 (.free 3 (.pure 4 (.pure 5 (.free 6 (.free 7 (.pure 8 (.free 9 (.free 10 (.free 11 (.free 12 (.free 13 (.run 14 (.swi [] (.fin))))))))))))))))) [14] (fun w'=>w'.cell? ⟨b,0,none⟩=some (.pointer (some ⟨H.pc,0,none⟩))∧w'.cell? ⟨H.pc,3,none⟩=some (.slice (some ⟨g,o,none⟩) (l+1) sc)) (by kernel_rfl) (by kernel_rfl) ⟨b0,c3⟩ ?_
     iterate 14 first | (refine wpRO_free rfl rfl _ (fun w'=>by go_simp;exact Gives.mk _ _) (fun K hK=>?_);go_simp;refine hK _ ?_;clear hK K) | (refine wpRO_skipF rfl rfl (fun K hK=>?_);go_simp;refine hK _ ?_;clear hK K) | (refine wpRO_pure rfl rfl _ (fun w' hG=>by obtain ⟨b0,c3⟩:=hG;exact gives_agg2 rfl (by decide +kernel) rfl (by assumption) (by assumption)) (fun K hK=>?_);go_simp;refine hK _ ?_;clear hK K) | (refine wpRO_pure rfl rfl _ (fun w' hG=>by obtain ⟨b0,c3⟩:=hG;go_simp;exact Gives.mk _ _) (fun K hK=>?_);go_simp;refine hK _ ?_;clear hK K) | (refine wpRO_skip rfl rfl (fun K hK=>?_);go_simp;refine hK _ ?_;clear hK K)
     refine wpRO_chg rfl rfl rfl (fun K hK=>?_);unfold gRun;go_simp
     refine hK _ _ ?_
     clear hK K
     refine wpRO_swi (fun _=>True) trivial (wpRO_fin ?_)
     have EV:=Hz (show Keeps (fun k=>H.Own (.slice (some ⟨g,o,none⟩) (l+1) sc) (.slice eo s2.ep.length ec) k∨SideFp sp rv qv k) wr (wr.setCell ⟨H.pc,3,none⟩ (.slice (some ⟨g,o,none⟩) l sc)).drew from
      ((Keeps.refl _ wr).setCell (p:=⟨H.pc,3,none⟩) (.inl (.inl (.inr (.inr (.inr (.inl rfl)))))) _).drew)
     have HC4:=Hz (show JS (wr.setCell ⟨H.pc,3,none⟩ (.slice (some ⟨g,o,none⟩) l sc)).drew H sp (.slice (some ⟨g,o,none⟩) l sc) (.slice eo s2.ep.length ec) rv qv A f T (L-1) rg q { s2 with st:=s2.st.dropLast } from
      ⟨(HC3.out.J.pop HSL.out).same (Kz _).drew,HC3.out.S.keep (((Keeps.refl (·=H.pc) wr).setCell (p:=⟨H.pc,3,none⟩) (.inl rfl) _).drew) (fun b' hb' e=>HC3.out.J.side_apart HC3.out.S (k:=H.pc) (.inr (.inr (.inr (.inl rfl)))) (e ▸ hb')),DG.out⟩)
     have HB4:=Hz (show JcAt (wr.setCell ⟨H.pc,3,none⟩ (.slice (some ⟨g,o,none⟩) l sc)).drew b H from HC3.out.var HB3.out EV.out)
     clear b0 bl c3 cl cf
     generalize (wr.setCell ⟨H.pc,3,none⟩ (.slice (some ⟨g,o,none⟩) l sc)).drew=w4 at *
     have b0:=HB4.out.cell 0;have bl:=HB4.out.lt
     simp only [List.getElem?_cons_zero] at b0
     go_wp2_with fail
     refine (jLook_c x HC4.out.J HS.out HC4.out.ok DT.out (by omega)).mono ?_
     rintro e w6 ⟨rfl,t⟩
     have HB6:=Hz (show JcAt w6 b H from by
      obtain ⟨_,_,_,k6,_⟩:=id t
      exact k6.blk HB4.out (HC4.out.J.var_ne HB4.out))
     rw [←HP.out] at t
     have T6:=Hz (show JSTo w1 H sp sv1 ev1 rv qv A f T L rg q (jPop A s2) w6 from by
      obtain ⟨a,b',J6,k6,o6⟩:=t
      have k14:=K3.out.then EV.out (fun k hk=>hk.elim (fun h=>(O2.out k h).imp .inl id) (fun h=>.inl (.inr h)))
      refine JSTo.join k14 (sv1:=.slice (some ⟨g,o,none⟩) l sc) (ev1:=.slice eo s2.ep.length ec) (fun k hk=>O2.out k hk) ?_
      exact ⟨a,b',⟨J6,HC4.out.S.keep k6 (fun b hb hk=>HC4.out.J.side_apart HC4.out.S hk hb),PG.out⟩,k6.mono (fun _ _ h=>.inl h),o6⟩)
     clear t b0 bl
     go_wp2_with fail
     go_roundw
     case rel=>
      refine ⟨m-1,jPop A s2,T6.out,HB6.out,?_,by have:=PM.out;have:=HM2.out;omega⟩
      rw [HE2.out]
      obtain ⟨m,rfl⟩:∃ k,m=k+1:=⟨m-1,by have:=HM2.out;omega⟩
      show jPops A (m+1) s2=jPops A m (jPop A s2)
      rw [jPops,if_neg HNE.out]
     case measure=>
      have h1:=HLF.out;have h2:=T6.out.jM;have h3:=PM.out
      rw [h1,h2];omega
  ·have HT:=Hz ht
   clear ht
   go_wp2_with fail
   go_end0
   exact ⟨rfl,HT.out⟩
end
end
section
open Go.RowKit
def JvAt (w:World) (b sp:Nat):Prop:=Blk w b [.pointer (some ⟨sp,0,none⟩)] 41
section
variable {w w':World} {H:JH} {sv ev rv qv:Value} {A:Ar} {s:Gs} {f:List Int} {T:Int→Prop} {L sp:Nat} {rg q:List (Int × Int)}
theorem JS.var2 (C:JS w H sp sv ev rv qv A f T L rg q s) {b:Nat} (hb:JvAt w b sp) (k:Keeps (fun k=>H.Own sv ev k∨SideFp sp rv qv k) w w'):JvAt w' b sp:=k.blk hb (fun h=>by
 rcases h with h | h
 ·obtain ⟨_,T,h',hT⟩:=C.J.own_type h
  refine hb.ne h' ?_ rfl
  rcases hT with rfl | rfl | rfl | rfl | rfl | rfl <;> decide
 ·obtain ⟨_,U,h',hU⟩:=C.S.fp_type h
  refine hb.ne h' ?_ rfl
  rcases hU with rfl | rfl <;> decide)
theorem jCut2_c (x:Int) (b b2:Nat) (C:JS w H sp sv ev rv qv A f T L rg q s) (S:ShutA A T) (hq:∀ e ∈ q,Dm T e.1∧Dm T e.2) (hql:q.length≤1000000) (hL:L≤1900) (hx:Dm T x) (hb:JcAt w b H) (hb2:JvAt w b2 sp) :
  Calls Try.prog 74 #[.int .i64 x, .pointer (some ⟨b,0,none⟩), .pointer (some ⟨b2,0,none⟩)] w fun e w'=>e=.returned (.int .i64 x)∧JSTo w H sp sv ev rv qv A f T L rg q (jDrain A q 2000 (jMark s x)) w':=by
 have HM:=Hz (jMark_c x C.J S C.ok hx (by omega))
 have HC:=Hz C;have HS:=Hz S;have HQ:=Hz hq;have HX:=Hz hx;have HB:=Hz hb;have HB2:=Hz hb2
 have b0:=hb.cell 0;have bl:=hb.lt
 simp only [List.getElem?_cons_zero] at b0
 clear C S hq hx hb hb2
 go_enter Try.func74,Try.ntmps74
 go_wp2_with fail
 refine HM.out.mono ?_
 rintro e w1 ⟨rfl,t⟩
 obtain ⟨sv1,J1,k1,o1⟩:=t
 have KJ:=Hz (k1.mono (T:=fun k=>H.Own sv ev k∨SideFp sp rv qv k) (fun _ _ h=>.inl h))
 have C1:=Hz (show JS w1 H sp sv1 ev rv qv A f T L rg q (jMark s x) from ⟨J1,HC.out.S.keep k1 (fun b hb hk=>HC.out.J.side_apart HC.out.S hk hb),(HC.out.ok.mark HS.out HX.out).1⟩)
 have B1:=Hz (HC.out.var HB.out KJ.out);have B2:=Hz (HC.out.var2 HB2.out KJ.out)
 have O1:=Hz o1
 clear b0 bl J1 k1 o1
 have b0:=B1.out.cell 0;have bl:=B1.out.lt
 have c0:=B2.out.cell 0;have cl:=B2.out.lt
 simp only [List.getElem?_cons_zero] at b0 c0
 go_wp2_with fail
 refine (jDrain_c C1.out HS.out HQ.out hql hL).mono ?_
 rintro e w2 ⟨rfl,t⟩
 have T2:=Hz (JSTo.join KJ.out O1.out t)
 clear t b0 bl c0 cl
 go_wp2_with fail
 go_ret
 exact ⟨rfl,T2.out⟩
def jSettleL (H:JH) (A:Ar) (f:List Int) (T:Int→Prop) (L:Nat) (S:ShutA A T) (hL:L≤1900) (sp b b2:Nat):Liv Try.prog sp Gs where
 J:=fun w s F=>∃ sv ev,JAt w H sv ev A s f∧GsOk A T s L∧JcAt w b H∧JvAt w b2 sp∧F=fun k=>H.Own sv ev k∨k=b∨k=b2
 D:=fun _ x=>Dm T x
 DK:=fun _ x=>Dm T x
 alive:=jAlive
 keep:=jKeep A
 now:=sameW
 fa:=73
 fk:=74
 fn:=72
 a1:=#[.pointer (some ⟨H.pc,0,none⟩)]
 a2:=#[]
 k1:=#[]
 k2:=#[.pointer (some ⟨b,0,none⟩), .pointer (some ⟨b2,0,none⟩)]
 n1:=#[]
 n2:=#[]
 ea:=fun args w=>by kernel_rfl
 ek:=fun args w=>by kernel_rfl
 en:=fun args w=>by kernel_rfl
 J_keep:=fun h k hn=>by
  obtain ⟨sv,ev,h1,h2,h3,h4,rfl⟩:=h
  exact ⟨sv,ev,h1.keep k (fun b hb=>hn b (.inl hb)),h2,k.blk h3 (hn _ (.inr (.inl rfl))),k.blk h4 (hn _ (.inr (.inr rfl))),rfl⟩
 J_lt:=fun h hk=>by
  obtain ⟨sv,ev,h1,h2,h3,h4,rfl⟩:=h
  rcases hk with hk | rfl | rfl
  ·exact h1.own_lt hk
  ·exact h3.lt
  ·exact h4.lt
 alive_c:=fun w t F x hJ hx=>by
  obtain ⟨sv,ev,h1,h2,-⟩:=hJ
  exact (h1.alive_c x S h2 hx).mono (by rintro e w' ⟨rfl,rfl⟩;exact ⟨rfl,Keeps.refl _ _⟩)
 now_c:=fun w t F x hJ _=>(jSame_c x w).mono (by rintro e w' ⟨rfl,rfl⟩;exact ⟨rfl,Keeps.refl _ _⟩)
 keep_c:=fun w t F rv qv regs wait x hJ hS hA hx hq hl=>by
  obtain ⟨sv,ev,h1,h2,h3,h4,rfl⟩:=hJ
  have C:JS w H sp sv ev rv qv A f T L regs wait t:=⟨h1,hS,h2⟩
  refine (jCut2_c x b b2 C S hq hl hL hx h3 h4).mono ?_
  rintro e w' ⟨rfl,sv',ev',C',k',o'⟩
  refine ⟨rfl,_,⟨sv',ev',C'.J,C'.ok,C.var h3 k',C.var2 h4 k',rfl⟩,C'.S,fun k hk=>?_,k'.mono (fun k _ hk=>hk.elim (fun h=>.inl (.inl h)) .inr),fun k hk=>?_⟩
  ·rcases hk with ⟨hk | hk,hs⟩
   ·exact C'.J.side_apart C'.S hk hs
   ·exact hA k ⟨.inr hk,hs⟩
  ·rcases hk with hk | hk
   ·exact (o' k hk).imp .inl id
   ·exact .inl (.inr hk)
 DK_D:=fun h=>h
 DK_keep:=fun _ h=>h
 D_keep:=fun _ h=>h
 D_new:=fun h=>h
 D_wait:=fun _ h=>h
 keep_len:=rfl
theorem jNow_c (x:Int) (J:JAt w H sv ev A s f) (hx:x%4=1→0≤x/4∧x/4<f.length) (hl:f.length≤1000000) :
  Calls Try.prog 80 #[.pointer (some ⟨H.pc,0,none⟩), .int .i64 x] w fun e w'=>e=.returned (.int .i64 (jNow f x))∧w=w':=by
 obtain ⟨-,-,c2,-,-,-⟩:=J.cells
 have cl:=J.hc.lt;have ll:=J.ht.lt
 by_cases h1:x%4=1
 ·obtain ⟨b0,b1⟩:=hx h1
  have hi:=J.toCell (i:=(x/4).toNat) (by omega)
  have HE:=Hz (show jNow f x=refW (f.getD (x/4).toNat 0) by unfold jNow;rw [if_pos h1])
  have AY:=Hz (fun w=>At_yes x w h1)
  clear J hx h1
  generalize f.getD (x/4).toNat 0=y at *
  generalize x/4=i at *
  obtain ⟨i,rfl⟩:=Int.eq_ofNat_of_zero_le b0
  simp only [Int.toNat_natCast] at hi
  generalize f.length=n at *
  go_enter Try.func80,Try.ntmps80
  go_wp2_with fail
  refine (AY.out _).mono ?_
  rintro e w1 ⟨rfl,rfl⟩
  go_wp2_with fail
  refine (Ref_any y _).mono ?_
  rintro e w1 ⟨rfl,rfl⟩
  go_wp2_with fail
  go_ret
  exact ⟨ret_int HE.out.symm,rfl⟩
 ·have HE:=Hz (show jNow f x=x by unfold jNow;rw [if_neg h1])
  have AN:=Hz (fun w=>At_no x w h1)
  clear J hx h1
  go_enter Try.func80,Try.ntmps80
  go_wp2_with fail
  refine (AN.out _).mono ?_
  rintro e w1 ⟨rfl,rfl⟩
  go_wp2_with fail
  go_ret
  exact ⟨ret_int HE.out.symm,rfl⟩
theorem jTurnN_snoc {s:Gs} {f:List Int} {b:Bool}:∀ (n:Nat) (A:Ar) (i:Int),jTurnN s f b (n+1) A i=jTurn1 s f b (jTurnN s f b n A i) (i+n)
 | 0,A,i=>by simp [jTurnN]
 | n+1,A,i=>by
  have:=jTurnN_snoc (s:=s) (f:=f) (b:=b) n (jTurn1 s f b A i) (i+1)
  rw [jTurnN,this,jTurnN]
  congr 1
  omega
theorem jFd_R64 {s:Gs} {f:List Int} {b:Bool} {x:Int} (hx:R64 x):R64 (jFd s f b x):=by
 unfold jFd
 split
 ·unfold R64;omega
 ·unfold jNow
  split
  ·unfold refW R64
   rw [IntKind.wrap_i64]
   omega
  ·exact hx
theorem jTurn_c (i:Int) (J:JAt w H sv ev A s f) (h0:0≤i) (h1:i≤1300) (hl1:s.lv.length≤1000000) (hl2:f.length≤1000000) (hu:∀ j:Int,0≤j→j<(A.thing i).2.1→A.inUse (i+1+j)=true) (hk4:(A.thing i).1=4→0<(A.thing i).2.1)
  (hd:∀ j:Int,0≤j→j<(A.thing i).2.1→A.load (i+1+j)%4=1→0≤A.load (i+1+j)/4∧A.load (i+1+j)/4<s.lv.length∧A.load (i+1+j)/4<f.length) :
  Calls Try.prog 79 #[.pointer (some ⟨H.pc,0,none⟩), .int .i64 i] w fun e w'=>e=.returned (.tuple #[])∧ArenaTo w H.pa H.g w' (jTurn s f A i):=by
 have HJ:=Hz J
 have HOK:=Hz J.ha.ok
 have HL1:=Hz hl1;have HL2:=Hz hl2
 obtain ⟨c0,-,-,-,-,p0⟩:=J.cells
 have pl:=J.hp.lt;have cl:=J.hc.lt
 have HTH:=Hz (Thing_c i w J.ha)
 have hb:=A.thing_fields i
 have HR:=Hz (show jTurn s f A i=jTurnN s f (decide ((A.thing i).1=4) && !jAlive s (A.load (i+1))) (A.thing i).2.1.toNat A (i+1) from rfl)
 clear J
 obtain ⟨⟨k,n,cd⟩,hT⟩:∃ t,A.thing i=t:=⟨_,rfl⟩
 rw [hT] at HTH hb hu hk4 hd HR
 dsimp only at HTH hb hu hk4 hd HR
 clear hT
 obtain ⟨m,rfl⟩:∃ m:Nat,n=m:=⟨n.toNat,by omega⟩
 rw [Int.toNat_natCast] at HR
 have HU:=Hz hu;have HD:=Hz hd;have HK4:=Hz hk4
 have LR:=Hz (fun p=>HOK.out.load p)
 clear hu hd hk4
 have hi1:IntKind.i64.wrap (i+1)=i+1:=IntWalk.i64_in _ (by omega)
 have HAL:=Hz (show ∀ w',JAt w' H sv ev A s f→0<m→Calls Try.prog 73 #[.pointer (some ⟨H.pc,0,none⟩), .int .i64 (A.load (i+1))] w' fun e w''=>e=.returned (.bool (jAlive s (A.load (i+1))))∧w'=w'' from fun w' J' hm=>
  jAlive_c _ J' (fun h=>by
   have:=HD.out 0 (by omega) (by omega)
   rw [Int.add_zero] at this
   exact ⟨(this h).1,(this h).2.1⟩) HL1.out)
 have REST:Hid (∀ bk:Bool,(decide (k=4) && !jAlive s (A.load (i+1)))=bk→∀ q:Nat,q<m→(jTurnN s f bk q A (i+1)).load (i+1+q)=A.load (i+1+q)∧(jTurnN s f bk q A (i+1)).ok):=fun bk _ q hq=>by
  have h:=turnN_spec (s:=s) (f:=f) (b:=bk) q (A:=A) (i+1) HOK.out (fun j j0 j1=>⟨HU.out j j0 (by omega),jFd_R64 (LR.out _)⟩)
  exact ⟨by rw [h.2.2.2.2.2 (i+1+q),if_neg (by omega)],h.1⟩
 have END:Hid (∀ bk:Bool,(decide (k=4) && !jAlive s (A.load (i+1)))=bk→jTurn s f A i=jTurnN s f bk m A (i+1)):=fun bk hbk=>by rw [HR.out,hbk]
 go_enter Try.func79,Try.ntmps79
 go_wp2_with fail
 refine HTH.out.mono ?_
 rintro e w1 ⟨rfl,rfl⟩
 go_upto_region 1 with fail
 obtain ⟨bk,hbk⟩:∃ bk,(decide (k=4) && !jAlive s (A.load (i+1)))=bk:=⟨_,rfl⟩
 have HBK:=Hz hbk
 refine wp_cut_over (fun i=>Nat.blt 22 i && Nat.blt i 40 || Nat.beq i 7) (fun s' wx=>s' 7=.bool bk∧wx=w) ?_ ?_
 ·intro K' hK'
  by_cases h4:k=4
  ·subst h4
   go_wp2_with fail
   refine (Load_c (i+1) _ HJ.out.ha).mono ?_
   rintro e w1 ⟨rfl,rfl⟩
   go_wp2_with fail
   refine (HAL.out _ HJ.out (by have:=HK4.out (by trivial);omega)).mono ?_
   rintro e w1 ⟨rfl,rfl⟩
   have hbk2:(!jAlive s (A.load (i+1)))=bk:=by simpa using hbk
   go_wp2_with fail
   refine ⟨by kernel_rfl,?_⟩
   exact ⟨rfl,rfl⟩
  ·have k4:(k == 4)=false:=by simpa using h4
   have hbk2:bk=false:=by rw [←hbk];simp [h4]
   subst hbk2
   clear h4 hbk
   go_wp2_with fail
   refine ⟨by kernel_rfl,?_⟩
   exact ⟨rfl,rfl⟩
 intro u1 wx hR
 obtain ⟨e7,rfl⟩:=hR
 have e7:u1 7=.bool bk:=e7
 simp (maxSteps:=2000000) only [overA,overL,List.toList_toArray,Nat.blt,Nat.beq,Nat.ble,Nat.reduceAdd,Bool.or_false,Bool.false_or,Bool.or_true,Bool.true_or,Bool.and_true,Bool.true_and,Bool.and_false,Bool.false_and,cond_true,cond_false]
 rw [e7]
 clear e7
 rename_i K3 hK3
 have RB:=Hz (REST.out bk HBK.out);have EN:=Hz (END.out bk HBK.out)
 clear REST END hbk HAL HK4
 go_wp2_with fail
 go_loopw [41] (fun u wr=>∃ q:Nat,q≤m∧u=.int .i64 q∧ArenaTo wx H.pa H.g wr (jTurnN s f bk q A (i+1))) (fun u _=>m-(intOf u).toNat)
 case atStart=>exact ⟨0,Nat.zero_le _,rfl,ArenaTo.refl HJ.out.ha (Keeps.refl _ _)⟩
 case round=>
  clear c0 p0 pl cl
  obtain ⟨q,hq,rfl,t⟩:=hrel
  have TQ:=Hz t
  have JR:=Hz (HJ.out.arena t)
  clear t
  by_cases hlt:q<m
  ·obtain ⟨c0,-,-,-,-,p0⟩:=JR.out.cells
   have pl:=JR.out.hp.lt;have cl:=JR.out.hc.lt
   have LD:=Hz (RB.out q hlt).1
   have hiq:IntKind.i64.wrap (i+1+q)=i+1+q:=IntWalk.i64_in _ (by omega)
   have DQ:=Hz (HD.out q (by omega) (by omega))
   have XR:=Hz (LR.out (i+1+q))
   have SN0:=jTurnN_snoc (s:=s) (f:=f) (b:=bk) q A (i+1)
   unfold jTurn1 at SN0
   rw [LD.out] at SN0
   generalize hx:A.load (i+1+q)=x at *
   go_wp2_with fail
   refine (Load_c (i+1+q) _ JR.out.ha).mono ?_
   rintro e w2 ⟨rfl,rfl⟩
   rw [LD.out]
   cases bk
   ·go_wp2_with fail
    refine (jAlive_c x JR.out (fun h=>⟨(DQ.out h).1,(DQ.out h).2.1⟩) HL1.out).mono ?_
    rintro e w3 ⟨rfl,rfl⟩
    cases hal:jAlive s x
    ·have SN:=Hz (show jTurnN s f false (q+1) A (i+1)=(jTurnN s f false q A (i+1)).store (i+1+q) 3 by rw [SN0,hal];rfl)
     clear SN0 hal
     go_wp2_with fail
     refine wp_region_ro (.free 0 (.free 1 (.free 2 (.free 7 (.free 8 (.free 9 (.free 10 (.pure 3 (.free 4 (.free 5 (.pure 6 (.run 11 (.run 12 (.swi [] (.fin))))))))))))))) [12] (fun w'=>w'.cell? ⟨H.pc,0,none⟩=some (.pointer (some ⟨H.p,0,none⟩))∧w'.cell? ⟨H.p,0,none⟩=some (.pointer (some ⟨H.pa,0,none⟩))) (by kernel_rfl) (by kernel_rfl) ⟨c0,p0⟩ ?_
     iterate 11 first | (refine wpRO_free rfl rfl _ (fun w'=>by go_simp;exact Gives.mk _ _) (fun K hK=>?_);go_simp;refine hK _ ?_;clear hK K) | (refine wpRO_skipF rfl rfl (fun K hK=>?_);go_simp;refine hK _ ?_;clear hK K) | (refine wpRO_pure rfl rfl _ (fun w' hG=>by obtain ⟨c0,p0⟩:=hG;exact gives_agg2 rfl (by decide +kernel) rfl (by assumption) (by assumption)) (fun K hK=>?_);go_simp;refine hK _ ?_;clear hK K) | (refine wpRO_pure rfl rfl _ (fun w' hG=>by obtain ⟨c0,p0⟩:=hG;go_simp;exact Gives.mk _ _) (fun K hK=>?_);go_simp;refine hK _ ?_;clear hK K) | (refine wpRO_skip rfl rfl (fun K hK=>?_);go_simp;refine hK _ ?_;clear hK K)
     refine wpRO_run rfl rfl (fun K hK=>?_);unfold gRun;go_simp
     refine (Gone_c _).mono ?_
     rintro e w4 ⟨rfl,rfl⟩
     refine hK _ _ (fun h=>h) ?_
     clear hK K
     refine wpRO_chg rfl rfl rfl (fun K hK=>?_);unfold gRun;go_simp
     refine (Store_c (i+1+q) 3 _ (JR.out.same ((Kz wr).drew)).ha (by unfold R64;omega)).mono ?_
     rintro e w5 ⟨rfl,t⟩
     have T5:=Hz (TQ.out.trans ((ArenaTo.refl JR.out.ha (Keeps.refl _ _).drew).trans t))
     refine hK _ _ ?_
     clear hK K t c0 p0 pl cl
     refine wpRO_swi (fun _=>True) trivial (wpRO_fin ?_)
     go_wp2_with fail
     go_roundw
     case rel=>exact ⟨q+1,hlt,by go_num,by rw [SN.out];exact T5.out⟩
     case measure=>simp [intOf];omega
    ·have SN:=Hz (show jTurnN s f false (q+1) A (i+1)=(jTurnN s f false q A (i+1)).store (i+1+q) (jNow f x) by rw [SN0,hal];rfl)
     clear SN0 hal
     go_wp2_with fail
     refine wp_region_ro (.free 0 (.free 1 (.free 2 (.free 7 (.free 8 (.free 9 (.free 10 (.free 11 (.free 12 (.pure 3 (.free 4 (.free 5 (.pure 6 (.run 13 (.run 14 (.swi [] (.fin))))))))))))))))) [14] (fun w'=>w'.cell? ⟨H.pc,0,none⟩=some (.pointer (some ⟨H.p,0,none⟩))∧w'.cell? ⟨H.p,0,none⟩=some (.pointer (some ⟨H.pa,0,none⟩))) (by kernel_rfl) (by kernel_rfl) ⟨c0,p0⟩ ?_
     iterate 13 first | (refine wpRO_free rfl rfl _ (fun w'=>by go_simp;exact Gives.mk _ _) (fun K hK=>?_);go_simp;refine hK _ ?_;clear hK K) | (refine wpRO_skipF rfl rfl (fun K hK=>?_);go_simp;refine hK _ ?_;clear hK K) | (refine wpRO_pure rfl rfl _ (fun w' hG=>by obtain ⟨c0,p0⟩:=hG;exact gives_agg2 rfl (by decide +kernel) rfl (by assumption) (by assumption)) (fun K hK=>?_);go_simp;refine hK _ ?_;clear hK K) | (refine wpRO_pure rfl rfl _ (fun w' hG=>by obtain ⟨c0,p0⟩:=hG;go_simp;exact Gives.mk _ _) (fun K hK=>?_);go_simp;refine hK _ ?_;clear hK K) | (refine wpRO_skip rfl rfl (fun K hK=>?_);go_simp;refine hK _ ?_;clear hK K)
     refine wpRO_run rfl rfl (fun K hK=>?_);unfold gRun;go_simp
     refine (jNow_c x (JR.out.same ((Kz wr).drew)) (fun h=>⟨(DQ.out h).1,(DQ.out h).2.2⟩) HL2.out).mono ?_
     rintro e w4 ⟨rfl,rfl⟩
     refine hK _ _ (fun h=>h) ?_
     clear hK K
     refine wpRO_chg rfl rfl rfl (fun K hK=>?_);unfold gRun;go_simp
     refine (Store_c (i+1+q) (jNow f x) _ (JR.out.same ((Kz wr).drew)).ha (by
      have:=jFd_R64 (s:=⟨s.lv,s.st,s.ep⟩) (f:=f) (b:=false) (x:=x) XR.out
      unfold jNow
      split
      ·unfold refW R64;rw [IntKind.wrap_i64];omega
      ·exact XR.out)).mono ?_
     rintro e w5 ⟨rfl,t⟩
     have T5:=Hz (TQ.out.trans ((ArenaTo.refl JR.out.ha (Keeps.refl _ _).drew).trans t))
     refine hK _ _ ?_
     clear hK K t c0 p0 pl cl
     refine wpRO_swi (fun _=>True) trivial (wpRO_fin ?_)
     go_wp2_with fail
     go_roundw
     case rel=>exact ⟨q+1,hlt,by go_num,by rw [SN.out];exact T5.out⟩
     case measure=>simp [intOf];omega
   ·have SN:=Hz (show jTurnN s f true (q+1) A (i+1)=(jTurnN s f true q A (i+1)).store (i+1+q) 3 by rw [SN0];rfl)
    clear SN0
    go_wp2_with fail
    refine wp_region_ro (.free 0 (.free 1 (.free 2 (.free 7 (.free 8 (.free 9 (.free 10 (.pure 3 (.free 4 (.free 5 (.pure 6 (.run 11 (.run 12 (.swi [] (.fin))))))))))))))) [12] (fun w'=>w'.cell? ⟨H.pc,0,none⟩=some (.pointer (some ⟨H.p,0,none⟩))∧w'.cell? ⟨H.p,0,none⟩=some (.pointer (some ⟨H.pa,0,none⟩))) (by kernel_rfl) (by kernel_rfl) ⟨c0,p0⟩ ?_
    iterate 11 first | (refine wpRO_free rfl rfl _ (fun w'=>by go_simp;exact Gives.mk _ _) (fun K hK=>?_);go_simp;refine hK _ ?_;clear hK K) | (refine wpRO_skipF rfl rfl (fun K hK=>?_);go_simp;refine hK _ ?_;clear hK K) | (refine wpRO_pure rfl rfl _ (fun w' hG=>by obtain ⟨c0,p0⟩:=hG;exact gives_agg2 rfl (by decide +kernel) rfl (by assumption) (by assumption)) (fun K hK=>?_);go_simp;refine hK _ ?_;clear hK K) | (refine wpRO_pure rfl rfl _ (fun w' hG=>by obtain ⟨c0,p0⟩:=hG;go_simp;exact Gives.mk _ _) (fun K hK=>?_);go_simp;refine hK _ ?_;clear hK K) | (refine wpRO_skip rfl rfl (fun K hK=>?_);go_simp;refine hK _ ?_;clear hK K)
    refine wpRO_run rfl rfl (fun K hK=>?_);unfold gRun;go_simp
    refine (Gone_c _).mono ?_
    rintro e w4 ⟨rfl,rfl⟩
    refine hK _ _ (fun h=>h) ?_
    clear hK K
    refine wpRO_chg rfl rfl rfl (fun K hK=>?_);unfold gRun;go_simp
    refine (Store_c (i+1+q) 3 _ (JR.out.same ((Kz wr).drew)).ha (by unfold R64;omega)).mono ?_
    rintro e w5 ⟨rfl,t⟩
    have T5:=Hz (TQ.out.trans ((ArenaTo.refl JR.out.ha (Keeps.refl _ _).drew).trans t))
    refine hK _ _ ?_
    clear hK K t c0 p0 pl cl
    refine wpRO_swi (fun _=>True) trivial (wpRO_fin ?_)
    go_wp2_with fail
    go_roundw
    case rel=>exact ⟨q+1,hlt,by go_num,by rw [SN.out];exact T5.out⟩
    case measure=>simp [intOf];omega
  ·obtain rfl:q=m:=by omega
   go_wp2_with fail
   go_end0
   exact ⟨rfl,by rw [EN.out];exact TQ.out⟩
end
end
section
open Go.RowKit
theorem wpList_zeros {P:Program} {w:World} {ops:Array Oper} {rest:List Oper} {o:Oper} {a:Act} {Q:Exit→Act→World→Prop} (hgd:o.guard=none) (s x:Operand) (t tn:TypeId)
  (ho:o.op=.call { callee:=.builtin .append,args:=#[s,x],argTypes:=#[t,tn] })
  (e:TypeId) (i:TypeInfo) (z:Value) (k kn:IntKind) (ht:P.underlying t=some (.slice e)) (htn:P.underlying tn=some (.int kn)) (hi:P.info? e=some i) (hz:i.zero=some z)
  (hzs:z.cells.size=1) (hsize:i.size=1) (n:Nat) (hs:a.eval s=.slice none 0 0) (hx:a.eval x=.int k n) (h0:0<n) (h63:n≤maxLen) (h48:n*i.bytes≤281474976710656)
  (h:∀ cap w',n≤cap→Sl w' e 1 (.slice (some ⟨w.heap.size,0,none⟩) 0 cap) 0 []→Keeps (fun _=>False) w w'→wpList P ops Q rest (a.put o.dst (.slice (some ⟨w.heap.size,0,none⟩) n cap)) w'):wpList P ops Q (o :: rest) a w:=by
 refine wpList_plain hgd fun _ hK=>?_
 have hr:=Lib.run_append_nil_zeros (P:=P) w t tn o.type e i z k kn ht htn hi hz n h0 (by omega) (by unfold maxLen at h63;omega) h48
 unfold Oper.wp execOp
 simp only [ho,resolve,invoke,builtin,Sem.run_bind,Sem.run_pure,Result.andThen_ok,List.map_toArray,List.map_cons,List.map_nil,hs,hx,hr]
 refine hK _ _ (h _ _ (grownCap_ge w n 0 e) ⟨rfl, .inr ⟨_,0,_,_,rfl,Blk.newAt _ rfl rfl,Nat.zero_le _,grownCap_le_maxLen w n 0 e h63,?_,by simp⟩⟩ ((Keeps.refl _ _).drew.alloc _))
 have:=grownCap_ge w n 0 e
 simp only [Array.length_toList,Array.size_append,size_zeroCells,hzs]
 omega
theorem Grow_none (w:World):Calls Try.prog 105 #[.slice none 0 0, .int .i64 0] w fun e w'=>e=.returned (.slice none 0 0)∧w=w':=by
 go_enter Try.func105,Try.ntmps105
 go_wp2_with fail
 go_ret
 exact ⟨rfl,rfl⟩
def GrowRet (w:World) (n:Nat) (e:Ending) (w':World):Prop:=∃ cap,e=.returned (.slice (some ⟨w.heap.size,0,none⟩) 0 cap)∧n≤cap∧Sl w' 3 1 (.slice (some ⟨w.heap.size,0,none⟩) 0 cap) 0 []∧Keeps (fun _=>False) w w'
theorem Grow_c (n:Nat) (h0:0<n) (hn:n≤1000000) (w:World):Calls Try.prog 105 #[.slice none 0 0, .int .i64 n] w (GrowRet w n):=by
 obtain ⟨i0,hi,hz0,hz1,hz2⟩:=info_parts info_int
 have hw1:IntKind.i64.wrap (n:Int)=n:=IntWalk.i64_in _ (by omega)
 have hd:decide ((0:Int)<(n:Int))=true:=by simp;omega
 have hd2:(0:Int)<(n:Int):=by omega
 go_enter Try.func105,Try.ntmps105
 go_wp2_with (at_builtin;refine wpList_zeros rfl (.tmp 20) (.tmp 21) 63 3 rfl 3 i0 (.int .i64 0) .i64 .i64 Try.underlying63 Try.underlying3 hi hz0 (by decide) hz1 n rfl rfl h0 (by unfold maxLen;omega) (by rw [hz2];omega) ?_)
 intro cap w1 hc hs hk
 have HC:=Hz hc;have HS:=Hz hs;have HK:=Hz hk
 clear hc hs hk
 have h0c:(0:Nat)≤cap:=Nat.zero_le _
 go_wp2_with fail
 go_ret
 exact ⟨cap,rfl,HC.out,HS.out,HK.out⟩
theorem Concat_c (q:Nat) (a b:Option Addr) (ca cb:Nat) (l1 l2:List Int) (w:World) (hq:Blk w q [.slice a l1.length ca, .slice b l2.length cb] 63) (h1:Rd w a (l1.map (Value.int .i64))) (h2:Rd w b (l2.map (Value.int .i64))) (n1:l1.length≤100000) (n2:l2.length≤100000) :
  Calls Try.prog 77 #[.slice (some ⟨q,0,none⟩) 2 2] w fun e w'=>NumsRet 3 w e w' (l1 ++ l2):=by
 obtain ⟨i0,hi,hz0,hz1,hz2⟩:=info_parts info_int
 have Hi:=Hz hi;have Hz0:=Hz hz0;have Hz1:=Hz hz1;have Hz2:=Hz hz2;clear hi hz0 hz1 hz2
 have HQ:=Hz hq;have H1:=Hz h1;have H2:=Hz h2
 have q0:=hq.cell 0;have q1:=hq.cell 1;have ql:=hq.lt
 simp only [List.getElem?_cons_zero,List.getElem?_cons_succ] at q0 q1
 clear hq h1 h2
 have wr1:IntKind.i64.wrap (l1.length:Int)=l1.length:=IntWalk.i64_in _ (by omega)
 have wr2:IntKind.i64.wrap ((l1.length:Int)+l2.length)=(l1.length:Int)+l2.length:=IntWalk.i64_in _ (by omega)
 have p1:decide ((l1.length:Int)<0)=false:=by simp
 have p2:decide ((l1.length:Int)+l2.length<0)=false:=by simp;omega
 go_enter Try.func77,Try.ntmps77
 go_wp2_with fail
 go_loopw [3,11] (fun t i wr=>wr=w∧((i=.int .i64 0∧t=.int .i64 0)∨(i=.int .i64 1∧t=.int .i64 l1.length)∨(i=.int .i64 2∧t=.int .i64 ((l1.length:Int)+l2.length)))) (fun _ i _=>2-(intOf i).toNat)
 case atStart=>exact ⟨rfl, .inl ⟨rfl,rfl⟩⟩
 case round=>
  obtain ⟨rfl,⟨rfl,rfl⟩ | ⟨rfl,rfl⟩ | ⟨rfl,rfl⟩⟩:=hrel
  ·go_wp2_with fail
   go_roundw
   case rel=>simp
   case measure=>decide
  ·go_wp2_with fail
   go_roundw
   case rel=>simp
   case measure=>decide
  ·obtain ⟨w0,rfl⟩:∃ x:World,x=wr:=⟨wr,rfl⟩
   obtain ⟨n,hn⟩:∃ n:Nat,l1.length+l2.length=n:=⟨_,rfl⟩
   have HN:=Hz hn
   have hnc:(l1.length:Int)+l2.length=n:=by omega
   rw [hnc] at wr2 p2
   rw [hnc]
   clear hnc
   have GR:Hid (Calls Try.prog 105 #[.slice none 0 0, .int .i64 n] w0 fun e w'=>∃ ao cap,e=.returned (.slice ao 0 cap)∧Sl w' 3 1 (.slice ao 0 cap) 0 []∧Keeps (fun _=>False) w0 w'∧∀ k,ownB (.slice ao 0 cap) k→w0.heap.size≤k):=by
    by_cases h0:n=0
    ·subst h0
     refine (Grow_none w0).mono ?_
     rintro e w' ⟨rfl,rfl⟩
     exact ⟨none,0,rfl,Sl.nil _ _ _,Keeps.refl _ _,fun k hk=>(nil_own hk).elim⟩
    ·refine (Grow_c n (by omega) (by omega) w0).mono ?_
     rintro e w' ⟨cap,rfl,-,hs,hk⟩
     exact ⟨_,cap,rfl,hs,hk,fun k hk=>by simp [ownB,Value.ownBlock] at hk;omega⟩
   go_wp2_with fail
   refine GR.out.mono ?_
   rintro e w1 ⟨ao,cap,rfl,hs,hk,ho⟩
   have HI0:=Hz (show Sl w1 3 1 (.slice ao 0 cap) 0 []∧Keeps (fun _=>False) w0 w1∧∀ k,ownB (.slice ao 0 cap) k→w0.heap.size≤k from ⟨hs,hk,ho⟩)
   clear hs hk ho GR q0 q1 ql p1 p2 hn
   go_wp2_with fail
   go_loopw [6,27] (fun v i wr=>∃ (ao:Option Addr) (cap k:Nat) (l:List Int),v=.slice ao l.length cap∧i=.int .i64 k∧((k=0∧l=[])∨(k=1∧l=l1)∨(k=2∧l=l1 ++ l2))∧Sl wr 3 1 (.slice ao l.length cap) l.length (l.map (Value.int .i64))∧Keeps (fun _=>False) w0 wr∧∀ k,ownB (.slice ao l.length cap) k→w0.heap.size≤k) (fun _ i _=>2-(intOf i).toNat)
   case atStart=>exact ⟨ao,cap,0,[],rfl,rfl, .inl ⟨rfl,rfl⟩,HI0.out⟩
   case round=>
    clear HI0
    obtain ⟨ao,cap,k,l,rfl,rfl,hkl,hs,hk,ho⟩:=hrel
    have HS:=Hz hs;have HK:=Hz hk;have HO:=Hz ho
    clear hs hk ho
    have HQ1:=Hz (HK.out.blk HQ.out (fun h=>h))
    have q0:=HQ1.out.cell 0;have q1:=HQ1.out.cell 1;have ql:=HQ1.out.lt
    simp only [List.getElem?_cons_zero,List.getElem?_cons_succ] at q0 q1
    rcases hkl with ⟨rfl,rfl⟩ | ⟨rfl,rfl⟩ | ⟨rfl,rfl⟩
    ·go_wp2_with (at_builtin;refine wpList_appR rfl (.tmp 31) (.tmp 32) 63 rfl 3 i0 (.int .i64 0) 1 8 Try.underlying63 Hi.out Hz0.out Hz1.out Hz2.out rfl (by decide) _ 0 [] rfl HS.out a l1.length ca (l1.map (Value.int .i64)) rfl (by simp) (H1.out.keep HK.out (fun _ _ _ h=>h)) int_one' (by unfold maxLen;omega) (by omega) ?_)
     intro v2 w2 hs2 hk2 ho2
     have HS2:=Hz hs2;have HK2:=Hz (HK.out.then hk2 (fun k hk=>.inr (HO.out k hk)))
     have HO2:=Hz (show ∀ k,ownB v2 k→w0.heap.size≤k from fun k hk=>by
      rcases ho2 k hk with h | h
      ·exact HO.out k h
      ·exact Nat.le_trans HK.out.size h)
     clear hs2 hk2 ho2
     obtain ⟨ao2,cap2,e2,-,-,-⟩:=HS2.out.rd
     subst e2
     clear q0 q1 ql
     go_wp2_with fail
     go_roundw
     case rel=>exact ⟨ao2,cap2,1,l1,by simp,rfl, .inr (.inl ⟨rfl,rfl⟩),by simpa using HS2.out,HK2.out,by simpa using HO2.out⟩
     case measure=>decide
    ·go_wp2_with (at_builtin;refine wpList_appR rfl (.tmp 31) (.tmp 32) 63 rfl 3 i0 (.int .i64 0) 1 8 Try.underlying63 Hi.out Hz0.out Hz1.out Hz2.out rfl (by decide) _ l.length (l.map (Value.int .i64)) rfl HS.out b l2.length cb (l2.map (Value.int .i64)) rfl (by simp) (H2.out.keep HK.out (fun _ _ _ h=>h)) int_one' (by unfold maxLen;omega) (by omega) ?_)
     intro v2 w2 hs2 hk2 ho2
     have HS2:=Hz hs2;have HK2:=Hz (HK.out.then hk2 (fun k hk=>.inr (HO.out k hk)))
     have HO2:=Hz (show ∀ k,ownB v2 k→w0.heap.size≤k from fun k hk=>by
      rcases ho2 k hk with h | h
      ·exact HO.out k h
      ·exact Nat.le_trans HK.out.size h)
     clear hs2 hk2 ho2
     obtain ⟨ao2,cap2,e2,-,-,-⟩:=HS2.out.rd
     subst e2
     clear q0 q1 ql
     go_wp2_with fail
     go_roundw
     case rel=>exact ⟨ao2,cap2,2,l ++ l2,by simp,rfl, .inr (.inr ⟨rfl,rfl⟩),by simpa using HS2.out,HK2.out,by simpa using HO2.out⟩
     case measure=>decide
    ·clear q0 q1 ql
     go_wp2_with fail
     go_ret
     exact ⟨ao,cap,by simp,HS.out,HK.out,HO.out⟩
end
section
open Go.RowKit
section
variable {w w':World} {H:JH} {sv ev:Value} {A:Ar} {s:Gs} {f:List Int}
theorem jCut3_c (x:Int) (b:Nat) (J:JAt w H sv ev A s f) (hb:JcAt w b H) (h0:0≤x) (h1:x<s.lv.length) (hl:s.lv.length≤1000000) :
  Calls Try.prog 78 #[.int .i64 x, .pointer (some ⟨b,0,none⟩)] w fun e w'=>e=.returned (.bool (!atB s.lv x))∧w=w':=by
 obtain ⟨-,c1,-,-,-,-⟩:=J.cells
 have cl:=J.hc.lt;have ll:=J.hl.lt
 have b0:=hb.cell 0;have bl:=hb.lt
 simp only [List.getElem?_cons_zero] at b0
 obtain ⟨i,rfl⟩:=Int.eq_ofNat_of_zero_le h0
 have hi:=J.lvCell (i:=i) (by omega)
 have HE:=Hz (show atB s.lv (i:Int)=s.lv.getD i false by unfold atB;simp)
 clear J hb
 generalize s.lv.getD i false=v at *
 generalize s.lv.length=n at *
 go_enter Try.func78,Try.ntmps78
 go_wp2_with fail
 go_ret
 exact ⟨ret_bool (by rw [HE.out]),rfl⟩
def jDeadV (b:Nat):Value:=.func (.func 78) #[] #[.pointer (some ⟨b,0,none⟩)]
def IdxRet (w:World) (p:Int→Bool) (l:List Int) (e:Ending) (w':World):Prop:=
 w=w'∧∃ k,k≤l.length∧(∀ j,j<k→p (l.getD j 0)=false)∧((k<l.length∧p (l.getD k 0)=true∧e=.returned (.int .i64 k))∨(k=l.length∧e=.returned (.int .i64 (-1))))
theorem IdxF_c (b:Nat) (p:Int→Bool) (ao:Option Addr) (cap:Nat) (l:List Int) (w:World) (h:Rd w ao (l.map (Value.int .i64))) (hl:l.length≤1000000)
  (hp:∀ x ∈ l,Calls Try.prog 78 #[.int .i64 x, .pointer (some ⟨b,0,none⟩)] w fun e w'=>e=.returned (.bool (p x))∧w=w') :
  Calls Try.prog 104 #[.slice ao l.length cap,jDeadV b] w (IdxRet w p l):=by
 have HR:=Hz h;have HP:=Hz hp;clear h hp
 unfold jDeadV
 go_enter Try.func104,Try.ntmps104
 go_wp2_with fail
 go_loopw [8] (fun i wr=>wr=w∧∃ k:Nat,k≤l.length∧i=.int .i64 k∧Hid (∀ j,j<k→p (l.getD j 0)=false)) (fun i _=>l.length-(intOf i).toNat)
 case atStart=>exact ⟨rfl,0,Nat.zero_le _,rfl,fun j hj=>by omega⟩
 case round=>
  obtain ⟨rfl,k,hk,rfl,hno⟩:=hrel
  by_cases hlt:k<l.length
  ·obtain ⟨g,o,rfl,d0⟩:=HR.out.int k hlt
   have hgl:g<wr.heap.size:=by
    obtain ⟨g',o',e,hg,-⟩:=HR.out (by intro e;simp at e;subst e;simp at hlt)
    cases e;exact hg
   have hm:l.getD k 0 ∈ l:=by rw [List.getD_eq_getElem?_getD,List.getElem?_eq_getElem hlt];exact List.getElem_mem _
   have HPX:=Hz (HP.out _ hm)
   generalize hv:l.getD k 0=x at *
   have HV:=Hz hv;clear hv hm
   cases he:p x
   ·rw [he] at HPX
    go_wp2_with fail
    refine HPX.out.mono ?_
    rintro e w2 ⟨rfl,rfl⟩
    go_wp2_with fail
    go_roundw
    case rel=>exact ⟨by trivial,k+1,by omega,by go_num,fun j hj=>by
     by_cases e:j=k
     ·subst e;rw [HV.out];exact he
     ·exact hno.out j (by omega)⟩
    case measure=>simp [intOf];omega
   ·rw [he] at HPX
    go_wp2_with fail
    refine HPX.out.mono ?_
    rintro e w2 ⟨rfl,rfl⟩
    go_wp2_with fail
    go_ret
    exact ⟨rfl,k,hk,hno.out, .inl ⟨hlt,by rw [HV.out];exact he,rfl⟩⟩
  ·obtain rfl:k=l.length:=by omega
   go_wp2_with fail
   go_ret
   exact ⟨rfl,_,Nat.le_refl _,hno.out, .inr ⟨rfl,rfl⟩⟩
theorem filter_all {q:Int→Bool}:∀ {l:List Int},(∀ j,j<l.length→q (l.getD j 0)=true)→l.filter q=l
 | [],_=>rfl
 | x :: l,h=>by
  have h0:=h 0 (by simp)
  simp only [List.getD_cons_zero] at h0
  rw [List.filter_cons,if_pos h0,filter_all (fun j hj=>by
   have:=h (j+1) (by simpa using hj)
   simpa using this)]
theorem filter_snoc {q:Int→Bool} {l:List Int} {j:Nat} (hj:j<l.length):(l.take (j+1)).filter q=if q (l.getD j 0)=true then (l.take j).filter q ++ [l.getD j 0] else (l.take j).filter q:=by
 rw [List.take_add_one,List.getElem?_eq_getElem hj,List.filter_append,List.getD_eq_getElem?_getD,List.getElem?_eq_getElem hj]
 simp only [Option.toList_some,Option.getD_some,List.filter_cons,List.filter_nil]
 split <;> simp
def DelRet (w:World) (v:Value) (l:List Int) (e:Ending) (w':World):Prop:=
 ∃ ao cap,e=.returned (.slice ao l.length cap)∧Sl w' 3 1 (.slice ao l.length cap) l.length (l.map (Value.int .i64))∧Keeps (ownB v) w w'∧∀ k,ownB (.slice ao l.length cap) k→ownB v k
theorem DelF_c (b:Nat) (p:Int→Bool) (ao:Option Addr) (cap:Nat) (l:List Int) (w:World) (hs:Sl w 3 1 (.slice ao l.length cap) l.length (l.map (Value.int .i64))) (hl:l.length≤1000000)
  (hp:∀ x ∈ l, ∀ w',Keeps (ownB (.slice ao l.length cap)) w w'→Calls Try.prog 78 #[.int .i64 x, .pointer (some ⟨b,0,none⟩)] w' fun e w''=>e=.returned (.bool (p x))∧w'=w'') :
  Calls Try.prog 76 #[.slice ao l.length cap,jDeadV b] w (DelRet w (.slice ao l.length cap) (l.filter fun x=>!p x)):=by
 have HS:=Hz hs
 have HX:=Hz (fun w' (hk:Keeps (ownB (.slice ao l.length cap)) w w') x hx=>hp x hx w' hk)
 have hi:=IdxF_c b p ao cap l w (by obtain ⟨_,_,e,h,-,-⟩:=hs.rd;cases e;exact h) hl (fun x hx=>hp x hx w (Keeps.refl _ _))
 have HI:=Hz hi
 clear hs hp hi
 unfold jDeadV at HI ⊢
 go_enter Try.func76,Try.ntmps76
 go_wp2_with fail
 refine HI.out.mono ?_
 rintro e w1 ⟨rfl,k,hk,hno,⟨hlt,hpk,rfl⟩ | ⟨rfl,rfl⟩⟩
 ·obtain ⟨g,o,cap',cur0,e,-,hnc,hcm,-,-⟩:=HS.out.laid (by omega)
  cases e
  have HNO:=Hz hno;have HPK:=Hz hpk
  have hkw:IntKind.i64.wrap ((k:Int)+1)=(k:Int)+1:=IntWalk.i64_in _ (by omega)
  have hk1:((k:Int) == -1)=false:=by first | (simp;done) | (simp;omega)
  clear hno hpk HI
  obtain ⟨n,hn⟩:∃ n,l.length=n:=⟨_,rfl⟩
  have HN:=Hz hn
  rw [hn] at HS HX hlt hl hnc hk ⊢
  clear hn
  go_wp2_with fail
  go_loopw [5,6] (fun i j wr=>∃ (i' j':Nat) (m:List Int),i=.int .i64 i'∧j=.int .i64 j'∧i' < j'∧j'≤n∧m.length=n∧m.take i'=(l.take j').filter (fun x=>!p x)∧m.drop j'=l.drop j'∧Sl wr 3 1 (.slice (some ⟨g,o,none⟩) n cap) n (m.map (Value.int .i64))∧Keeps (ownB (.slice (some ⟨g,o,none⟩) n cap)) w wr) (fun _ j _=>n-(intOf j).toNat)
  case atStart=>
   refine ⟨k,k+1,l,rfl,by go_num,by omega,by omega,HN.out,?_,rfl,HS.out,Keeps.refl _ _⟩
   rw [filter_snoc (by rw [HN.out];exact hlt),if_neg (by rw [HPK.out];decide),filter_all (fun j hj=>?_)]
   have hj':j<k:=by rw [List.length_take] at hj;omega
   have:=HNO.out j hj'
   rw [List.getD_eq_getElem?_getD,List.getElem?_take,if_pos hj',←List.getD_eq_getElem?_getD,this]
   rfl
  case round=>
   clear HS hlt hk hk1 hkw HNO HPK
   obtain ⟨i,j,m,rfl,rfl,hij,hjn,hm,ht,hd,hs,hk⟩:=hrel
   have HS:=Hz hs;have HK:=Hz hk;have HT:=Hz ht;have HD:=Hz hd;have HM:=Hz hm
   clear hs hk ht hd hm
   by_cases hlt:j<n
   ·have hmj:m.getD j 0=l.getD j 0:=by
     have h1:=congrArg (fun t=>t.getD 0 0) HD.out
     simpa [List.getD_eq_getElem?_getD] using h1
    obtain ⟨_,_,e',rd,-,-⟩:=HS.out.rd
    cases e'
    obtain ⟨_,_,e',d0⟩:=rd.int j (by rw [HM.out];exact hlt)
    cases e'
    have hgl:=(HS.out.own (k:=g) rfl).1
    rw [hmj] at d0
    have HPX:=Hz (HX.out _ HK.out (l.getD j 0) (by rw [List.getD_eq_getElem?_getD,List.getElem?_eq_getElem (by rw [HN.out];exact hlt)];exact List.getElem_mem _))
    have HFS:=Hz (filter_snoc (q:=fun x=>!p x) (l:=l) (j:=j) (by rw [HN.out];exact hlt))
    have HDJ:=Hz (show m.drop (j+1)=l.drop (j+1) by rw [←List.drop_drop,←List.drop_drop,HD.out])
    have hjw:IntKind.i64.wrap ((j:Int)+1)=(j:Int)+1:=IntWalk.i64_in _ (by omega)
    have hiw:IntKind.i64.wrap ((i:Int)+1)=(i:Int)+1:=IntWalk.i64_in _ (by omega)
    clear rd hmj HD
    generalize l.getD j 0=x at *
    cases he:p x
    ·rw [he] at HPX
     have HF:=Hz (HFS.out.trans (if_pos (by rw [he];rfl)))
     clear HFS he
     obtain ⟨u,hu⟩:∃ u,(m.map (Value.int .i64))[i]? = some u:=⟨_,List.getElem?_eq_getElem (by rw [List.length_map,HM.out];omega)⟩
     obtain ⟨_,_,_,cur,e',hb,-,-,hoc,hx⟩:=HS.out.laid (by omega)
     cases e'
     have c0:=hb.cell (o+i);have cf:=hb.free (o+i)
     have hcu:cur[o+i]? = some u:=by
      rw [←hx,List.getElem?_take,if_pos (by omega),List.getElem?_drop] at hu
      exact hu
     rw [hcu] at c0
     have HSET:=Hz (HS.out.set (j:=i) (u:=.int .i64 x) (by omega))
     have KSET:=Hz (HK.out.setCell (p:=⟨g,o+i,none⟩) (.inl rfl) (.int .i64 x))
     clear hb hx hcu hu
     go_wp2_with fail
     refine HPX.out.mono ?_
     rintro e w2 ⟨rfl,rfl⟩
     go_wp2_with fail
     go_roundw
     case rel=>
      refine ⟨i+1,j+1,m.set i x,by go_num,by go_num,by omega,by omega,by rw [List.length_set,HM.out],?_,?_,by rw [List.map_set];exact HSET.out,KSET.out⟩
      ·rw [HF.out,←HT.out,List.take_add_one,List.getElem?_set,if_pos rfl,if_pos (by rw [HM.out];omega)]
       rw [List.take_set_of_le (Nat.le_refl _)]
       rfl
      ·rw [List.drop_set_of_lt (by omega)];exact HDJ.out
     case measure=>simp [intOf];omega
    ·rw [he] at HPX
     have HF:=Hz (HFS.out.trans (if_neg (by rw [he];decide)))
     clear HFS he
     go_wp2_with fail
     refine HPX.out.mono ?_
     rintro e w2 ⟨rfl,rfl⟩
     go_wp2_with fail
     go_roundw
     case rel=>exact ⟨i,j+1,m,rfl,by go_num,by omega,by omega,HM.out,by rw [HF.out];exact HT.out,HDJ.out,HS.out,HK.out⟩
     case measure=>simp [intOf];omega
   ·obtain rfl:j=n:=by omega
    have hfl:m.take i=l.filter (fun x=>!p x):=by rw [HT.out,List.take_of_length_le (by rw [HN.out];exact Nat.le_refl _)]
    have hfn:(l.filter (fun x=>!p x)).length=i:=by rw [←hfl,List.length_take,HM.out];omega
    have HFL:=Hz hfl
    obtain ⟨_,_,_,cur,e',hb,-,-,hoc,hx⟩:=HS.out.laid (by omega)
    cases e'
    obtain ⟨zs,hzl,hclr⟩:=run_clear_at (P:=Try.prog) wr 63 0 3 (.int .i64 0) Try.underlying63 (by intro w;kernel_rfl) (by intro u hu;simp [Value.cells] at hu;subst hu;rfl) (by decide) g (o+i) (j-i) (cap-i) _ hb (by show o+i+(j-i)*1≤_;omega)
    have hzl:zs.length=(j-i)*1:=hzl
    generalize hc2:cur.take (o+i) ++ zs ++ cur.drop (o+i+zs.length)=c2 at *
    have HB2:=Hz (hb.setRow c2)
    have HK2:=Hz (HK.out.setRow (g:=g) (.inl rfl) c2.toArray)
    have HC2:=Hz hc2;have HX2:=Hz hx;have HZ:=Hz hzl
    have hic:i≤cap:=by omega
    have hil:i≤j:=by omega
    have HOC:=Hz hoc
    clear hb hx hc2 hzl hfl hlt hoc
    go_wp2_with fail
    go_ret
    have hoc:=HOC.out;have hzl:=HZ.out
    refine ⟨some ⟨g,o,none⟩,cap,by rw [hfn];rfl,?_,HK2.out,fun k hk=>hk⟩
    rw [hfn]
    refine ⟨by rw [List.length_map,hfn];omega, .inr ⟨g,o,cap,c2,rfl,HB2.out,hic,by omega,?_,?_⟩⟩
    ·rw [←HC2.out]
     simp only [List.length_append,List.length_take,List.length_drop]
     omega
    ·rw [←HC2.out,←HFL.out,List.map_take,←HX2.out,List.append_assoc,List.drop_append_of_le_length (by simp;omega),List.drop_take,List.take_append_of_le_length (by simp;omega),List.take_take,List.take_take]
     congr 1;omega
 ·have HNO:=Hz hno
  clear HI hno
  go_wp2_with fail
  go_ret
  have e:l.filter (fun x=>!p x)=l:=filter_all (fun j hj=>by rw [HNO.out j hj];rfl)
  rw [e]
  exact ⟨ao,cap,rfl,HS.out,Keeps.refl _ _,fun k hk=>hk⟩
end
end
section
open Go.RowKit
def jPlan1 (A:Ar) (lv:List Bool) (base:Int) (t:List Int × Int) (i:Int):List Int × Int:=if atB lv i=true then (t.1.set i.toNat (base+t.2),t.2+(1+(A.thing i).2.1)) else t
theorem jPlan_snoc (A:Ar) (lv:List Bool) (base:Int):∀ (l:List Int) (t:List Int × Int) (i:Int),jPlan A lv base (l ++ [i]) t=jPlan1 A lv base (jPlan A lv base l t) i
 | [],t,i=>rfl
 | x :: l,t,i=>by
  rw [List.cons_append,jPlan,jPlan_snoc A lv base l]
  rfl
theorem jPlan_take {A:Ar} {lv:List Bool} {base:Int} {l:List Int} {t:List Int × Int} {k:Nat} (h:k<l.length):jPlan A lv base (l.take (k+1)) t=jPlan1 A lv base (jPlan A lv base (l.take k) t) (l.getD k 0):=by
 rw [List.take_add_one,List.getElem?_eq_getElem h,List.getD_eq_getElem?_getD,List.getElem?_eq_getElem h]
 exact jPlan_snoc A lv base _ t _
theorem jPlan_bound (A:Ar) (lv:List Bool) (base:Int):∀ (l:List Int) (t:List Int × Int),0≤t.2→0≤(jPlan A lv base l t).2∧(jPlan A lv base l t).2≤t.2+13*l.length∧(jPlan A lv base l t).1.length=t.1.length
 | [],t,h=>by simp [jPlan];exact h
 | x :: l,t,h=>by
  have hf:=A.thing_fields x
  have key:0≤(jPlan1 A lv base t x).2∧(jPlan1 A lv base t x).2≤t.2+13∧(jPlan1 A lv base t x).1.length=t.1.length:=by
   unfold jPlan1
   split
   ·exact ⟨by dsimp only;omega,by dsimp only;omega,by simp⟩
   ·exact ⟨h,by omega,rfl⟩
  have ih:=jPlan_bound A lv base l (jPlan1 A lv base t x) key.1
  have e:jPlan A lv base (x :: l) t=jPlan A lv base l (jPlan1 A lv base t x):=rfl
  rw [e,List.length_cons]
  exact ⟨ih.1,by omega,ih.2.2.trans key.2.2⟩
section
variable {w w':World} {H:JH} {sv ev:Value} {A:Ar} {s:Gs} {f:List Int}
def PlanRet (w:World) (H:JH) (sv ev:Value) (A:Ar) (s:Gs) (base:Int) (t:List Int × Int) (e:Ending) (w':World):Prop:=
 e=.returned (.int .i64 t.2)∧JAt w' H sv ev A s t.1∧Keeps (·=H.tb) w w'
theorem jPlan_c (base:Int) (J:JAt w H sv ev A s f) (hb0:0≤base) (hb1:base≤100000) (hf:f.length=s.lv.length) (hl:s.lv.length≤1000000) (hin:∀ i ∈ A.things.2 ++ A.things.1,0≤i∧i<s.lv.length) :
  Calls Try.prog 75 #[.pointer (some ⟨H.pc,0,none⟩), .int .i64 base] w (PlanRet w H sv ev A s base (jPlan A s.lv base (A.things.2 ++ A.things.1) (f,0))):=by
 have HJ:=Hz J;have HIN:=Hz hin
 obtain ⟨c0,-,-,-,-,p0⟩:=J.cells
 have pl:=J.hp.lt;have cl:=J.hc.lt
 have ly:A.things.1.length≤1300:=Ar.list_len A 1300 _ _
 have lo:A.things.2.length≤1300:=Ar.list_len A 1300 _ _
 clear J hin
 go_enter Try.func75,Try.ntmps75
 go_wp2_with fail
 refine (Things_c w HJ.out.ha).mono ?_
 rintro e w1 ⟨ao,ac,bo,bc,rfl,hs1,hs2,hk,-,-⟩
 have J1:=Hz (HJ.out.same hk);have K1:=Hz hk;have SY:=Hz hs1;have SO:=Hz hs2
 clear hs1 hs2 hk c0 p0 pl cl
 generalize A.things.1=Y at *
 generalize A.things.2=O at *
 go_wp2_with fail
 have HQ:Hid (Blk (w1.alloc (.cells #[.slice bo O.length bc, .slice ao Y.length ac] 63)) w1.heap.size [.slice bo O.length bc, .slice ao Y.length ac] 63):=Blk.newAt _ rfl rfl
 have KA:=Hz ((Kz w1).alloc (.cells #[.slice bo O.length bc, .slice ao Y.length ac] 63))
 generalize w1.alloc (.cells #[.slice bo O.length bc, .slice ao Y.length ac] 63)=w2 at *
 refine (Concat_c w1.heap.size bo ao bc ac O Y w2 HQ.out (by obtain ⟨_,_,e,h,-,-⟩:=(SO.out.keep KA.out (fun _ _ h=>h)).rd;cases e;exact h) (by obtain ⟨_,_,e,h,-,-⟩:=(SY.out.keep KA.out (fun _ _ h=>h)).rd;cases e;exact h) (by omega) (by omega)).mono ?_
 rintro e w3 ⟨co,cc,rfl,hs3,hk3,ho3⟩
 have J3:=Hz ((J1.out.same KA.out).same hk3);have K3:=Hz ((K1.out.trans KA.out).trans hk3);have S3:=Hz hs3
 have HO3:=Hz (show ∀ k,ownB (.slice co (O ++ Y).length cc) k→¬ k=H.tb from fun k hk e=>by
  have h1:=ho3 k hk;have h2:=(J1.out.same KA.out).ht.lt;omega)
 have hll:(O ++ Y).length≤2600:=by rw [List.length_append];omega
 clear hs3 hk3 ho3 HQ KA SY SO J1 K1 ly lo
 generalize hLL:O ++ Y=Ls at *
 clear hLL
 go_wp2_with fail
 go_loopw [7,29] (fun n i wr=>∃ k:Nat,k≤Ls.length∧i=.int .i64 k∧n=.int .i64 (jPlan A s.lv base (Ls.take k) (f,0)).2∧JAt wr H sv ev A s (jPlan A s.lv base (Ls.take k) (f,0)).1∧Keeps (·=H.tb) w3 wr) (fun _ i _=>Ls.length-(intOf i).toNat)
 case atStart=>exact ⟨0,Nat.zero_le _,rfl,rfl,J3.out,Keeps.refl _ _⟩
 case round=>
  obtain ⟨k,hk,rfl,rfl,hJ,hK⟩:=hrel
  have JR:=Hz hJ;have KR:=Hz hK
  clear hJ hK
  have hbd:=jPlan_bound A s.lv base (Ls.take k) (f,0) (by dsimp only;omega)
  rw [List.length_take] at hbd
  dsimp only at hbd
  by_cases hlt:k<Ls.length
  ·have SR:=Hz (S3.out.keep KR.out HO3.out)
   obtain ⟨_,_,e',rd,-,-⟩:=SR.out.rd
   cases e'
   obtain ⟨gc,oc,rfl,d0⟩:=rd.int k hlt
   have hgl:=(SR.out.own (k:=gc) rfl).1
   have hi:=HIN.out (Ls.getD k 0) (by rw [List.getD_eq_getElem?_getD,List.getElem?_eq_getElem hlt];exact List.getElem_mem hlt)
   have HST:=Hz (jPlan_take (A:=A) (lv:=s.lv) (base:=base) (t:=(f,0)) hlt)
   clear rd
   generalize Ls.getD k 0=i at *
   obtain ⟨⟨fk,n⟩,hP⟩:∃ t,jPlan A s.lv base (Ls.take k) (f,0)=t:=⟨_,rfl⟩
   rw [hP] at JR HST hbd ⊢
   dsimp only at JR HST hbd ⊢
   clear hP
   obtain ⟨i,rfl⟩:=Int.eq_ofNat_of_zero_le hi.1
   have hi1:i<s.lv.length:=by omega
   have hfl:fk.length=s.lv.length:=by omega
   obtain ⟨c0,c1,c2,-,-,p0⟩:=JR.out.cells
   have pl:=JR.out.hp.lt;have cl:=JR.out.hc.lt;have ll:=JR.out.hl.lt;have tl:=JR.out.ht.lt
   have e0:=JR.out.lvCell hi1
   have HAT:=Hz (show atB s.lv (i:Int)=s.lv.getD i false by unfold atB;simp)
   have t0:=JR.out.toCell (i:=i) (by omega)
   have tf:=JR.out.ht.free i
   rw [hfl] at c2
   generalize hv:s.lv.getD i false=v at *
   have hib:(i:Int)<s.lv.length:=by omega
   clear hi
   cases v
   ·have HE:=Hz (show jPlan1 A s.lv base (fk,n) i=(fk,n) by unfold jPlan1;rw [HAT.out];rfl)
    clear hv t0 tf
    go_wp2_with fail
    go_roundw
    case rel=>exact ⟨k+1,hlt,by go_num,by rw [HST.out,HE.out],by rw [HST.out,HE.out];exact JR.out,KR.out⟩
    case measure=>simp [intOf];omega
   ·have HE:=Hz (show jPlan1 A s.lv base (fk,n) i=(fk.set i (base+n),n+(1+(A.thing i).2.1)) by unfold jPlan1;rw [HAT.out,if_pos rfl,Int.toNat_natCast])
    have HTH:=Hz (Thing_c i wr JR.out.ha)
    have hb:=A.thing_fields i
    clear hv
    obtain ⟨⟨kk,nn,cd⟩,hT⟩:∃ t,A.thing (i:Int)=t:=⟨_,rfl⟩
    rw [hT] at HTH hb HE
    dsimp only at HTH hb HE
    clear hT
    have w1':IntKind.i64.wrap (base+n)=base+n:=IntWalk.i64_in _ (by omega)
    have w2':IntKind.i64.wrap (1+nn)=1+nn:=IntWalk.i64_in _ (by omega)
    have w3':IntKind.i64.wrap (n+(1+nn))=n+(1+nn):=IntWalk.i64_in _ (by omega)
    go_wp2_with fail
    refine HTH.out.mono ?_
    rintro e w4 ⟨rfl,rfl⟩
    have JS':=Hz (JR.out.setTo i (base+n))
    have KS:=Hz (KR.out.setCell (p:=⟨H.tb,i,none⟩) (.inl rfl) (.int .i64 (base+n)))
    have hib2:(i:Int)<fk.length:=by omega
    go_wp2_with fail
    go_roundw
    case rel=>exact ⟨k+1,hlt,by go_num,by rw [HST.out,HE.out],by rw [HST.out,HE.out];exact JS'.out,KS.out⟩
    case measure=>simp [intOf];omega
  ·obtain rfl:k=Ls.length:=by omega
   rw [List.take_length] at JR ⊢
   go_wp2_with fail
   go_ret
   exact ⟨rfl,JR.out,(K3.out.mono (fun _ _ h=>h.elim)).trans KR.out⟩
end
end
section
theorem slide_at {f:List Int} {sz:Int→Int}:∀ {l:List Int} {a b:Int} {A:Ar} (k:Nat),Sit sz (lookT f) l a b→Slid sz A.ws.length l a→(∀ p ∈ l,A.inUse p=true∧1+(A.thing p).2.1=sz p)→l.Nodup→(∀ p,0≤sz p)→k<l.length →
  ((l.take k).foldl (jSlide1 f) A).thing (l.getD k 0)=A.thing (l.getD k 0)∧((l.take k).foldl (jSlide1 f) A).ws.length=A.ws.length∧(∀ x ∈ ((l.take k).foldl (jSlide1 f) A).ws,x ∈ A.ws) ∧
   ((l.take k).foldl (jSlide1 f) A).nur=A.nur∧((l.take k).foldl (jSlide1 f) A).yng=A.yng∧((l.take k).foldl (jSlide1 f) A).grn=A.grn ∧
   0≤lookT f (l.getD k 0)∧lookT f (l.getD k 0)+sz (l.getD k 0)≤A.ws.length∧0≤l.getD k 0∧l.getD k 0+sz (l.getD k 0)≤A.ws.length
 | [],_,_,_,k,_,_,_,_,_,hk=>by simp at hk
 | p :: l,a,b,A,0,hs,hd,hz,hn,h0,_=>by
  obtain ⟨d0,dp,d1,d2,d3,d4⟩:=hd
  have e:lookT f p=a:=hs.1
  simp only [List.take_zero,List.foldl_nil,List.getD_cons_zero]
  exact ⟨by trivial,by trivial,fun _ h=>h,by trivial,by trivial,by trivial,by omega,by omega,dp,d1⟩
 | p :: l,a,b,A,k+1,hs,hd,hz,hn,h0,hk=>by
  obtain ⟨d0,dp,d1,d2,d3,d4⟩:=hd
  have hp:=hz p (by simp)
  rw [List.nodup_cons] at hn
  obtain ⟨k1,k2,k3,k4,k5,k6⟩:=slide1_spec (A:=A) (f:=f) (p:=p) (a:=a) hs.1 d0 dp (by rw [hp.2];exact d1) (by rw [hp.2];exact d2)
  rw [hp.2] at k2
  have huse:∀ x,(jSlide1 f A p).inUse x=A.inUse x:=fun x=>by unfold Ar.inUse Ar.young Ar.old;rw [k4,k5,k6]
  have same:∀ q ∈ l,(jSlide1 f A p).thing q=A.thing q:=fun q hq=>by
   have h:=hz q (by simp [hq])
   have hq0:0≤q:=by
    have:=h.1
    unfold Ar.inUse at this
    rw [Bool.or_eq_true,young_iff,old_iff] at this
    omega
   have e:(jSlide1 f A p).load q=A.load q:=by
    rw [thing_wd h.1,thing_wd (by rw [huse];exact h.1),k2 q hq0,if_neg]
    have:=d3 q hq
    have:=h0 q;have h1:=A.thing_fields q
    omega
   exact thing_of_load e
  have hz':∀ q ∈ l,(jSlide1 f A p).inUse q=true∧1+((jSlide1 f A p).thing q).2.1=sz q:=fun q hq=>by
   have h:=hz q (by simp [hq])
   exact ⟨by rw [huse];exact h.1,by rw [same q hq];exact h.2⟩
  have hk':k<l.length:=by simpa using hk
  obtain ⟨m1,m2,m3,m4,m5,m6,m7,m8,m9,m10⟩:=slide_at (f:=f) (sz:=sz) (l:=l) (a:=a+sz p) (b:=b) (A:=jSlide1 f A p) k hs.2 (by rw [k1];exact d4) hz' hn.2 h0 hk'
  have hm:l.getD k 0 ∈ l:=by rw [List.getD_eq_getElem?_getD,List.getElem?_eq_getElem hk'];exact List.getElem_mem _
  simp only [List.take_succ_cons,List.foldl_cons,List.getD_cons_succ]
  rw [k1] at m2 m8 m10
  exact ⟨m1.trans (same _ hm),m2,fun x hx=>k3 x (m3 x hx),m4.trans k4,m5.trans k5,m6.trans k6,m7,m8,m9,m10⟩
section
variable {O:Wo} {W:Wd} {φ:Int→Int}
def Wo.dm (O:Wo) (x:Int):Prop:=x%4=1→0≤x/4∧x/4<O.ar.ws.length
theorem Rep.live_bd (R:Rep O W φ) {i:Int} (hi:W.live i):0≤φ i∧φ i+1+(W.th i).fs.length≤O.ar.ws.length:=by
 have h1:=R.ho.ha.h1;have h2:=R.ho.ha.h2;have h3:=R.ho.ha.h3
 cases ho:(W.th i).old
 ·have:=Tile.mem R.ty _ (R.iny i hi ho)
  rw [R.th i hi] at this
  dsimp only at this
  omega
 ·have:=Tile.mem R.tz _ (R.ino i hi ho)
  rw [R.th i hi] at this
  dsimp only at this
  omega
theorem Rep.dm_enc (R:Rep O W φ) {v:Vl} (hv:W.okV v):O.dm (encV φ v):=fun h=>by
 have h3:=(encV_mod hv).1 h
 have:=R.live_bd (Wd.okV_ref hv h3)
 rw [encV_ref φ h3,show (4*φ v.2+1)/4=φ v.2 by omega]
 omega
theorem Rep.Dm_enc (R:Rep O W φ) {v:Vl} (hv:W.okV v):Dm (fun p=>∃ i,W.live i∧φ i=p) (encV φ v):=fun h=>by
 have h3:=(encV_mod hv).1 h
 refine ⟨v.2,Wd.okV_ref hv h3,?_⟩
 rw [encV_ref φ h3];omega
theorem Rep.Dm_rt (R:Rep O W φ):∀ x ∈ O.rt,Dm (fun p=>∃ i,W.live i∧φ i=p) x:=fun x hx=>by
 rw [R.rt] at hx
 obtain ⟨v,hv,rfl⟩:=List.mem_map.1 hx
 exact R.Dm_enc (R.hw.rv v hv)
theorem Rep.Dm_e (R:Rep O W φ) {e:Int × Int} (he:W.okE e):Dm (fun p=>∃ i,W.live i∧φ i=p) (encE φ e).1∧Dm (fun p=>∃ i,W.live i∧φ i=p) (encE φ e).2:=by
 rw [encE_eq]
 exact ⟨R.Dm_enc (v:=(3,e.1)) (.inr (.inr (.inr ⟨rfl,he.1⟩))),R.Dm_enc (v:=(3,e.2)) (.inr (.inr (.inr ⟨rfl,he.2.2⟩)))⟩
theorem Rep.Dm_rg (R:Rep O W φ):∀ e ∈ O.rg,Dm (fun p=>∃ i,W.live i∧φ i=p) e.1∧Dm (fun p=>∃ i,W.live i∧φ i=p) e.2:=fun e he=>by
 rw [R.rg] at he
 obtain ⟨g,hg,rfl⟩:=List.mem_map.1 he
 exact R.Dm_e (R.hw.gv g hg)
theorem Rep.Dm_wt (R:Rep O W φ):∀ e ∈ O.wt,Dm (fun p=>∃ i,W.live i∧φ i=p) e.1∧Dm (fun p=>∃ i,W.live i∧φ i=p) e.2:=fun e he=>by
 rw [R.wt] at he
 obtain ⟨g,hg,rfl⟩:=List.mem_map.1 he
 exact R.Dm_e (R.hw.wv g hg)
theorem Dm.dm (R:Rep O W φ) {x:Int} (h:Dm (fun p=>∃ i,W.live i∧φ i=p) x):O.dm x:=fun h1=>by
 obtain ⟨i,hi,e⟩:=h h1
 have:=R.live_bd hi
 omega
theorem Rep.dm_e (R:Rep O W φ) {e:Int × Int} (he:W.okE e):O.dm (encE φ e).1∧O.dm (encE φ e).2:=⟨(R.Dm_e he).1.dm R,(R.Dm_e he).2.dm R⟩
theorem Rep.dm_regs (R:Rep O W φ):∀ e ∈ newRegs jAlive sameW (jPass O).1 (jPass O).2.2,O.dm e.1∧O.dm e.2:=fun e he=>by
 obtain ⟨P,hq,hI⟩:=R.jpasses
 obtain ⟨m,hfst,hcnt,hits⟩:=Wd.pass_mid R.hw true
 unfold newRegs at he
 obtain ⟨i,hi,rfl⟩:=List.mem_map.1 he
 have hi:=(List.mem_filter.1 hi).1
 rw [hI] at hi
 obtain ⟨j,hj,rfl⟩:=List.mem_map.1 hi
 have h1:(j.1,j.2.1) ∈ (W.pass true).2.2.map (fun i=>(i.1,i.2.1)):=List.mem_map.2 ⟨j,hj,rfl⟩
 rw [hits] at h1
 obtain ⟨g,hg,e2⟩:=List.mem_map.1 h1
 have e3:g=j.1:=congrArg (fun p:(Int × Int) × Bool=>p.1) e2
 have:=R.hw.gv g hg
 rw [e3] at this
 exact R.dm_e this
theorem Rep.dm_wait (R:Rep O W φ):∀ e ∈ newWait jAlive sameW (jPass O).1 (jPass O).2.1,O.dm e.1∧O.dm e.2:=fun e he=>by
 obtain ⟨P,hq,hI⟩:=R.jpasses
 unfold newWait at he
 obtain ⟨i,hi,rfl⟩:=List.mem_map.1 he
 have hi:=(List.mem_filter.1 hi).1
 rw [hq] at hi
 obtain ⟨j,hj,rfl⟩:=List.mem_map.1 hi
 exact R.dm_e (P.ok j hj)
theorem Rep.dm_rt (R:Rep O W φ):∀ x ∈ O.rt,O.dm x:=fun x hx=>(R.Dm_rt x hx).dm R
structure Half (O:Wo):Prop where
 all0:0≤(jPl O).2
 all1:(O.ar.nur:Int)+(jPl O).2≤O.ar.ws.length
 turn:∀ k,k<(jThings O).length→∀ A i,((jThings O).take k).foldl (jTurn (jPass O).1 (jPl O).1) O.ar=A→(jThings O).getD k 0=i →
  A.ok∧0≤i∧i<O.ar.ws.length∧(∀ j:Int,0≤j→j<(A.thing i).2.1→A.inUse (i+1+j)=true)∧((A.thing i).1=4→0<(A.thing i).2.1)∧∀ j:Int,0≤j→j<(A.thing i).2.1→O.dm (A.load (i+1+j))
 tok:(jTurned O).ok
 tlen:(jTurned O).ws.length=O.ar.ws.length
 slide:∀ k,k<(jThings O).length→∀ A i,((jThings O).take k).foldl (jSlide1 (jPl O).1) (jTurned O)=A→(jThings O).getD k 0=i →
  A.ok∧A.ws.length=O.ar.ws.length∧0≤i∧i+1+(A.thing i).2.1≤O.ar.ws.length∧0≤lookT (jPl O).1 i∧lookT (jPl O).1 i+1+(A.thing i).2.1≤O.ar.ws.length
theorem Rep.half (R:Rep O W φ) (hno:¬ (jCut O).1≠0):Half O:=by
 have hsy:=R.sy;have hso:=R.so;have hnur:=R.nur;have hlen:=R.len
 obtain ⟨P,hq,hI⟩:=R.jpasses
 have PL:=R.plan
 generalize Exists.choose _=N at PL
 have hokO:=R.ho.ha
 have b1:=hokO.h1;have b2:=hokO.h2;have b3:=hokO.h3;have b4:=hokO.h4
 have hallN:(jPl O).2≤(O.ar.ws.length:Int)-O.ar.nur:=by
  unfold jCut at hno
  by_cases h:(jPl O).2 > ((O.ar.grn:Int)-O.ar.nur)+((O.ar.ws.length:Int)-O.ar.grn)
  ·rw [if_pos h] at hno;exact (hno (show (3:Int)≠0 by decide)).elim
  ·omega
 have h0:∀ p,0≤(fun p=>1+(O.ar.thing p).2.1) p:=fun p=>by have:=O.ar.thing_fields p;dsimp only;omega
 have hall0:=Sit.le h0 PL.sit
 have hsl:=PL.slid hallN
 have hsit:=PL.sit
 have hTu:jTurned O=(jThings O).foldl (jTurn (jPass O).1 (jPl O).1) O.ar:=rfl
 generalize hf:(jPl O).1=f at *
 generalize hall:(jPl O).2=all at *
 generalize hs:(jPass O).1=s at *
 generalize his:(W.pass true).1=is at *
 have lvN:∀ {i},i ∈ N→W.live i:=fun hi=>P.M.sl _ ((PL.nm _).1 hi)
 have thN:∀ {i},i ∈ N→(O.ar.thing (φ i))=((W.th i).k,((W.th i).fs.length:Int),0):=fun hi=>R.th _ (lvN hi)
 have place:∀ {i},i ∈ N→(O.ar.nur:Int)≤psiJ f φ i∧psiJ f φ i+(1+(W.th i).fs.length)≤O.ar.nur+all:=fun {i} hi=>by
  have:=Sit.mem h0 hsit (φ i) (by rw [←PL.eq];exact List.mem_map.2 ⟨i,hi,rfl⟩)
  rw [thN hi] at this
  exact this
 have T:Tn O W φ s f is:=⟨fun i hi=>P.M.sl i hi,fun v hv=>P.M.alive R hv,fun i hi=>by have:=place ((PL.nm i).2 hi);omega⟩
 have hlenN:N.length=(jThings O).length:=by rw [←PL.eq,List.length_map]
 obtain ⟨t1,t2,t3,t4,t5,t6,-⟩:=T.turns R N PL.nd (fun i hi=>(PL.nm i).1 hi) hokO rfl rfl rfl rfl (fun _ _ _ _ _=>rfl)
 rw [PL.eq,←hTu] at t1 t2 t3 t4 t5 t6
 have use0:∀ q,(jTurned O).inUse q=O.ar.inUse q:=fun q=>by unfold Ar.inUse Ar.young Ar.old;rw [t2,t3,t4]
 refine ⟨by omega,by omega,fun k hk A i hA hi=>?_,t1,t5,fun k hk A i hA hi=>?_⟩
 all_goals (try rw [hs] at hA);rw [hf] at hA
 ·have hkN:k<N.length:=by omega
  have hgi:i=φ (N.getD k 0):=by
   rw [←hi,←PL.eq,List.getD_eq_getElem?_getD,List.getElem?_map,List.getElem?_eq_getElem hkN,List.getD_eq_getElem?_getD,List.getElem?_eq_getElem hkN];rfl
  have hmN:N.getD k 0 ∈ N:=by rw [List.getD_eq_getElem?_getD,List.getElem?_eq_getElem hkN];exact List.getElem_mem _
  have hnot:¬ N.getD k 0 ∈ N.take k:=fun h=>by
   have e:N=N.take k ++ N.drop k:=(List.take_append_drop k N).symm
   have hnd:=PL.nd
   rw [e,List.nodup_append] at hnd
   refine hnd.2.2 _ h _ ?_ rfl
   rw [List.drop_eq_getElem_cons hkN,List.getD_eq_getElem?_getD,List.getElem?_eq_getElem hkN]
   exact List.mem_cons_self
  obtain ⟨u1,u2,u3,u4,u5,-,u7⟩:=T.turns R (N.take k) (PL.nd.sublist (List.take_sublist k N)) (fun i hi=>(PL.nm i).1 (List.mem_of_mem_take hi)) hokO rfl rfl rfl rfl (fun _ _ _ _ _=>rfl)
  rw [List.map_take,PL.eq,hA] at u1 u2 u3 u4 u5 u7
  generalize N.getD k 0=n at *
  subst hgi
  have hl:=lvN hmN
  have hld:=u7 n hl hnot
  have h00:=hld 0 (by omega) (by omega)
  rw [Int.add_zero] at h00
  have hth:A.thing (φ n)=((W.th n).k,((W.th n).fs.length:Int),0):=by rw [thing_of_load' h00];exact thN hmN
  have hbd:=R.live_bd hl
  rw [hth]
  dsimp only
  refine ⟨u1,hbd.1,by omega,fun j j0 j1=>?_,fun h4=>?_,fun j j0 j1=>?_⟩
  ·have:A.inUse (φ n+1+j)=O.ar.inUse (φ n+1+j):=by unfold Ar.inUse Ar.young Ar.old;rw [u2,u3,u4]
   rw [this,Int.add_assoc]
   exact R.use hl (by omega) (by omega)
  ·obtain ⟨a,b,e⟩:=list_two (Wd.two R.hw hl (.inr (.inl h4)))
   rw [e];simp
  ·have hv:(W.th n).fs[j.toNat]? = some (W.th n).fs[j.toNat]:=List.getElem?_eq_getElem (by omega)
   have hlv:=hld (1+j) (by omega) (by omega)
   rw [←Int.add_assoc] at hlv
   rw [hlv]
   have:=R.fl n hl _ _ hv
   rw [show ((j.toNat:Nat):Int)=j by omega] at this
   rw [this]
   exact R.dm_enc (R.hw.tv n hl _ (List.mem_of_getElem? hv))
 ·have hus:∀ {i},i ∈ N→(jTurned O).inUse (φ i)=true:=fun {i} hi=>by
   rw [use0]
   have:=R.use (lvN hi) (j:=0) (by omega) (by omega)
   rwa [Int.add_zero] at this
  obtain ⟨m1,m2,m3,m4,m5,m6,m7,m8,m9,m10⟩:=slide_at (f:=f) (sz:=fun p=>1+(O.ar.thing p).2.1) (l:=jThings O) (A:=jTurned O) k hsit (by rw [t5];exact hsl) (fun p hp=>by
   rw [←PL.eq] at hp
   obtain ⟨i,hi,rfl⟩:=List.mem_map.1 hp
   refine ⟨hus hi,?_⟩
   rw [thing_of_load (t6 i hi).1]) ((jAll_nodup R).filter _) h0 hk
  rw [hA] at m1 m2 m3 m4 m5 m6
  rw [hi] at m1 m7 m8 m9 m10
  rw [t5] at m2 m8 m10
  try dsimp only at m8 m10
  have hthi:(jTurned O).thing i=O.ar.thing i:=by
   have hmem:i ∈ jThings O:=by rw [←hi,List.getD_eq_getElem?_getD,List.getElem?_eq_getElem hk];exact List.getElem_mem _
   rw [←PL.eq] at hmem
   obtain ⟨n,hn,rfl⟩:=List.mem_map.1 hmem
   exact thing_of_load (t6 n hn).1
  rw [m1,hthi]
  have hokA:A.ok:=⟨by rw [m5,m4,t3,t2];exact b1,by rw [m4,m6,t2,t4];exact b2,by rw [m6,t4,m2];exact b3,by rw [m2];exact b4,fun x hx=>t1.hw x (m3 x hx)⟩
  rw [hf]
  exact ⟨hokA,m2,m9,by omega,m7,by omega⟩
end
end
section
open Go.RowKit
inductive RO3 where
 | free (i:Nat) (r:RO3)
 | three (i:Nat) (t1:RO) (j:Nat) (t2:RO) (k:Nat) (t3:RO)
def RO3.size:RO3→Nat
 | .free _ r=>r.size+1
 | .three _ t _ _ _ _=>t.size+1
section
variable {P:Program} {ops:Array Oper} {md:Region.Mode}
def ro3B (md:Region.Mode) (ops:Array Oper):RO3→Array Bool→Bool
 | .free i r,listed=>(Region.ready md ops listed).contains i && Region.free md ops listed i && ro3B md ops r (listed.setIfInBounds i true)
 | .three i t1 j t2 k t3,listed=>Region.ready md ops listed == [i,j,k] && t1.size == t2.size && t1.size == t3.size && roB md ops t1 [] (listed.setIfInBounds i true) && roB md ops t2 [] (listed.setIfInBounds j true) && roB md ops t3 [] (listed.setIfInBounds k true)
def ro3Raw (P:Program) (ops:Array Oper) (Q:Act→World→Prop):RO3→Act→World→Prop
 | .free i r,a,w=>∃ o v,ops[i]? = some o∧YieldsG P ops (fun _=>True) o v a∧ro3Raw P ops Q r (a.put o.dst v) w
 | .three i t1 j t2 k t3,a,w=>gOp P ops i (fun a' w'=>wpRO P ops Q t1 [] (fun _=>True) a' w') a w∧gOp P ops j (fun a' w'=>wpRO P ops Q t2 [] (fun _=>True) a' w') a w∧gOp P ops k (fun a' w'=>wpRO P ops Q t3 [] (fun _=>True) a' w') a w
theorem wpAnyH_ro3 {Q:Act→World→Prop} (hs:Region.noSelect ops=true):∀ (t:RO3) (listed:Array Bool) (a:Act) (w:World),Shut md ops listed →
  ro3B md ops t listed=true→ro3Raw P ops Q t a w→wpAnyH P md ops (fun _=>True) [] (fun _=>True) Q t.size listed a w
 | .free i r,listed,a,w,hS,hB,h=>by
  simp only [ro3B,Bool.and_eq_true] at hB
  obtain ⟨⟨hr,hf⟩,hB'⟩:=hB
  obtain ⟨o,v,ho,hy,hn⟩:=h
  have hr':i ∈ Region.ready md ops listed:=by simpa using hr
  refine wpAnyH_first ho (Region.noSelect_spec hs) (.inr (.inr fun _=>trivial)) r.size listed a w trivial hS (Region.free_spec ho hf) hr' hy ?_
  exact wpAnyH_ro3 hs r _ _ w (hS.next hr') hB' hn
 | .three i t1 j t2 k t3,listed,a,w,hS,hB,h=>by
  simp only [ro3B,Bool.and_eq_true,beq_iff_eq] at hB
  obtain ⟨⟨⟨⟨⟨hr,h12⟩,h13⟩,hB1⟩,hB2⟩,hB3⟩:=hB
  refine ⟨(fun h0=>by rw [hr] at h0;cases h0),fun m hm=>?_⟩
  have hin:m ∈ Region.ready md ops listed:=hm
  rw [hr] at hm
  have hm:m=i∨m=j∨m=k:=by simpa using hm
  rcases hm with rfl | rfl | rfl
  ·exact gOp_mono (fun a' w' hn=>⟨fun h=>h,fun _ h=>h,wpAnyH_ro hs t1 [] _ _ a' w' (hS.next hin) trivial (.inl trivial) hB1 hn.raw⟩) h.1
  ·show gOp P ops m (fun a' w'=>(True→True)∧(([]:List Nat).contains m=false→True→True)∧wpAnyH P md ops (fun _=>True) [] (fun _=>True) Q t1.size (listed.setIfInBounds m true) a' w') a w
   rw [h12]
   exact gOp_mono (fun a' w' hn=>⟨fun h=>h,fun _ h=>h,wpAnyH_ro hs t2 [] _ _ a' w' (hS.next hin) trivial (.inl trivial) hB2 hn.raw⟩) h.2.1
  ·show gOp P ops m (fun a' w'=>(True→True)∧(([]:List Nat).contains m=false→True→True)∧wpAnyH P md ops (fun _=>True) [] (fun _=>True) Q t1.size (listed.setIfInBounds m true) a' w') a w
   rw [h13]
   exact gOp_mono (fun a' w' hn=>⟨fun h=>h,fun _ h=>h,wpAnyH_ro hs t3 [] _ _ a' w' (hS.next hin) trivial (.inl trivial) hB3 hn.raw⟩) h.2.2
structure wpRO3 (P:Program) (ops:Array Oper) (Q:Act→World→Prop) (t:RO3) (a:Act) (w:World):Prop where
 raw:ro3Raw P ops Q t a w
theorem wp_region_ro3 {id:Nat} {Q:Exit→Act→World→Prop} {a:Act} {w:World} {l:List Oper} (t:RO3) (hm:P.follows .mixedOrders=true)
  (hB:(Region.noSelect l.toArray && t.size == l.toArray.size && ro3B .any l.toArray t (Array.replicate l.toArray.size false))=true)
  (h:wpRO3 P l.toArray (fun a' w'=>Q .normal a' w') t a w.drew):(Code.region id l.toArray true).wp P Q a w:=by
 simp only [Bool.and_eq_true,beq_iff_eq] at hB
 obtain ⟨⟨hs,hl⟩,hB⟩:=hB
 refine wp_region_any hm ?_
 have hshut:Shut .any l.toArray (Array.replicate l.toArray.size false):=by
  intro j o ho hx
  have h0:(Array.replicate l.toArray.size false).getD j false=false:=by
   rw [Array.getD_eq_getD_getElem?,Array.getElem?_replicate];split <;> rfl
  rw [h0] at hx;cases hx
 have:=wpAnyH_ro3 (md:=.any) hs t _ a w.drew hshut hB h.raw
 rw [hl] at this
 exact wpAny_of_H (fun _ _ h=>h) _ _ _ _ this
variable {Q:Act→World→Prop} {i:Nat} {r:RO3} {a:Act} {w:World} {o:Oper}
theorem wpRO3_free (ho:ops[i]? = some o) (hw:Region.wanted o (yielded ops a.tmps)=true) (v:Value)
  (h:∀ w',Gives v w' ((execOp a.eval o).run P w')) (hn:∀ K:Act→Prop,(∀ a',wpRO3 P ops Q r a' w→K a')→K (a.put o.dst v)):wpRO3 P ops Q (.free i r) a w:=
 ⟨⟨o,v,ho, .inl ⟨hw,fun w' _=>h w'⟩,hn (fun a'=>ro3Raw P ops Q r a' w) (fun _ h=>h.raw)⟩⟩
theorem wpRO3_three {j k:Nat} {t1 t2 t3:RO} {o2 o3:Oper} (h1:ops[i]? = some o) (w1:Region.wanted o (yielded ops a.tmps)=true) (h2:ops[j]? = some o2) (w2:Region.wanted o2 (yielded ops a.tmps)=true) (h3:ops[k]? = some o3) (w3:Region.wanted o3 (yielded ops a.tmps)=true)
  (g1:∀ K:Act→World→Prop,(∀ a' w',wpRO P ops Q t1 [] (fun _=>True) a' w'→K a' w')→gRun P o a w K)
  (g2:∀ K:Act→World→Prop,(∀ a' w',wpRO P ops Q t2 [] (fun _=>True) a' w'→K a' w')→gRun P o2 a w K)
  (g3:∀ K:Act→World→Prop,(∀ a' w',wpRO P ops Q t3 [] (fun _=>True) a' w'→K a' w')→gRun P o3 a w K):wpRO3 P ops Q (.three i t1 j t2 k t3) a w:=
 ⟨⟨gOp_run h1 w1 (g1 _ (fun _ _ h=>h)),gOp_run h2 w2 (g2 _ (fun _ _ h=>h)),gOp_run h3 w3 (g3 _ (fun _ _ h=>h))⟩⟩
end
end
section
open Go.RowKit
structure CutIn (w:World) (p n:Nat) (wx:World) (ol ot oc ob:Option Nat):Prop where
 k:Keeps (fun _=>False) w wx
 l:∀ b,ol=some b→Blk wx b (List.replicate n (.bool false)) 4∧w.heap.size≤b
 t:∀ b,ot=some b→Blk wx b (List.replicate n (.int .i64 0)) 3∧w.heap.size≤b
 c:∀ b,oc=some b→∃ lb tb,ol=some lb∧ot=some tb∧Blk wx b [.pointer (some ⟨p,0,none⟩), .slice (some ⟨lb,0,none⟩) n n, .slice (some ⟨tb,0,none⟩) n n, .slice none 0 0, .slice none 0 0] 121∧w.heap.size≤b
 v:∀ b,ob=some b→Blk wx b [.pointer none] 118∧w.heap.size≤b
section
variable {w wx:World} {p n:Nat} {ol ot oc ob:Option Nat}
theorem CutIn.start (w:World) (p n:Nat):CutIn w p n w.drew none none none none:=⟨(Keeps.refl _ w).drew,fun _ h=>(by cases h),fun _ h=>(by cases h),fun _ h=>(by cases h),fun _ h=>(by cases h)⟩
theorem CutIn.alloc (I:CutIn w p n wx ol ot oc ob) (cs:Array Value) (T:TypeId):CutIn w p n (wx.alloc (.cells cs T)) ol ot oc ob:=
 ⟨I.k.alloc _,fun b h=>⟨(I.l b h).1.alloc _,(I.l b h).2⟩,fun b h=>⟨(I.t b h).1.alloc _,(I.t b h).2⟩,fun b h=>by obtain ⟨lb,tb,e1,e2,hb,hs⟩:=I.c b h;exact ⟨lb,tb,e1,e2,hb.alloc _,hs⟩,fun b h=>⟨(I.v b h).1.alloc _,(I.v b h).2⟩⟩
theorem CutIn.live (I:CutIn w p n wx none ot none ob):CutIn w p n (wx.alloc (.cells (Array.replicate n (.bool false)) 4)) (some wx.heap.size) ot none ob:=by
 have J:=I.alloc (Array.replicate n (.bool false)) 4
 exact ⟨J.k,fun b h=>by cases h;exact ⟨Blk.newAt _ rfl (by simp),I.k.size⟩,J.t,fun _ h=>(by cases h),J.v⟩
theorem CutIn.to (I:CutIn w p n wx ol none none ob):CutIn w p n (wx.alloc (.cells (Array.replicate n (.int .i64 0)) 3)) ol (some wx.heap.size) none ob:=by
 have J:=I.alloc (Array.replicate n (.int .i64 0)) 3
 exact ⟨J.k,J.l,fun b h=>by cases h;exact ⟨Blk.newAt _ rfl (by simp),I.k.size⟩,fun _ h=>(by cases h),J.v⟩
theorem CutIn.cut {lb tb:Nat} (I:CutIn w p n wx (some lb) (some tb) none ob):CutIn w p n (wx.alloc (.cells #[.pointer (some ⟨p,0,none⟩), .slice (some ⟨lb,0,none⟩) n n, .slice (some ⟨tb,0,none⟩) n n, .slice none 0 0, .slice none 0 0] 121)) (some lb) (some tb) (some wx.heap.size) ob:=by
 have J:=I.alloc #[.pointer (some ⟨p,0,none⟩), .slice (some ⟨lb,0,none⟩) n n, .slice (some ⟨tb,0,none⟩) n n, .slice none 0 0, .slice none 0 0] 121
 exact ⟨J.k,J.l,J.t,fun b h=>by cases h;exact ⟨lb,tb,rfl,rfl,Blk.newAt _ rfl rfl,I.k.size⟩,J.v⟩
theorem CutIn.var (I:CutIn w p n wx ol ot oc none):CutIn w p n (wx.alloc (.cells #[.pointer none] 118)) ol ot oc (some wx.heap.size):=by
 have J:=I.alloc #[.pointer none] 118
 exact ⟨J.k,J.l,J.t,J.c,fun b h=>by cases h;exact ⟨Blk.newAt _ rfl rfl,I.k.size⟩⟩
def CutMade (w:World) (p n:Nat) (wx:World) (v:Value):Prop:=
 ∃ lb tb pc b,v=.pointer (some ⟨b,0,none⟩)∧Keeps (fun _=>False) w wx∧Blk wx lb (List.replicate n (.bool false)) 4∧Blk wx tb (List.replicate n (.int .i64 0)) 3 ∧
  Blk wx pc [.pointer (some ⟨p,0,none⟩), .slice (some ⟨lb,0,none⟩) n n, .slice (some ⟨tb,0,none⟩) n n, .slice none 0 0, .slice none 0 0] 121∧Blk wx b [.pointer (some ⟨pc,0,none⟩)] 118∧w.heap.size≤lb∧w.heap.size≤tb∧w.heap.size≤pc∧w.heap.size≤b
theorem CutIn.made {lb tb pc b:Nat} (I:CutIn w p n wx (some lb) (some tb) (some pc) (some b)):CutMade w p n (wx.setCell ⟨b,0,none⟩ (.pointer (some ⟨pc,0,none⟩))) (.pointer (some ⟨b,0,none⟩)):=by
 obtain ⟨hb,sb⟩:=I.v b rfl
 obtain ⟨hl,sl⟩:=I.l lb rfl
 obtain ⟨ht,st⟩:=I.t tb rfl
 obtain ⟨_,_,e1,e2,hc,sc⟩:=I.c pc rfl
 cases e1;cases e2
 have set:=(Keeps.refl (·=b) wx).setCell (p:=⟨b,0,none⟩) (.inl rfl) (.pointer (some ⟨pc,0,none⟩))
 exact ⟨lb,tb,pc,b,rfl,I.k.setCell (p:=⟨b,0,none⟩) (.inr sb) _,set.blk hl (hl.ne hb (by decide)),set.blk ht (ht.ne hb (by decide)),set.blk hc (hc.ne hb (by decide)),by simpa using hb.setSame 0 (.pointer (some ⟨pc,0,none⟩)),sl,st,sc,sb⟩
end
end
section
open Go.RowKit
theorem foldl_take {α:Type} {g:α→Int→α} {l:List Int} {k:Nat} (a:α) (h:k<l.length):(l.take (k+1)).foldl g a=g ((l.take k).foldl g a) (l.getD k 0):=by
 rw [←List.take_append_getElem h,List.foldl_append,List.getD_eq_getElem?_getD,List.getElem?_eq_getElem h];rfl
def mapN {α:Type} (g:α→α) (l:List α) (k:Nat):List α:=(l.take k).map g ++ l.drop k
theorem mapN_len {α:Type} (g:α→α) (l:List α) (k:Nat):(mapN g l k).length=l.length:=by
 unfold mapN;rw [List.length_append,List.length_map,List.length_take,List.length_drop];omega
theorem mapN_zero {α:Type} (g:α→α) (l:List α):mapN g l 0=l:=by simp [mapN]
theorem mapN_all {α:Type} (g:α→α) (l:List α):mapN g l l.length=l.map g:=by simp [mapN]
theorem mapN_get {α:Type} (g:α→α) {l:List α} {k:Nat} (d:α) (h:k<l.length):(mapN g l k).getD k d=l.getD k d:=by
 unfold mapN
 have hl:((l.take k).map g).length=k:=by rw [List.length_map,List.length_take];omega
 rw [List.getD_eq_getElem?_getD,List.getElem?_append_right (by omega),hl,Nat.sub_self,List.getElem?_drop,Nat.add_zero,List.getD_eq_getElem?_getD]
theorem mapN_step {α:Type} (g:α→α) {l:List α} {k:Nat} (d:α) (h:k<l.length):(mapN g l k).set k (g (l.getD k d))=mapN g l (k+1):=by
 unfold mapN
 have hl:((l.take k).map g).length=k:=by rw [List.length_map,List.length_take];omega
 rw [List.set_append_right _ _ (by omega),hl,Nat.sub_self,List.drop_eq_getElem_cons h,List.set_cons_zero,List.take_add_one,List.getElem?_eq_getElem h,List.map_append,List.append_assoc,List.getD_eq_getElem?_getD,List.getElem?_eq_getElem h]
 rfl
def InF (w0:World) (h:WH) (F:Nat→Prop):Prop:=∀ k,F k→(k=h.p∨k=h.pa∨k=h.g)∨w0.heap.size≤k
def WH.Away (h:WH) (k:Nat):Prop:=k=h.pc∨k=h.cb∨SideFp h.ps h.rv h.wv k∨ownB h.ro k
section
variable {w0 w w':World} {h:WH} {O:Wo} {F:Nat→Prop}
theorem WoodAt.away (H:WoodAt w0 h O) {k:Nat} (hk:h.Away k):k<w0.heap.size∧k≠h.p∧k≠h.pa∧k≠h.g:=by
 have ne:∀ {l:List Value} {T:TypeId},Blk w0 k l T→T≠43→T≠70→T≠2→k<w0.heap.size∧k≠h.p∧k≠h.pa∧k≠h.g:=fun hb h1 h2 h3=>⟨hb.lt,hb.ne H.hp h1,hb.ne H.ha.hp h2,hb.ne H.ha.hg h3⟩
 rcases hk with rfl | rfl | hk | hk
 ·exact ne H.hc.hp (by decide) (by decide) (by decide)
 ·exact ne H.hc.hq (by decide) (by decide) (by decide)
 ·obtain ⟨_,U,h',hU⟩:=H.hs.fp_type hk
  rcases hU with rfl | rfl
  ·exact ne h' (by decide) (by decide) (by decide)
  ·exact ne h' (by decide) (by decide) (by decide)
 ·obtain ⟨hl,l,hb⟩:=H.hr.own hk
  exact ⟨hl,hb.ne H.hp (by decide),hb.ne H.ha.hp (by decide),fun e=>H.ap (e ▸ hk)⟩
theorem WoodAt.away_not (H:WoodAt w0 h O) (hF:InF w0 h F) {k:Nat} (hk:h.Away k):¬ F k:=fun hf=>by
 have:=H.away hk
 have:=hF k hf
 omega
theorem InF.mono {G:Nat→Prop} (hF:InF w0 h F) (hg:∀ k,G k→F k∨w0.heap.size≤k):InF w0 h G:=fun k hk=>by
 rcases hg k hk with h1 | h1
 ·exact hF k h1
 ·exact .inr h1
theorem InF.or {G:Nat→Prop} (hF:InF w0 h F) (hG:InF w0 h G):InF w0 h (fun k=>F k∨G k):=fun k hk=>hk.elim (hF k) (hG k)
structure JM (w0:World) (h:WH) (O:Wo) (w:World) (pc lb tb:Nat) (sv ev:Value) (A:Ar) (rt:List Int) (s:Gs) (f:List Int):Prop where
 J:JAt w ⟨h.p,h.pa,h.g,h.pc,h.ps,h.ro,pc,lb,tb⟩ sv ev A s f
 hc:CardsAt w h.pc h.cb O.ar.nur O.cd
 hs:SideAt w h.ps h.rv h.wv O.rg O.wt
 hr:Sl w 2 1 h.ro rt.length (rt.map (Value.int .i64))
 K:Keeps h.Own w0 w
 own:InF w0 h (JH.Own ⟨h.p,h.pa,h.g,h.pc,h.ps,h.ro,pc,lb,tb⟩ sv ev)
variable {pc lb tb:Nat} {sv ev sv' ev':Value} {A A':Ar} {rt:List Int} {s s':Gs} {f f':List Int}
theorem JM.keep (M:JM w0 h O w pc lb tb sv ev A rt s f) (H:WoodAt w0 h O) (k:Keeps F w w') (hF:InF w0 h F) (J':JAt w' ⟨h.p,h.pa,h.g,h.pc,h.ps,h.ro,pc,lb,tb⟩ sv' ev' A' s' f') (own':InF w0 h (JH.Own ⟨h.p,h.pa,h.g,h.pc,h.ps,h.ro,pc,lb,tb⟩ sv' ev')) :
  JM w0 h O w' pc lb tb sv' ev' A' rt s' f':=by
 refine ⟨J',M.hc.keep k (H.away_not hF (.inl rfl)) (H.away_not hF (.inr (.inl rfl))),M.hs.keep k (fun b hb=>H.away_not hF (.inr (.inr (.inl hb)))),M.hr.keep k (fun b hb=>H.away_not hF (.inr (.inr (.inr hb)))),M.K.then k (fun k hk=>?_),own'⟩
 rcases hF k hk with (h1 | h1 | h1) | h1
 ·exact .inl (.inl h1)
 ·exact .inl (.inr (.inl (.inl h1)))
 ·exact .inl (.inr (.inl (.inr h1)))
 ·exact .inr h1
theorem JM.same (M:JM w0 h O w pc lb tb sv ev A rt s f) (H:WoodAt w0 h O) (k:Keeps (fun _=>False) w w'):JM w0 h O w' pc lb tb sv ev A rt s f:=
 M.keep H k (fun _ h=>h.elim) (M.J.same k) M.own
theorem JM.tom (M:JM w0 h O w pc lb tb sv ev A rt s f) (H:WoodAt w0 h O) (t:JTm w ⟨h.p,h.pa,h.g,h.pc,h.ps,h.ro,pc,lb,tb⟩ sv ev A' s' f' w') :
  ∃ sv',JM w0 h O w' pc lb tb sv' ev A' rt s' f':=by
 obtain ⟨sv',J',k,o⟩:=t
 exact ⟨sv',M.keep H k M.own J' (M.own.mono (fun k hk=>(o k hk).imp id (fun h=>Nat.le_trans M.K.size h)))⟩
theorem JM.cells (M:JM w0 h O w pc lb tb sv ev A rt s f):w.cell? ⟨h.p,0,none⟩=some (.pointer (some ⟨h.pa,0,none⟩))∧w.cell? ⟨h.p,1,none⟩=some (.pointer (some ⟨h.pc,0,none⟩))∧w.cell? ⟨h.p,2,none⟩=some (.pointer (some ⟨h.ps,0,none⟩))∧w.cell? ⟨h.p,3,none⟩=some h.ro∧h.p<w.heap.size:=
 ⟨M.J.hp.cell 0,M.J.hp.cell 1,M.J.hp.cell 2,M.J.hp.cell 3,M.J.hp.lt⟩
theorem JM.rootCells (M:JM w0 h O w pc lb tb sv ev A rt s f) (h12:rt.length=12):∃ g o cap,h.ro=.slice (some ⟨g,o,none⟩) 12 cap∧g<w.heap.size∧(∀ k,w.frozen? ⟨g,k,none⟩=false)∧∀ k,k<rt.length→w.cell? ⟨g,o+k,none⟩=some (.int .i64 (rt.getD k 0)):=by
 obtain ⟨ao,cap,e,hrd,-,-⟩:=M.hr.rd
 obtain ⟨g,o,rfl,hg,hc⟩:=hrd (by intro e;have:=congrArg List.length e;rw [List.length_map,h12] at this;cases this)
 have hown:ownB h.ro g:=by rw [e];rfl
 obtain ⟨-,cur,hb⟩:=M.hr.own hown
 refine ⟨g,o,cap,by rw [e,h12],hg,fun k=>hb.free k,fun k hk=>?_⟩
 rw [hc k (by simpa using hk)]
 simp [List.getD,hk]
theorem JM.var (M:JM w0 h O w pc lb tb sv ev A rt s f) {b:Nat} {l:List Value} {T:TypeId} (hb:Blk w b l T) (hT:T=118∨T=41):¬ JH.Own ⟨h.p,h.pa,h.g,h.pc,h.ps,h.ro,pc,lb,tb⟩ sv ev b:=fun hk=>by
 obtain ⟨_,U,h',hU⟩:=M.J.own_type hk
 refine hb.ne h' ?_ rfl
 rcases hT with rfl | rfl <;> rcases hU with rfl | rfl | rfl | rfl | rfl | rfl <;> decide
structure JZ (w0:World) (h:WH) (O:Wo) (w:World) (ps pc lb tb:Nat) (sv ev:Value) (A:Ar) (cd:List Bool) (rt:List Int) (s:Gs) (f:List Int) (b vb sp:Nat) (rv qv:Value) (rg wt:List (Int × Int)) (lo:Option Addr) (lc:Nat) (L:List Int):Prop where
 J:JAt w ⟨h.p,h.pa,h.g,h.pc,ps,h.ro,pc,lb,tb⟩ sv ev A s f
 hc:CardsAt w h.pc h.cb O.ar.nur cd
 hr:Sl w 2 1 h.ro rt.length (rt.map (Value.int .i64))
 K:Keeps h.Own w0 w
 S:SideAt w sp rv qv rg wt
 so:InF w0 h (SideFp sp rv qv)
 B:Blk w b [.pointer (some ⟨pc,0,none⟩)] 118
 V:Blk w vb [.pointer (some ⟨sp,0,none⟩)] 41
 L:Sl w 3 1 (.slice lo L.length lc) L.length (L.map (Value.int .i64))
 ap:¬ ownB h.ro h.g
section
variable {ps b vb sp:Nat} {rv qv:Value} {cd:List Bool} {rg wt:List (Int × Int)} {lo:Option Addr} {lc:Nat} {L:List Int}
theorem JZ.keep (Z:JZ w0 h O w ps pc lb tb sv ev A cd rt s f b vb sp rv qv rg wt lo lc L) (k:Keeps F w w') (hF:InF w0 h F) (hK:∀ k,F k→h.Own k∨w0.heap.size≤k) (J':JAt w' ⟨h.p,h.pa,h.g,h.pc,ps,h.ro,pc,lb,tb⟩ sv ev A' s f)
  (ty:∀ {k c} {U:TypeId},Blk w k c U→(U=132∨U=4∨U=2∧k≠h.g∨U=53∨U=100∨U=118∨U=41∨U=3)→¬ F k) :
  JZ w0 h O w' ps pc lb tb sv ev A' cd rt s f b vb sp rv qv rg wt lo lc L:=by
 refine ⟨J',Z.hc.keep k (ty Z.hc.hp (.inl rfl)) (ty Z.hc.hq (.inr (.inl rfl))),Z.hr.keep k (fun b hb=>?_),Z.K.then k (fun k hk=>hK k hk),Z.S.keep k (fun b hb=>?_),Z.so,k.blk Z.B (ty Z.B (.inr (.inr (.inr (.inr (.inr (.inl rfl))))))),k.blk Z.V (ty Z.V (.inr (.inr (.inr (.inr (.inr (.inr (.inl rfl)))))))),Z.L.keep k (fun b hb=>?_),Z.ap⟩
 ·obtain ⟨_,l,hb'⟩:=Z.hr.own hb
  exact ty hb' (.inr (.inr (.inl ⟨rfl,fun e=>Z.ap (e ▸ hb)⟩)))
 ·obtain ⟨_,U,h',hU⟩:=Z.S.fp_type hb
  rcases hU with rfl | rfl
  ·exact ty h' (.inr (.inr (.inr (.inl rfl))))
  ·exact ty h' (.inr (.inr (.inr (.inr (.inl rfl)))))
 ·obtain ⟨_,l,hb'⟩:=Z.L.own hb
  exact ty hb' (.inr (.inr (.inr (.inr (.inr (.inr (.inr rfl)))))))
theorem JZ.same (Z:JZ w0 h O w ps pc lb tb sv ev A cd rt s f b vb sp rv qv rg wt lo lc L) (k:Keeps (fun _=>False) w w'):JZ w0 h O w' ps pc lb tb sv ev A cd rt s f b vb sp rv qv rg wt lo lc L:=
 Z.keep k (fun _ h=>h.elim) (fun _ h=>h.elim) (Z.J.same k) (fun _ _ h=>h)
theorem JZ.arena (Z:JZ w0 h O w ps pc lb tb sv ev A cd rt s f b vb sp rv qv rg wt lo lc L) (t:ArenaTo w h.pa h.g w' A'):JZ w0 h O w' ps pc lb tb sv ev A' cd rt s f b vb sp rv qv rg wt lo lc L:=by
 refine Z.keep t.k (fun k hk=>.inl (.inr hk)) (fun k hk=>.inl (.inr (.inl hk))) (Z.J.arena t) (fun {k c U} hb hU e=>?_)
 rcases e with e | e
 ·refine hb.ne Z.J.ha.hp ?_ e
  rcases hU with rfl | rfl | ⟨rfl,_⟩ | rfl | rfl | rfl | rfl | rfl <;> decide
 ·rcases hU with rfl | rfl | ⟨rfl,hg⟩ | rfl | rfl | rfl | rfl | rfl
  ·exact hb.ne Z.J.ha.hg (by decide) e
  ·exact hb.ne Z.J.ha.hg (by decide) e
  ·exact hg e
  ·exact hb.ne Z.J.ha.hg (by decide) e
  ·exact hb.ne Z.J.ha.hg (by decide) e
  ·exact hb.ne Z.J.ha.hg (by decide) e
  ·exact hb.ne Z.J.ha.hg (by decide) e
  ·exact hb.ne Z.J.ha.hg (by decide) e
theorem JZ.rootCells (Z:JZ w0 h O w ps pc lb tb sv ev A cd rt s f b vb sp rv qv rg wt lo lc L) (h12:rt.length=12):∃ g o cap,h.ro=.slice (some ⟨g,o,none⟩) 12 cap∧g<w.heap.size∧(∀ k,w.frozen? ⟨g,k,none⟩=false)∧∀ k,k<rt.length→w.cell? ⟨g,o+k,none⟩=some (.int .i64 (rt.getD k 0)):=by
 obtain ⟨ao,cap,e,hrd,-,-⟩:=Z.hr.rd
 obtain ⟨g,o,rfl,hg,hc⟩:=hrd (by intro e;have:=congrArg List.length e;rw [List.length_map,h12] at this;cases this)
 have hown:ownB h.ro g:=by rw [e];rfl
 obtain ⟨-,cur,hb⟩:=Z.hr.own hown
 refine ⟨g,o,cap,by rw [e,h12],hg,fun k=>hb.free k,fun k hk=>?_⟩
 rw [hc k (by simpa using hk)]
 simp [List.getD,hk]
theorem JZ.root (Z:JZ w0 h O w ps pc lb tb sv ev A cd rt s f b vb sp rv qv rg wt lo lc L) {g o cap k:Nat} {x:Int} (e:h.ro=.slice (some ⟨g,o,none⟩) rt.length cap) (hk:k<rt.length) :
  JZ w0 h O (w.setCell ⟨g,o+k,none⟩ (.int .i64 x)) ps pc lb tb sv ev A cd (rt.set k x) s f b vb sp rv qv rg wt lo lc L:=by
 have hown:ownB h.ro g:=by rw [e];rfl
 obtain ⟨_,l,hb⟩:=Z.hr.own hown
 have kk:Keeps (·=g) w (w.setCell ⟨g,o+k,none⟩ (.int .i64 x)):=(Keeps.refl (·=g) w).setCell (p:=⟨g,o+k,none⟩) (.inl rfl) _
 have ne:∀ {b:Nat} {c:List Value} {T:TypeId},Blk w b c T→T≠2→¬ b=g:=fun hb' h1=>hb'.ne hb h1
 have gg:h.g≠g:=fun e=>Z.ap (e ▸ hown)
 have sl:∀ {v:Value} {n:Nat} {xs:List Value},Sl w 3 1 v n xs→∀ b,ownB v b→¬ b=g:=fun hs b hb'=>by obtain ⟨_,l',h'⟩:=hs.own hb';exact ne h' (by decide)
 have J':JAt (w.setCell ⟨g,o+k,none⟩ (.int .i64 x)) ⟨h.p,h.pa,h.g,h.pc,ps,h.ro,pc,lb,tb⟩ sv ev A s f:=by
  refine ⟨kk.blk Z.J.hp (ne Z.J.hp (by decide)),Z.J.ha.keep kk (ne Z.J.ha.hp (by decide)) gg,kk.blk Z.J.hc (ne Z.J.hc (by decide)),kk.blk Z.J.hl (ne Z.J.hl (by decide)),kk.blk Z.J.ht (ne Z.J.ht (by decide)),Z.J.hs.keep kk (sl Z.J.hs),Z.J.he.keep kk (sl Z.J.he),Z.J.ap,Z.J.at_⟩
 have hs:=Z.hr
 rw [e] at hs
 have hset:=hs.set (j:=k) (u:=.int .i64 x) (by omega)
 refine ⟨J',Z.hc.keep kk (ne Z.hc.hp (by decide)) (ne Z.hc.hq (by decide)),by rw [e,List.length_set,List.map_set];exact hset,Z.K.trans (kk.mono (fun k _ hk=>by rw [hk];exact .inr (.inr (.inr (.inr hown))))),Z.S.keep kk (fun b hb'=>?_),Z.so,kk.blk Z.B (ne Z.B (by decide)),kk.blk Z.V (ne Z.V (by decide)),Z.L.keep kk (sl Z.L),Z.ap⟩
 obtain ⟨_,U,h',hU⟩:=Z.S.fp_type hb'
 exact ne h' (by rcases hU with rfl | rfl <;> decide)
theorem JZ.side {rg' wt':List (Int × Int)} {g:Nat} (Z:JZ w0 h O w ps pc lb tb sv ev A cd rt s f b vb sp rv qv rg wt lo lc L) (hg:SideFp sp rv qv g) {cg:List Value} (hbg:Blk w g cg 100) (kk:Keeps (·=g) w w') (S':SideAt w' sp rv qv rg' wt') :
  JZ w0 h O w' ps pc lb tb sv ev A cd rt s f b vb sp rv qv rg' wt' lo lc L:=by
 have ne:∀ {b:Nat} {c:List Value} {T:TypeId},Blk w b c T→T≠100→¬ b=g:=fun hb' h1=>hb'.ne hbg h1
 have sl:∀ {v:Value} {n:Nat} {xs:List Value} {T:TypeId},Sl w T 1 v n xs→T≠100→∀ b,ownB v b→¬ b=g:=fun hs hT b hb'=>by obtain ⟨_,l',h'⟩:=hs.own hb';exact ne h' hT
 refine ⟨Z.J.keep kk (fun b hb e=>?_),Z.hc.keep kk (ne Z.hc.hp (by decide)) (ne Z.hc.hq (by decide)),Z.hr.keep kk (sl Z.hr (by decide)),Z.K.then kk (fun k hk=>?_),S',Z.so,kk.blk Z.B (ne Z.B (by decide)),kk.blk Z.V (ne Z.V (by decide)),Z.L.keep kk (sl Z.L (by decide)),Z.ap⟩
 ·exact Z.J.side_apart Z.S hb (e ▸ hg)
 ·rw [hk]
  rcases Z.so g hg with (h1 | h1 | h1) | h1
  ·exact .inl (.inl h1)
  ·exact .inl (.inr (.inl (.inl h1)))
  ·exact .inl (.inr (.inl (.inr h1)))
  ·exact .inr h1
theorem JZ.take (Z:JZ w0 h O w ps pc lb tb sv ev A cd rt s f b vb sp rv qv rg wt lo lc L):JZ w0 h O (w.setCell ⟨h.p,2,none⟩ (.pointer (some ⟨sp,0,none⟩))) sp pc lb tb sv ev A cd rt s f b vb sp rv qv rg wt lo lc L:=by
 have kk:Keeps (·=h.p) w (w.setCell ⟨h.p,2,none⟩ (.pointer (some ⟨sp,0,none⟩))):=(Keeps.refl (·=h.p) w).setCell (p:=⟨h.p,2,none⟩) (.inl rfl) _
 have ne:∀ {b:Nat} {c:List Value} {T:TypeId},Blk w b c T→T≠43→¬ b=h.p:=fun hb' h1=>hb'.ne Z.J.hp h1
 have sl:∀ {v:Value} {n:Nat} {xs:List Value} {T:TypeId},Sl w T 1 v n xs→T≠43→∀ b,ownB v b→¬ b=h.p:=fun hs hT b hb'=>by obtain ⟨_,l',h'⟩:=hs.own hb';exact ne h' hT
 have hp:Blk (w.setCell ⟨h.p,2,none⟩ (.pointer (some ⟨sp,0,none⟩))) h.p [.pointer (some ⟨h.pa,0,none⟩), .pointer (some ⟨h.pc,0,none⟩), .pointer (some ⟨sp,0,none⟩),h.ro] 43:=by simpa using Z.J.hp.setSame 2 (.pointer (some ⟨sp,0,none⟩))
 refine ⟨⟨hp,Z.J.ha.keep kk (ne Z.J.ha.hp (by decide)) (ne Z.J.ha.hg (by decide)),kk.blk Z.J.hc (ne Z.J.hc (by decide)),kk.blk Z.J.hl (ne Z.J.hl (by decide)),kk.blk Z.J.ht (ne Z.J.ht (by decide)),Z.J.hs.keep kk (sl Z.J.hs (by decide)),Z.J.he.keep kk (sl Z.J.he (by decide)),Z.J.ap,Z.J.at_⟩,
  Z.hc.keep kk (ne Z.hc.hp (by decide)) (ne Z.hc.hq (by decide)),Z.hr.keep kk (sl Z.hr (by decide)),Z.K.trans (kk.mono (fun k _ hk=>.inl hk)),Z.S.keep kk (fun b hb'=>?_),Z.so,kk.blk Z.B (ne Z.B (by decide)),kk.blk Z.V (ne Z.V (by decide)),Z.L.keep kk (sl Z.L (by decide)),Z.ap⟩
 obtain ⟨_,U,h',hU⟩:=Z.S.fp_type hb'
 exact ne h' (by rcases hU with rfl | rfl <;> decide)
theorem JZ.cards {cd':List Bool} (Z:JZ w0 h O w ps pc lb tb sv ev A cd rt s f b vb sp rv qv rg wt lo lc L) (hcb:h.cb≠lb) (t:CardsAt w' h.pc h.cb O.ar.nur cd') (kk:Keeps (·=h.cb) w w'):JZ w0 h O w' ps pc lb tb sv ev A cd' rt s f b vb sp rv qv rg wt lo lc L:=by
 have ne:∀ {b:Nat} {c:List Value} {T:TypeId},Blk w b c T→T≠4→¬ b=h.cb:=fun hb' h1=>hb'.ne Z.hc.hq h1
 have sl:∀ {v:Value} {n:Nat} {xs:List Value} {T:TypeId},Sl w T 1 v n xs→T≠4→∀ b,ownB v b→¬ b=h.cb:=fun hs hT b hb'=>by obtain ⟨_,l',h'⟩:=hs.own hb';exact ne h' hT
 refine ⟨⟨kk.blk Z.J.hp (ne Z.J.hp (by decide)),Z.J.ha.keep kk (ne Z.J.ha.hp (by decide)) (ne Z.J.ha.hg (by decide)),kk.blk Z.J.hc (ne Z.J.hc (by decide)),kk.blk Z.J.hl (Ne.symm hcb),kk.blk Z.J.ht (ne Z.J.ht (by decide)),Z.J.hs.keep kk (sl Z.J.hs (by decide)),Z.J.he.keep kk (sl Z.J.he (by decide)),Z.J.ap,Z.J.at_⟩,
  t,Z.hr.keep kk (sl Z.hr (by decide)),Z.K.trans (kk.mono (fun k _ hk=>.inr (.inr (.inl (.inr hk))))),Z.S.keep kk (fun b hb'=>?_),Z.so,kk.blk Z.B (ne Z.B (by decide)),kk.blk Z.V (ne Z.V (by decide)),Z.L.keep kk (sl Z.L (by decide)),Z.ap⟩
 obtain ⟨_,U,h',hU⟩:=Z.S.fp_type hb'
 exact ne h' (by rcases hU with rfl | rfl <;> decide)
theorem JZ.done (Z:JZ w0 h O w sp pc lb tb sv ev A cd rt s f b vb sp rv qv rg wt lo lc L) (hn:O.ar.nur=A.nur) (hok:(Wo.mk A cd rt rg wt).ok):WoodTo w0 h w ⟨A,cd,rt,rg,wt⟩:=by
 refine ⟨⟨h.p,h.pa,h.g,h.pc,h.cb,sp,rv,qv,h.ro⟩,⟨Z.J.hp,Z.J.ha,by dsimp only;rw [←hn];exact Z.hc,Z.S,Z.hr,Z.ap,hok⟩,rfl,Z.K,?_⟩
 rintro k (hk | hk | hk | hk | hk)
 ·exact .inl (.inl hk)
 ·exact .inl (.inr (.inl hk))
 ·exact .inl (.inr (.inr (.inl hk)))
 ·rcases Z.so k hk with (h1 | h1 | h1) | h1
  ·exact .inl (.inl h1)
  ·exact .inl (.inr (.inl (.inl h1)))
  ·exact .inl (.inr (.inl (.inr h1)))
  ·exact .inr h1
 ·exact .inl (.inr (.inr (.inr (.inr hk))))
theorem JZ.cells (Z:JZ w0 h O w ps pc lb tb sv ev A cd rt s f b vb sp rv qv rg wt lo lc L):w.cell? ⟨h.p,0,none⟩=some (.pointer (some ⟨h.pa,0,none⟩))∧w.cell? ⟨h.p,1,none⟩=some (.pointer (some ⟨h.pc,0,none⟩))∧w.cell? ⟨h.p,2,none⟩=some (.pointer (some ⟨ps,0,none⟩))∧w.cell? ⟨h.p,3,none⟩=some h.ro∧h.p<w.heap.size∧w.frozen? ⟨h.p,2,none⟩=false:=
 ⟨Z.J.hp.cell 0,Z.J.hp.cell 1,Z.J.hp.cell 2,Z.J.hp.cell 3,Z.J.hp.lt,Z.J.hp.free 2⟩
end
end
end
end Go.Proofs.Ytjifdalflepcoac
