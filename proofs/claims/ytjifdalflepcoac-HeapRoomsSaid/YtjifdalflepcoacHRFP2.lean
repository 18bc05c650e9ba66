/-
  Parts of the proof, merged: what the functions do, and plain laws.
-/
import Derived.Test.YtjifdalflepcoacHRFP1
import Derived.Test.YtjifdalflepcoacHRFP0
import Derived.Laws.CopyRow
import Derived.Deep.DeepCutAuto
import Derived.Outline
import Derived.Test.YtjifdalflepcoacProg
import Derived.Maps.Own
import Derived.Maps.OwnSet
import Derived.Deep.CutBlock
set_option maxHeartbeats 16000000
set_option maxRecDepth 100000
set_option linter.unusedVariables false
set_option linter.unusedSimpArgs false
namespace Go.Proofs.Ytjifdalflepcoac
section
open Go.RowKit
structure ArenaAt (w:World) (p g:Nat) (A:Ar):Prop where
 hp:Blk w p [.slice (some ⟨g,0,none⟩) A.ws.length A.ws.length, .int .i64 A.nur, .int .i64 A.yng, .int .i64 A.grn] 70
 hg:Blk w g (A.ws.map (Value.int .i64)) 2
 ok:A.ok
theorem ArenaAt.ne {w:World} {p g:Nat} {A:Ar} (h:ArenaAt w p g A):p≠g:=h.hp.ne h.hg (by decide)
theorem ArenaAt.keep {w w':World} {p g:Nat} {A:Ar} {S:Nat→Prop} (h:ArenaAt w p g A) (k:Keeps S w w') (h1:¬ S p) (h2:¬ S g):ArenaAt w' p g A:=
 ⟨k.blk h.hp h1,k.blk h.hg h2,h.ok⟩
theorem ArenaAt.cells {w:World} {p g:Nat} {A:Ar} (h:ArenaAt w p g A) :
  w.cell? ⟨p,0,none⟩=some (.slice (some ⟨g,0,none⟩) A.ws.length A.ws.length)∧w.cell? ⟨p,1,none⟩=some (.int .i64 A.nur)∧w.cell? ⟨p,2,none⟩=some (.int .i64 A.yng)∧w.cell? ⟨p,3,none⟩=some (.int .i64 A.grn):=
 ⟨h.hp.cell 0,h.hp.cell 1,h.hp.cell 2,h.hp.cell 3⟩
theorem ArenaAt.word {w:World} {p g:Nat} {A:Ar} (h:ArenaAt w p g A) (i:Nat) (hi:i<A.ws.length):w.cell? ⟨g,i,none⟩=some (.int .i64 (A.ws.getD i 0)):=by
 rw [h.hg.cell i,List.getElem?_map,List.getElem?_eq_getElem hi]
 simp [List.getD,hi]
structure ArenaTo (w:World) (p g:Nat) (w':World) (A:Ar):Prop where
 at_:ArenaAt w' p g A
 k:Keeps (fun b=>b=p∨b=g) w w'
section
variable {p g:Nat} {A:Ar}
theorem Young_c (i:Int) (w:World) (h:ArenaAt w p g A) :
  Calls Try.prog 52 #[.pointer (some ⟨p,0,none⟩), .int .i64 i] w fun e w'=>e=.returned (.bool (A.young i))∧w=w':=by
 obtain ⟨c0,c1,c2,c3⟩:=h.cells
 have pl:=h.hp.lt
 have HY:Hid (A.young i=(decide (0≤i) && decide (i<A.yng))):=rfl
 clear h c0 c1 c3
 by_cases hi:0≤i
 ·have hd:decide (0≤i)=true:=by simpa using hi
  have HX:=Hz (show A.young i=decide (i<(A.yng:Int)) by rw [HY.out,hd];rfl)
  clear HY
  go_enter Try.func52,Try.ntmps52
  go_wp2_with fail
  go_ret
  exact ⟨ret_bool HX.out.symm,rfl⟩
 ·have hd:decide (0≤i)=false:=by simpa using hi
  have HX:=Hz (show A.young i=false by rw [HY.out,hd];rfl)
  clear HY
  go_enter Try.func52,Try.ntmps52
  go_wp2_with fail
  go_ret
  exact ⟨ret_bool HX.out.symm,rfl⟩
theorem Old_c (i:Int) (w:World) (h:ArenaAt w p g A) :
  Calls Try.prog 53 #[.pointer (some ⟨p,0,none⟩), .int .i64 i] w fun e w'=>e=.returned (.bool (A.old i))∧w=w':=by
 obtain ⟨c0,c1,c2,c3⟩:=h.cells
 have pl:=h.hp.lt
 have HY:Hid (A.old i=(decide ((A.nur:Int)≤i) && decide (i<A.grn))):=rfl
 clear h c0 c2
 by_cases hi:(A.nur:Int)≤i
 ·have hd:decide ((A.nur:Int)≤i)=true:=by simpa using hi
  have HX:=Hz (show A.old i=decide (i<(A.grn:Int)) by rw [HY.out,hd];rfl)
  clear HY
  go_enter Try.func53,Try.ntmps53
  go_wp2_with fail
  go_ret
  exact ⟨ret_bool HX.out.symm,rfl⟩
 ·have hd:decide ((A.nur:Int)≤i)=false:=by simpa using hi
  have HX:=Hz (show A.old i=false by rw [HY.out,hd];rfl)
  clear HY
  go_enter Try.func53,Try.ntmps53
  go_wp2_with fail
  go_ret
  exact ⟨ret_bool HX.out.symm,rfl⟩
theorem Used_c (w:World) (h:ArenaAt w p g A) :
  Calls Try.prog 14 #[.pointer (some ⟨p,0,none⟩)] w fun e w'=>e=.returned (.tuple #[.int .i64 A.yng, .int .i64 ((A.grn-A.nur:Nat):Int)])∧Keeps (fun _=>False) w w':=by
 obtain ⟨c0,c1,c2,c3⟩:=h.cells
 have pl:=h.hp.lt
 have o1:=h.ok.h1;have o2:=h.ok.h2;have o3:=h.ok.h3;have o4:=h.ok.h4
 have hs:IntKind.i64.wrap ((A.grn:Int)-A.nur)=(A.grn:Int)-A.nur:=IntWalk.i64_in _ (by omega)
 go_enter Try.func14,Try.ntmps14
 go_wp2_with fail
 refine wp_region_ro (.free 0 (.free 1 (.free 2 (.free 4 (.free 5 (.free 6 (.free 8 (.free 9 (.free 10 (.pure 3 (.free 13 (.pure 7 (.pure 11 (.free 12 (.free 14 (.fin)))))))))))))))) [] (fun w'=>w'.cell? ⟨p,1,none⟩=some (.int .i64 A.nur)∧w'.cell? ⟨p,2,none⟩=some (.int .i64 A.yng)∧w'.cell? ⟨p,3,none⟩=some (.int .i64 A.grn)) (by kernel_rfl) (by kernel_rfl) ⟨c1,c2,c3⟩ ?_
 iterate 15 first | (refine wpRO_free rfl rfl _ (fun w'=>by go_simp;exact Gives.mk _ _) (fun K hK=>?_);go_simp;refine hK _ ?_;clear hK K) | (refine wpRO_skipF rfl rfl (fun K hK=>?_);go_simp;refine hK _ ?_;clear hK K) | (refine wpRO_pure rfl rfl _ (fun w' hG=>by obtain ⟨g0,g1,g2⟩:=hG;exact gives_agg2 rfl (by decide +kernel) rfl (by assumption) (by assumption)) (fun K hK=>?_);go_simp;refine hK _ ?_;clear hK K) | (refine wpRO_pure rfl rfl _ (fun w' hG=>by obtain ⟨g0,g1,g2⟩:=hG;go_simp;exact Gives.mk _ _) (fun K hK=>?_);go_simp;refine hK _ ?_;clear hK K) | (refine wpRO_skip rfl rfl (fun K hK=>?_);go_simp;refine hK _ ?_;clear hK K)
 refine wpRO_fin ?_
 go_wp2_with fail
 go_ret2
 exact ⟨ret_two rfl (by omega),(Keeps.refl _ _).drew⟩
theorem Free_c (w:World) (h:ArenaAt w p g A) :
  Calls Try.prog 56 #[.pointer (some ⟨p,0,none⟩)] w fun e w'=>e=.returned (.tuple #[.int .i64 ((A.nur-A.yng:Nat):Int), .int .i64 ((A.ws.length-A.grn:Nat):Int)])∧Keeps (fun _=>False) w w':=by
 obtain ⟨c0,c1,c2,c3⟩:=h.cells
 have pl:=h.hp.lt
 have o1:=h.ok.h1;have o2:=h.ok.h2;have o3:=h.ok.h3;have o4:=h.ok.h4
 have hs:IntKind.i64.wrap ((A.nur:Int)-A.yng)=(A.nur:Int)-A.yng:=IntWalk.i64_in _ (by omega)
 have hs2:IntKind.i64.wrap ((A.ws.length:Int)-A.grn)=(A.ws.length:Int)-A.grn:=IntWalk.i64_in _ (by omega)
 go_enter Try.func56,Try.ntmps56
 go_wp2_with fail
 refine wp_region_ro (.free 0 (.free 1 (.free 2 (.free 4 (.free 5 (.free 6 (.free 9 (.free 10 (.free 11 (.free 14 (.free 15 (.free 16 (.pure 3 (.pure 7 (.free 8 (.free 19 (.pure 12 (.free 13 (.pure 17 (.free 18 (.free 20 (.fin)))))))))))))))))))))) [] (fun w'=>w'.cell? ⟨p,0,none⟩=some (.slice (some ⟨g,0,none⟩) A.ws.length A.ws.length)∧w'.cell? ⟨p,1,none⟩=some (.int .i64 A.nur)∧w'.cell? ⟨p,2,none⟩=some (.int .i64 A.yng)∧w'.cell? ⟨p,3,none⟩=some (.int .i64 A.grn)) (by kernel_rfl) (by kernel_rfl) ⟨c0,c1,c2,c3⟩ ?_
 iterate 21 first | (refine wpRO_free rfl rfl _ (fun w'=>by go_simp;exact Gives.mk _ _) (fun K hK=>?_);go_simp;refine hK _ ?_;clear hK K) | (refine wpRO_skipF rfl rfl (fun K hK=>?_);go_simp;refine hK _ ?_;clear hK K) | (refine wpRO_pure rfl rfl _ (fun w' hG=>by obtain ⟨g0,g1,g2,g3⟩:=hG;exact gives_agg2 rfl (by decide +kernel) rfl (by assumption) (by assumption)) (fun K hK=>?_);go_simp;refine hK _ ?_;clear hK K) | (refine wpRO_pure rfl rfl _ (fun w' hG=>by obtain ⟨g0,g1,g2,g3⟩:=hG;go_simp;exact Gives.mk _ _) (fun K hK=>?_);go_simp;refine hK _ ?_;clear hK K) | (refine wpRO_skip rfl rfl (fun K hK=>?_);go_simp;refine hK _ ?_;clear hK K)
 refine wpRO_fin ?_
 go_wp2_with fail
 go_ret2
 exact ⟨ret_two (by omega) (by omega),(Keeps.refl _ _).drew⟩
theorem Load_c (i:Int) (w:World) (h:ArenaAt w p g A) :
  Calls Try.prog 51 #[.pointer (some ⟨p,0,none⟩), .int .i64 i] w fun e w'=>e=.returned (.int .i64 (A.load i))∧w=w':=by
 have H:=Hz h
 obtain ⟨c0,-,-,-⟩:=h.cells
 have pl:=h.hp.lt
 have hok:=h.ok
 cases hy:A.young i
 ·cases ho:A.old i
  ·have HX:=Hz (show A.load i=0 by unfold Ar.load Ar.inUse;rw [hy,ho];rfl)
   clear h c0
   go_enter Try.func51,Try.ntmps51
   go_wp2_with fail
   refine (Young_c i _ H.out).mono ?_
   rintro e w1 ⟨rfl,rfl⟩
   rw [hy]
   go_wp2_with fail
   refine (Old_c i _ H.out).mono ?_
   rintro e w1 ⟨rfl,rfl⟩
   rw [ho]
   go_wp2_with fail
   go_ret
   exact ⟨ret_int HX.out.symm,rfl⟩
  ·have hlt:=h.ok.old_lt ho
   have HX:=Hz (show A.load i=A.ws.getD i.toNat 0 by unfold Ar.load Ar.inUse;rw [hy,ho];rfl)
   obtain ⟨n,rfl⟩:∃ n:Nat,i=n:=⟨i.toNat,by omega⟩
   have c4:=h.word n (by omega)
   have hlt2:(n:Int)<A.ws.length:=hlt.2
   clear h hlt
   go_enter Try.func51,Try.ntmps51
   go_wp2_with fail
   refine (Young_c n _ H.out).mono ?_
   rintro e w1 ⟨rfl,rfl⟩
   rw [hy]
   go_wp2_with fail
   refine (Old_c n _ H.out).mono ?_
   rintro e w1 ⟨rfl,rfl⟩
   rw [ho]
   go_wp2_with fail
   go_ret
   exact ⟨ret_int (by rw [HX.out];simp),rfl⟩
 ·have hlt:=h.ok.young_lt hy
  have HX:=Hz (show A.load i=A.ws.getD i.toNat 0 by unfold Ar.load Ar.inUse;rw [hy];rfl)
  obtain ⟨n,rfl⟩:∃ n:Nat,i=n:=⟨i.toNat,by omega⟩
  have c4:=h.word n (by omega)
  have hlt2:(n:Int)<A.ws.length:=hlt.2
  clear h hlt
  go_enter Try.func51,Try.ntmps51
  go_wp2_with fail
  refine (Young_c n _ H.out).mono ?_
  rintro e w1 ⟨rfl,rfl⟩
  rw [hy]
  go_wp2_with fail
  go_ret
  exact ⟨ret_int (by rw [HX.out];simp),rfl⟩
theorem ArenaAt.set {w:World} (h:ArenaAt w p g A) {n:Nat} (x:Int) (hx:R64 x) (hu:A.inUse n=true):ArenaTo w p g (w.setCell ⟨g,n,none⟩ (.int .i64 x)) (A.store n x):=by
 have hs:A.store n x={ A with ws:=A.ws.set n x }:=by unfold Ar.store;rw [hu];simp
 refine ⟨⟨?_,?_,h.ok.store _ _ hx⟩,(Keeps.refl _ _).setCell (.inl (.inr rfl)) _⟩
 ·have:=h.hp.setOther (a:=⟨g,n,none⟩) h.ne (.int .i64 x)
  rw [hs];simpa using this
 ·have:=h.hg.setSame n (.int .i64 x)
  rw [hs,List.map_set];exact this
theorem Store_c (i x:Int) (w:World) (h:ArenaAt w p g A) (hx:R64 x) :
  Calls Try.prog 44 #[.pointer (some ⟨p,0,none⟩), .int .i64 i, .int .i64 x] w fun e w'=>e=.returned (.bool (A.inUse i))∧ArenaTo w p g w' (A.store i x):=by
 have H:=Hz h
 obtain ⟨c0,-,-,-⟩:=h.cells
 have pl:=h.hp.lt
 have HX:=Hz hx;clear hx
 cases hu:A.inUse i
 ·have hyo:=hu
  unfold Ar.inUse at hyo
  rw [Bool.or_eq_false_iff] at hyo
  obtain ⟨hy,ho⟩:=hyo
  have HE:=Hz (show A.store i x=A by unfold Ar.store;rw [hu];rfl)
  clear h hu
  go_enter Try.func44,Try.ntmps44
  go_wp2_with fail
  refine (Young_c i _ H.out).mono ?_
  rintro e w1 ⟨rfl,rfl⟩
  rw [hy]
  go_wp2_with fail
  refine (Old_c i _ H.out).mono ?_
  rintro e w1 ⟨rfl,rfl⟩
  rw [ho]
  go_wp2_with fail
  go_ret
  exact ⟨rfl,by rw [HE.out];exact H.out,Keeps.refl _ _⟩
 ·have hlt:=h.ok.use_lt hu
  have HU:=Hz hu
  obtain ⟨n,rfl⟩:∃ n:Nat,i=n:=⟨i.toNat,by omega⟩
  have c4:=h.word n (by omega)
  have f4:=h.hg.free n
  have hlt2:(n:Int)<A.ws.length:=hlt.2
  clear h hlt
  cases hy:A.young n
  ·have ho:A.old n=true:=by
    unfold Ar.inUse at hu;rw [hy] at hu;simpa using hu
   clear hu
   go_enter Try.func44,Try.ntmps44
   go_wp2_with fail
   refine (Young_c n _ H.out).mono ?_
   rintro e w1 ⟨rfl,rfl⟩
   rw [hy]
   go_wp2_with fail
   refine (Old_c n _ H.out).mono ?_
   rintro e w1 ⟨rfl,rfl⟩
   rw [ho]
   go_wp2_with fail
   go_ret
   exact ⟨rfl,H.out.set x HX.out HU.out⟩
  ·clear hu
   go_enter Try.func44,Try.ntmps44
   go_wp2_with fail
   refine (Young_c n _ H.out).mono ?_
   rintro e w1 ⟨rfl,rfl⟩
   rw [hy]
   go_wp2_with fail
   go_ret
   exact ⟨rfl,H.out.set x HX.out HU.out⟩
theorem Thing_c (i:Int) (w:World) (h:ArenaAt w p g A) :
  Calls Try.prog 81 #[.pointer (some ⟨p,0,none⟩), .int .i64 i] w fun e w'=>e=.returned (.tuple #[.int .i64 (A.thing i).1, .int .i64 (A.thing i).2.1, .int .i64 (A.thing i).2.2])∧w=w':=by
 go_enter Try.func81,Try.ntmps81
 go_wp2_with fail
 refine (Load_c i _ h).mono ?_
 rintro e w1 ⟨rfl,rfl⟩
 have hr:=h.ok.load i
 go_wp2_with fail
 refine (Parts_c (A.load i) _ hr.1 hr.2).mono ?_
 rintro e w1 ⟨rfl,rfl⟩
 go_wp2_with fail
 go_ret3
 exact ⟨rfl,rfl⟩
theorem AClear_c (w:World) (h:ArenaAt w p g A) :
  Calls Try.prog 68 #[.pointer (some ⟨p,0,none⟩)] w fun e w'=>e=.returned (.tuple #[])∧ArenaTo w p g w' A.clear:=by
 have H:=Hz h
 obtain ⟨-,-,c2,-⟩:=h.cells
 have f2:=h.hp.free 2
 have pl:=h.hp.lt
 clear h
 go_enter Try.func68,Try.ntmps68
 go_wp2_with fail
 go_end0
 refine ⟨rfl,⟨?_,?_,H.out.ok.clear⟩,(Keeps.refl _ _).setCell (.inl (.inl rfl)) _⟩
 ·simpa [Ar.clear] using H.out.hp.setSame 2 (.int .i64 0)
 ·exact H.out.hg.setOther (a:=⟨p,2,none⟩) (Ne.symm H.out.ne) _
theorem ACut_c (n:Nat) (w:World) (h:ArenaAt w p g A) (hn:A.nur+n≤A.ws.length) :
  Calls Try.prog 83 #[.pointer (some ⟨p,0,none⟩), .int .i64 n] w fun e w'=>e=.returned (.tuple #[])∧ArenaTo w p g w' (A.cut n):=by
 have H:=Hz h
 obtain ⟨-,c1,-,c3⟩:=h.cells
 have f3:=h.hp.free 3
 have pl:=h.hp.lt
 have o4:=h.ok.h4
 clear h
 go_enter Try.func83,Try.ntmps83
 go_wp2_with fail
 go_end0
 refine ⟨rfl,⟨?_,?_,H.out.ok.cut hn⟩,(Keeps.refl _ _).setCell (.inl (.inl rfl)) _⟩
 ·simpa [Ar.cut] using H.out.hp.setSame 3 (.int .i64 ((A.nur:Int)+n))
 ·exact H.out.hg.setOther (a:=⟨p,3,none⟩) (Ne.symm H.out.ne) _
end
end
section
open Go.RowKit
theorem gRun_copy {P:Program} {w:World} {o:Oper} {a:Act} {K:Act→World→Prop} (d s:Operand) (t:TypeId)
  (ho:o.op=.call { callee:=.builtin .copy,args:=#[d,s],argTypes:=#[t,t] })
  (e:TypeId) (hu:P.underlying t=some (.slice e)) (hsz:(P.info? e).map (·.size)=some 1)
  (g off dLen dCap:Nat) (ad:Addr) (sLen sCap:Nat) (hd:a.eval d=.slice (some ⟨g,off,none⟩) dLen dCap) (hs:a.eval s=.slice (some ad) sLen sCap)
  (cur:List Value) (hb:Blk w g cur e) (cs:List Value) (hn:cs.length=Nat.min sLen dLen)
  (hsrc:∀ j v,cs[j]? = some v→w.cell? (ad.add j)=some v) (hfit:off+cs.length≤cur.length) (h1:∀ v ∈ cs,v.oneCell'=true)
  (h:K (a.put o.dst (goInt cs.length)) (w.setRow g (cur.take off ++ cs ++ cur.drop (off+cs.length)).toArray)):gRun P o a w K:=by
 have hrun:=run_copy_row (P:=P) w t t o.type e g off dLen dCap ad sLen sCap cur.toArray e cs hu hsz hb hn hsrc (by simpa using hfit) h1
 unfold gRun execOp
 simp only [ho,resolve,invoke,builtin,Sem.run_bind,Sem.run_pure,Result.andThen_ok,List.map_toArray,List.map_cons,List.map_nil,hd,hs,hrun]
 exact h
theorem lay_map {l m:List Int} {i:Nat} (f:Int→Value):(lay l i m).map f=(l.map f).take i ++ m.map f ++ (l.map f).drop (i+(m.map f).length):=by
 unfold lay;simp [List.map_take,List.map_drop]
theorem lay_set {l:List Int} {i j:Nat} {h:Int} (hl:i+1+j<l.length):(lay l i (h :: List.replicate j 2)).set (i+1+j) 2=lay l i (h :: List.replicate (j+1) 2):=by
 apply List.ext_getElem?
 intro k
 have e1:(h :: List.replicate j (2:Int)).length=j+1:=by simp
 have e2:(h :: List.replicate (j+1) (2:Int)).length=j+2:=by simp
 have hl1:(lay l i (h :: List.replicate j 2)).length=l.length:=lay_length (by rw [e1];omega)
 rw [List.getElem?_set,lay_get (by rw [e1];omega),lay_get (by rw [e2];omega),e1,e2,hl1]
 by_cases hk:i+1+j=k
 ·subst hk
  rw [if_pos rfl,if_pos hl,if_pos (by omega)]
  rw [show i+1+j-i=j+1 by omega,List.getElem?_cons_succ,List.getElem?_replicate,if_pos (by omega)]
 ·rw [if_neg hk]
  by_cases h2:i≤k∧k<i+(j+1)
  ·rw [if_pos h2,if_pos (by omega)]
   obtain ⟨m,rfl⟩:∃ m,k=i+m:=⟨k-i,by omega⟩
   rw [show i+m-i=m by omega]
   cases m with
   | zero=>rfl
   | succ m=>rw [List.getElem?_cons_succ,List.getElem?_cons_succ,List.getElem?_replicate,List.getElem?_replicate,if_pos (by omega),if_pos (by omega)]
  ·rw [if_neg h2,if_neg (by omega)]
theorem lay_one {l:List Int} {i:Nat} {h:Int} (hl:i<l.length):l.set i h=lay l i [h]:=by
 unfold lay
 rw [List.set_eq_take_append_cons_drop,if_pos hl]
 simp
theorem Keeps.self {S:Nat→Prop} {w w':World} (h:Keeps (fun _=>False) w w'):Keeps S w w':=h.mono fun _ _ h=>h.elim
section
variable {p g:Nat} {A:Ar}
theorem ArenaTo.refl {w w':World} (h:ArenaAt w p g A) (k:Keeps (fun _=>False) w w'):ArenaTo w p g w' A:=⟨h.keep k (fun h=>h) (fun h=>h),k.self⟩
theorem ArenaTo.trans {w w1 w2:World} {B C:Ar} (h:ArenaTo w p g w1 B) (k:ArenaTo w1 p g w2 C):ArenaTo w p g w2 C:=⟨k.at_,h.k.trans k.k⟩
theorem takeY_c (n:Int) (w:World) (h:ArenaAt w p g A) (h0:0≤n) (h1:n≤1000) :
  Calls Try.prog 108 #[.pointer (some ⟨p,0,none⟩), .int .i64 n, .bool false] w fun e w'=>e=.returned (.int .i64 (A.takeY n).1)∧ArenaTo w p g w' (A.takeY n).2:=by
 have H:=Hz h
 have o1:=h.ok.h1;have o2:=h.ok.h2;have o3:=h.ok.h3;have o4:=h.ok.h4
 have hn:decide ((0:Int)≤n)=true:=by simpa using h0
 clear h
 by_cases hc:n≤((A.nur-A.yng:Nat):Int)
 ·have hcb:decide (n≤((A.nur-A.yng:Nat):Int))=true:=by simpa using hc
  have HE:=Hz (show A.takeY n=((A.yng:Int), { A with yng:=A.yng+n.toNat }) from if_pos ⟨h0,by omega⟩)
  go_enter Try.func108,Try.ntmps108
  go_wp2_with fail
  refine (Free_c _ H.out).mono ?_
  rintro e w1 ⟨rfl,hk⟩
  have H1:=Hz (H.out.keep hk (fun h=>h) (fun h=>h));have HK:=Hz hk
  obtain ⟨-,-,c2,-⟩:=H1.out.cells
  have f2:=H1.out.hp.free 2;have pl:=H1.out.hp.lt
  clear hk
  go_wp2_with fail
  go_ret
  refine ⟨by rw [HE.out];exact ret_int (by dsimp only;try omega),?_⟩
  rw [HE.out]
  refine ⟨⟨?_,?_,?_⟩,(HK.out.self).setCell (p:=⟨p,2,none⟩) (.inl (.inl rfl)) _⟩
  ·have:=H1.out.hp.setSame 2 (.int .i64 ((A.yng:Int)+n))
   have e:((A.yng:Int)+n)=((A.yng+n.toNat:Nat):Int):=by omega
   rw [e] at this ⊢
   simpa using this
  ·exact H1.out.hg.setOther (a:=⟨p,2,none⟩) (Ne.symm H.out.ne) _
  ·exact ⟨by show A.yng+n.toNat≤A.nur;omega,o2,o3,o4,H.out.ok.hw⟩
 ·have hcb:decide (n≤((A.nur-A.yng:Nat):Int))=false:=by simpa using hc
  have HE:=Hz (show A.takeY n=(-1,A) from if_neg (by omega))
  go_enter Try.func108,Try.ntmps108
  go_wp2_with fail
  refine (Free_c _ H.out).mono ?_
  rintro e w1 ⟨rfl,hk⟩
  go_wp2_with fail
  go_ret
  refine ⟨by rw [HE.out];rfl,?_⟩
  rw [HE.out]
  exact ArenaTo.refl H.out hk
theorem takeO_c (n:Int) (w:World) (h:ArenaAt w p g A) (h0:0≤n) (h1:n≤1000) :
  Calls Try.prog 108 #[.pointer (some ⟨p,0,none⟩), .int .i64 n, .bool true] w fun e w'=>e=.returned (.int .i64 (A.takeO n).1)∧ArenaTo w p g w' (A.takeO n).2:=by
 have H:=Hz h
 have o1:=h.ok.h1;have o2:=h.ok.h2;have o3:=h.ok.h3;have o4:=h.ok.h4
 have hn:decide ((0:Int)≤n)=true:=by simpa using h0
 clear h
 by_cases hc:n≤((A.ws.length-A.grn:Nat):Int)
 ·have hcb:decide (n≤((A.ws.length-A.grn:Nat):Int))=true:=by simpa using hc
  have HE:=Hz (show A.takeO n=((A.grn:Int), { A with grn:=A.grn+n.toNat }) from if_pos ⟨h0,by omega⟩)
  go_enter Try.func108,Try.ntmps108
  go_wp2_with fail
  refine (Free_c _ H.out).mono ?_
  rintro e w1 ⟨rfl,hk⟩
  have H1:=Hz (H.out.keep hk (fun h=>h) (fun h=>h));have HK:=Hz hk
  obtain ⟨-,-,-,c2⟩:=H1.out.cells
  have f2:=H1.out.hp.free 3;have pl:=H1.out.hp.lt
  clear hk
  go_wp2_with fail
  go_ret
  refine ⟨by rw [HE.out];exact ret_int (by dsimp only;try omega),?_⟩
  rw [HE.out]
  refine ⟨⟨?_,?_,?_⟩,(HK.out.self).setCell (p:=⟨p,3,none⟩) (.inl (.inl rfl)) _⟩
  ·have:=H1.out.hp.setSame 3 (.int .i64 ((A.grn:Int)+n))
   have e:((A.grn:Int)+n)=((A.grn+n.toNat:Nat):Int):=by omega
   rw [e] at this ⊢
   simpa using this
  ·exact H1.out.hg.setOther (a:=⟨p,3,none⟩) (Ne.symm H.out.ne) _
  ·exact ⟨o1,by show A.nur≤A.grn+n.toNat;omega,by show A.grn+n.toNat≤A.ws.length;omega,o4,H.out.ok.hw⟩
 ·have hcb:decide (n≤((A.ws.length-A.grn:Nat):Int))=false:=by simpa using hc
  have HE:=Hz (show A.takeO n=(-1,A) from if_neg (by omega))
  go_enter Try.func108,Try.ntmps108
  go_wp2_with fail
  refine (Free_c _ H.out).mono ?_
  rintro e w1 ⟨rfl,hk⟩
  go_wp2_with fail
  go_ret
  refine ⟨by rw [HE.out];rfl,?_⟩
  rw [HE.out]
  exact ArenaTo.refl H.out hk
theorem make_c (k f:Int) (w:World) (h:ArenaAt w p g A) (hf:R64 f) :
  Calls Try.prog 85 #[.pointer (some ⟨p,0,none⟩), .int .i64 k, .int .i64 f, .bool false] w fun e w'=>e=.returned (.int .i64 (A.make k f).1)∧ArenaTo w p g w' (A.make k f).2:=by
 have H:=Hz h
 have o1:=h.ok.h1;have o2:=h.ok.h2;have o3:=h.ok.h3;have o4:=h.ok.h4
 have HOK:=Hz (h.ok.make k f)
 have HF:=Hz hf
 clear h hf
 cases hfit:fitsW k f
 ·have HE:=Hz (Ar.make_no (A:=A) (k:=k) (f:=f) (by rw [hfit];simp))
  have hcode:=(headW_code hfit).2
  clear hfit
  go_enter Try.func85,Try.ntmps85
  go_wp2_with fail
  refine (Head_c k f _ HF.out.1 HF.out.2).mono ?_
  rintro e w1 ⟨rfl,rfl⟩
  go_wp2_with fail
  go_ret
  rw [HE.out]
  exact ⟨rfl,ArenaTo.refl H.out (Keeps.refl _ _)⟩
 ·have hs:=fitsW_spec hfit
  obtain ⟨n,rfl⟩:∃ n:Nat,f=n:=⟨f.toNat,by omega⟩
  have hn:n≤12:=by omega
  have HH:=Hz (headW_fits hfit)
  by_cases hroom:1+(n:Int)≤(A.nur:Int)-A.yng
  ·have HE:=Hz (show A.make k n=((A.yng:Int), { A with yng:=A.yng+(1+(n:Int)).toNat,ws:=lay A.ws A.yng (thingW k n) }) from if_pos ⟨hfit,hroom⟩)
   have HT:=Hz (show A.takeY (1+(n:Int))=((A.yng:Int), { A with yng:=A.yng+(1+(n:Int)).toNat }) from if_pos ⟨by omega,hroom⟩)
   have hk1:=hs.1;have hk2:=hs.2.1
   clear hfit hs
   go_enter Try.func85,Try.ntmps85
   go_wp2_with fail
   refine (Head_c k n _ HF.out.1 HF.out.2).mono ?_
   rintro e w1 ⟨rfl,rfl⟩
   rw [HH.out]
   go_wp2_with fail
   refine (takeY_c (1+(n:Int)) _ H.out (by omega) (by omega)).mono ?_
   rintro e w2 ⟨rfl,hto⟩
   rw [HT.out] at hto ⊢
   dsimp only at hto ⊢
   have HTO:=Hz hto
   obtain ⟨c0,-,-,-⟩:=hto.at_.cells
   have pl:=hto.at_.hp.lt;have gl:=hto.at_.hg.lt
   have c4:=hto.at_.word A.yng (by dsimp only;omega)
   have f4:=hto.at_.hg.free A.yng
   dsimp only at c0 c4
   have hlt:(A.yng:Int)<A.ws.length:=by omega
   clear hto
   go_wp2_with fail
   have hb0:=HTO.out.at_.hg.setSame A.yng (.int .i64 (16*(n:Int)+k))
   have hp0:=HTO.out.at_.hp.setOther (a:=⟨g,A.yng,none⟩) H.out.ne (.int .i64 (16*(n:Int)+k))
   have hk0:=HTO.out.k.setCell (p:=⟨g,A.yng,none⟩) (.inl (.inr rfl)) (.int .i64 (16*(n:Int)+k))
   dsimp only at hb0 hp0
   rw [←List.map_set,lay_one (by omega)] at hb0
   generalize w2.setCell ⟨g,A.yng,none⟩ (.int .i64 (16*(n:Int)+k))=w3 at *
   have HB0:=Hz hb0;have HP0:=Hz hp0;have HK0:=Hz hk0
   clear hb0 hp0 hk0 c0 c4 f4 HTO
   go_loopw [36] (fun i wr=>∃ j:Nat,j≤n∧i=.int .i64 j∧Blk wr g ((lay A.ws A.yng ((16*(n:Int)+k) :: List.replicate j 2)).map (Value.int .i64)) 2∧Keeps (fun b=>b=g) w3 wr) (fun i _=>n-(intOf i).toNat)
   case atStart=>exact ⟨0,Nat.zero_le _,rfl,HB0.out,Keeps.refl _ _⟩
   case round=>
    obtain ⟨j,hj,rfl,hb,hk⟩:=hrel
    have HB:=Hz hb;have HK:=Hz hk
    have hpr:=hk.blk HP0.out H.out.ne
    have c0:=hpr.cell 0
    have pl:=hpr.lt;have gl:=hb.lt
    simp only [List.getElem?_cons_zero] at c0
    have HPR:=Hz hpr
    by_cases hlt2:j<n
    ·have f4:=hb.free (A.yng+1+j)
     have c4:∃ v,wr.cell? ⟨g,A.yng+1+j,none⟩=some v:=by
      have hl:(lay A.ws A.yng ((16*(n:Int)+k) :: List.replicate j 2)).length=A.ws.length:=lay_length (by simp;omega)
      rw [hb.cell,List.getElem?_map,List.getElem?_eq_getElem (by rw [hl];omega)]
      exact ⟨_,rfl⟩
     obtain ⟨v4,c4⟩:=c4
     have hix:(A.yng:Int)+1+j<A.ws.length:=by omega
     have hw1:IntKind.i64.wrap ((A.yng:Int)+1)=(A.yng:Int)+1:=IntWalk.i64_in _ (by omega)
     have hw2:IntKind.i64.wrap ((A.yng:Int)+1+j)=(A.yng:Int)+1+j:=IntWalk.i64_in _ (by omega)
     have hw3:((A.yng:Int)+1+j).toNat=A.yng+1+j:=by omega
     have hw4:(0:Int)≤(A.yng:Int)+1+j:=by omega
     clear hb hk hpr
     go_wp2_with fail
     refine wp_region_ro (.free 0 (.free 1 (.free 2 (.free 4 (.free 5 (.free 6 (.free 7 (.pure 3 (.run 8 (.free 9 (.run 10 (.swi [] (.fin))))))))))))) [10] (fun w'=>w'.cell? ⟨p,0,none⟩=some (.slice (some ⟨g,0,none⟩) A.ws.length A.ws.length)) (by kernel_rfl) (by kernel_rfl) c0 ?_
     iterate 8 first | (refine wpRO_free rfl rfl _ (fun w'=>by go_simp;exact Gives.mk _ _) (fun K hK=>?_);go_simp;refine hK _ ?_;clear hK K) | (refine wpRO_skipF rfl rfl (fun K hK=>?_);go_simp;refine hK _ ?_;clear hK K) | (refine wpRO_pure rfl rfl _ (fun w' hG=>by obtain g0:=hG;exact gives_agg2 rfl (by decide +kernel) rfl (by assumption) (by assumption)) (fun K hK=>?_);go_simp;refine hK _ ?_;clear hK K) | (refine wpRO_pure rfl rfl _ (fun w' hG=>by obtain g0:=hG;go_simp;exact Gives.mk _ _) (fun K hK=>?_);go_simp;refine hK _ ?_;clear hK K) | (refine wpRO_skip rfl rfl (fun K hK=>?_);go_simp;refine hK _ ?_;clear hK K)
     refine wpRO_run rfl rfl (fun K hK=>?_);unfold gRun;go_simp
     refine (Nil_c _).mono ?_
     rintro e w5 ⟨rfl,rfl⟩
     refine hK _ _ (fun hg=>c0) ?_
     clear hK K
     iterate 1 first | (refine wpRO_free rfl rfl _ (fun w'=>by go_simp;exact Gives.mk _ _) (fun K hK=>?_);go_simp;refine hK _ ?_;clear hK K) | (refine wpRO_skipF rfl rfl (fun K hK=>?_);go_simp;refine hK _ ?_;clear hK K)
     refine wpRO_chg rfl rfl rfl (fun K hK=>?_);unfold gRun;go_simp
     refine hK _ _ ?_
     clear hK K
     refine wpRO_swi (fun _=>True) trivial (wpRO_fin ?_)
     clear hw1 hw2 hw3 hw4
     have hset:=lay_set (l:=A.ws) (i:=A.yng) (j:=j) (h:=16*(n:Int)+k) (by omega)
     have hb2:Blk (wr.setCell ⟨g,A.yng+1+j,none⟩ (.int .i64 2)) g ((lay A.ws A.yng ((16*(n:Int)+k) :: List.replicate (j+1) 2)).map (Value.int .i64)) 2:=by
      rw [←hset,List.map_set];exact HB.out.setSame _ _
     have HB2:=Hz hb2
     have HK2:=Hz (HK.out.setCell (p:=⟨g,A.yng+1+j,none⟩) (.inl rfl) (.int .i64 2))
     clear hset hb2 c0 c4 f4
     go_wp2_with fail
     go_roundw
     case rel=>exact ⟨j+1,by omega,by go_num,HB2.out.drew,HK2.out.drew⟩
     case measure=>simp [intOf];omega
    ·obtain rfl:j=n:=by omega
     clear hb hk hpr
     go_wp2_with fail
     go_ret
     have hok:=HOK.out
     rw [HE.out] at hok ⊢
     have hl:(lay A.ws A.yng (thingW k j)).length=A.ws.length:=lay_length (by rw [thingW_length (by omega)];omega)
     refine ⟨rfl,⟨?_,HB.out,hok⟩,HK0.out.trans (HK.out.mono fun _ _ h=>.inr h)⟩
     have:=HPR.out
     dsimp only
     rw [hl];exact this
  ·have HE:=Hz (Ar.make_no (A:=A) (k:=k) (f:=n) (fun h=>hroom h.2))
   have HT:=Hz (show A.takeY (1+(n:Int))=(-1,A) from if_neg (fun h=>hroom h.2))
   clear hfit hs hroom
   go_enter Try.func85,Try.ntmps85
   go_wp2_with fail
   refine (Head_c k n _ HF.out.1 HF.out.2).mono ?_
   rintro e w1 ⟨rfl,rfl⟩
   rw [HH.out]
   go_wp2_with fail
   refine (takeY_c (1+(n:Int)) _ H.out (by omega) (by omega)).mono ?_
   rintro e w2 ⟨rfl,hto⟩
   rw [HT.out] at hto ⊢
   dsimp only at hto ⊢
   go_wp2_with fail
   go_ret
   rw [HE.out]
   exact ⟨rfl,hto⟩
theorem Make_c (k f:Int) (w:World) (h:ArenaAt w p g A) (hf:R64 f) :
  Calls Try.prog 43 #[.pointer (some ⟨p,0,none⟩), .int .i64 k, .int .i64 f] w fun e w'=>e=.returned (.int .i64 (A.make k f).1)∧ArenaTo w p g w' (A.make k f).2:=by
 go_enter Try.func43,Try.ntmps43
 go_wp2_with fail
 refine (make_c k f _ h hf).mono ?_
 rintro e w1 ⟨rfl,hto⟩
 go_wp2_with fail
 go_ret
 exact ⟨rfl,hto⟩
end
end
section
open Go.RowKit
theorem int_one' {l:List Int}:∀ u ∈ l.map (Value.int .i64),u.oneCell'=true:=by
 intro u hu;simp only [List.mem_map] at hu;obtain ⟨x,-,rfl⟩:=hu;rfl
section
variable {p g:Nat} {A:Ar}
theorem ACopy_c (i:Int) (w:World) (h:ArenaAt w p g A) :
  Calls Try.prog 93 #[.pointer (some ⟨p,0,none⟩), .int .i64 i] w fun e w'=>e=.returned (.int .i64 (A.copy i).1)∧ArenaTo w p g w' (A.copy i).2:=by
 have H:=Hz h
 have o1:=h.ok.h1;have o2:=h.ok.h2;have o3:=h.ok.h3;have o4:=h.ok.h4
 have HOK:=Hz (h.ok.copy i)
 have hfl:=A.thing_fields i
 have HU:=Hz (A.thing_use (i:=i))
 have HUL:=Hz (h.ok.use_lt (i:=i))
 have HNO:=Hz (Ar.copy_no (A:=A) (i:=i));have HYES:=Hz (Ar.copy_yes (A:=A) (i:=i))
 have HWS:=Hz (Ar.whole_spec h.ok (i:=i) (n:=(A.thing i).2.1) hfl.1)
 clear h
 obtain ⟨⟨k,n,c⟩,hT⟩:∃ t,A.thing i=t:=⟨_,rfl⟩
 rw [hT] at hfl HU HNO HYES HWS
 dsimp only at hfl HU HNO HYES HWS
 have HT:=Hz hT
 clear hT
 obtain ⟨n,rfl⟩:∃ q:Nat,n=q:=⟨n.toNat,by omega⟩
 have hn:n≤12:=by omega
 clear hfl
 go_enter Try.func93,Try.ntmps93
 go_wp2_with fail
 refine (Thing_c i _ H.out).mono ?_
 rintro e w1 ⟨rfl,rfl⟩
 rw [HT.out]
 dsimp only
 by_cases hc:c=0
 ·subst hc
  have hu:=HUL.out (HU.out rfl)
  obtain ⟨m,rfl⟩:∃ m:Nat,i=m:=⟨i.toNat,by omega⟩
  have hm:m<1280:=by omega
  have HW:Hid (A.whole m n=((A.young m && A.young ((m:Int)+n)) || (A.old m && A.old ((m:Int)+n)))):=rfl
  have HYO:Hid (A.young m=true→A.old m=false):=fun h=>by
   simp [Ar.young] at h;simp [Ar.old];omega
  clear hu
  go_upto_region 2 with fail
  go_cut [42] (fun v wx=>v=.bool (!A.whole m n)∧wx=w)
  case first=>
   cases hy:A.young m
   ·cases ho:A.old m
    ·have HX:=Hz (show A.whole m n=false by rw [HW.out,hy,ho];rfl)
     go_wp2_with fail
     refine (Young_c m _ H.out).mono ?_
     rintro e w1 ⟨rfl,rfl⟩
     rw [hy]
     go_wp2_with fail
     refine (Old_c m _ H.out).mono ?_
     rintro e w1 ⟨rfl,rfl⟩
     rw [ho]
     go_wp2_with fail
     go_meet
     exact ⟨by rw [HX.out];rfl,rfl⟩
    ·have HX:=Hz (show A.whole m n=A.old ((m:Int)+n) by rw [HW.out,hy,ho];simp)
     go_wp2_with fail
     refine (Young_c m _ H.out).mono ?_
     rintro e w1 ⟨rfl,rfl⟩
     rw [hy]
     go_wp2_with fail
     refine (Old_c m _ H.out).mono ?_
     rintro e w1 ⟨rfl,rfl⟩
     rw [ho]
     go_wp2_with fail
     refine (Old_c ((m:Int)+n) _ H.out).mono ?_
     rintro e w1 ⟨rfl,rfl⟩
     rw [←HX.out]
     go_wp2_with fail
     go_meet
     exact ⟨rfl,rfl⟩
   ·have ho:=HYO.out hy
    cases hy2:A.young ((m:Int)+n)
    ·have HX:=Hz (show A.whole m n=false by rw [HW.out,hy,hy2,ho];simp)
     go_wp2_with fail
     refine (Young_c m _ H.out).mono ?_
     rintro e w1 ⟨rfl,rfl⟩
     rw [hy]
     go_wp2_with fail
     refine (Young_c ((m:Int)+n) _ H.out).mono ?_
     rintro e w1 ⟨rfl,rfl⟩
     rw [hy2]
     go_wp2_with fail
     refine (Old_c m _ H.out).mono ?_
     rintro e w1 ⟨rfl,rfl⟩
     rw [ho]
     go_wp2_with fail
     go_meet
     exact ⟨by rw [HX.out];rfl,rfl⟩
    ·have HX:=Hz (show A.whole m n=true by rw [HW.out,hy,hy2];simp)
     go_wp2_with fail
     refine (Young_c m _ H.out).mono ?_
     rintro e w1 ⟨rfl,rfl⟩
     rw [hy]
     go_wp2_with fail
     refine (Young_c ((m:Int)+n) _ H.out).mono ?_
     rintro e w1 ⟨rfl,rfl⟩
     rw [hy2]
     go_wp2_with fail
     go_meet
     exact ⟨by rw [HX.out];rfl,rfl⟩
  case rest=>
   obtain ⟨rfl,rfl⟩:=hcut
   cases hw:A.whole m n
   ·have HE:=Hz (HNO.out (by rw [hw];simp))
    go_wp2_with fail
    go_ret
    exact ⟨by rw [HE.out];rfl,by rw [HE.out];exact ArenaTo.refl H.out (Keeps.refl _ _)⟩
   ·have hws:=HWS.out hw
    by_cases hroom:1+(n:Int)≤(A.ws.length:Int)-A.grn
    ·have HE:=Hz (HYES.out ⟨rfl,hw,hroom⟩)
     have HTK:=Hz (show A.takeO (1+(n:Int))=((A.grn:Int), { A with grn:=A.grn+(1+(n:Int)).toNat }) from if_pos ⟨by omega,hroom⟩)
     go_wp2_with fail
     refine (takeO_c (1+(n:Int)) _ H.out (by omega) (by omega)).mono ?_
     rintro e w2 ⟨rfl,hto⟩
     rw [HTK.out] at hto ⊢
     dsimp only at hto ⊢
     have HTO:=Hz hto
     obtain ⟨c0,-,-,-⟩:=hto.at_.cells
     have pl:=hto.at_.hp.lt;have gl:=hto.at_.hg.lt
     dsimp only at c0
     clear hto
     have hw1:IntKind.i64.wrap ((A.grn:Int)+1)=(A.grn:Int)+1:=IntWalk.i64_in _ (by omega)
     have hw2:IntKind.i64.wrap ((A.grn:Int)+1+n)=(A.grn:Int)+1+n:=IntWalk.i64_in _ (by omega)
     have hw3:IntKind.i64.wrap ((m:Int)+1)=(m:Int)+1:=IntWalk.i64_in _ (by omega)
     have hw4:IntKind.i64.wrap ((m:Int)+1+n)=(m:Int)+1+n:=IntWalk.i64_in _ (by omega)
     have b1:(A.grn:Int)≤(A.grn:Int)+1+n:=by omega
     have b2:(A.grn:Int)+1+n≤(A.ws.length:Int):=by omega
     have b3:(m:Int)≤(m:Int)+1+n:=by omega
     have b4:(m:Int)+1+n≤(A.ws.length:Int):=by omega
     have b5:(0:Int)≤(A.grn:Int)+1+n:=by omega
     have b6:(0:Int)≤(m:Int)+1+n:=by omega
     have b7:((A.grn:Int)+1+n).toNat=A.grn+1+n:=by omega
     have b8:((m:Int)+1+n).toNat=m+1+n:=by omega
     have q1:¬ A.ws.length=A.grn:=by omega
     have q2:¬ A.ws.length=m:=by omega
     go_wp2_with fail
     refine wp_region_ro (.free 0 (.free 1 (.free 2 (.free 4 (.free 5 (.free 6 (.free 7 (.free 8 (.free 10 (.free 11 (.free 12 (.free 14 (.free 15 (.free 16 (.free 17 (.free 18 (.pure 3 (.free 9 (.pure 13 (.free 19 (.run 20 (.swi [] (.fin))))))))))))))))))))))) [20] (fun w'=>w'.cell? ⟨p,0,none⟩=some (.slice (some ⟨g,0,none⟩) A.ws.length A.ws.length)) (by kernel_rfl) (by kernel_rfl) c0 ?_
     iterate 20 first | (refine wpRO_free rfl rfl _ (fun w'=>by go_simp;exact Gives.mk _ _) (fun K hK=>?_);go_simp;refine hK _ ?_;clear hK K) | (refine wpRO_skipF rfl rfl (fun K hK=>?_);go_simp;refine hK _ ?_;clear hK K) | (refine wpRO_pure rfl rfl _ (fun w' hG=>by obtain g0:=hG;exact gives_agg2 rfl (by decide +kernel) rfl (by assumption) (by assumption)) (fun K hK=>?_);go_simp;refine hK _ ?_;clear hK K) | (refine wpRO_pure rfl rfl _ (fun w' hG=>by obtain g0:=hG;go_simp;exact Gives.mk _ _) (fun K hK=>?_);go_simp;refine hK _ ?_;clear hK K) | (refine wpRO_skip rfl rfl (fun K hK=>?_);go_simp;refine hK _ ?_;clear hK K)
     clear hw1 hw2 hw3 hw4 b1 b2 b3 b4 b5 b6 b7 b8
     have hcl:(((A.ws.drop m).take (1+n)).map (Value.int .i64)).length=1+n:=by simp;omega
     have hfit:A.grn+(1+n)≤A.ws.length:=by omega
     have HCL:=Hz hcl;clear hcl
     refine wpRO_chg rfl rfl rfl (fun K hK=>?_)
     refine gRun_copy (.tmp 58) (.tmp 68) 34 rfl 2 Try.underlying34 (by kernel_rfl) g A.grn _ _ ⟨g,m,none⟩ _ _ (by rfl) (by rfl) (A.ws.map (Value.int .i64)) HTO.out.at_.hg.drew (((A.ws.drop m).take (1+n)).map (Value.int .i64)) ?hn ?hsrc ?hfit int_one' ?_
     case hn=>rw [HCL.out];show 1+n=min _ _;omega
     case hsrc=>
      intro j v hj
      have hlt:=(List.getElem?_eq_some_iff.1 hj).1
      rw [HCL.out] at hlt
      have hg:=HTO.out.at_.hg.cell (m+j)
      dsimp only at hg
      rw [addr_add]
      show w2.cell? ⟨g,m+j,none⟩=some v
      rw [hg,←hj]
      simp only [List.getElem?_map,List.getElem?_take,List.getElem?_drop,if_pos hlt]
     case hfit=>rw [HCL.out];simpa using hfit
     refine hK _ _ ?_
     clear hK K
     have hb5:Blk (w2.drew.setRow g ((A.ws.map (Value.int .i64)).take A.grn ++ ((A.ws.drop m).take (1+n)).map (Value.int .i64) ++ (A.ws.map (Value.int .i64)).drop (A.grn+(((A.ws.drop m).take (1+n)).map (Value.int .i64)).length)).toArray) g ((lay A.ws A.grn ((A.ws.drop m).take (1+n))).map (Value.int .i64)) 2:=by
      rw [lay_map];exact Blk.setRow (w:=w2.drew) HTO.out.at_.hg.drew _
     have hp5:=HTO.out.at_.hp.drew.setRowOther H.out.ne ((A.ws.map (Value.int .i64)).take A.grn ++ ((A.ws.drop m).take (1+n)).map (Value.int .i64) ++ (A.ws.map (Value.int .i64)).drop (A.grn+(((A.ws.drop m).take (1+n)).map (Value.int .i64)).length)).toArray
     have hk5:=(HTO.out.k.drew).setRow (g:=g) (.inl (.inr rfl)) ((A.ws.map (Value.int .i64)).take A.grn ++ ((A.ws.drop m).take (1+n)).map (Value.int .i64) ++ (A.ws.map (Value.int .i64)).drop (A.grn+(((A.ws.drop m).take (1+n)).map (Value.int .i64)).length)).toArray
     dsimp only at hp5
     generalize w2.drew.setRow g _=w5 at *
     have HB5:=Hz hb5;have HP5:=Hz hp5;have HK5:=Hz hk5
     clear hb5 hp5 hk5
     refine wpRO_swi (fun _=>True) trivial (wpRO_fin ?_)
     go_wp2_with fail
     go_ret
     have hok:=HOK.out
     rw [HE.out] at hok ⊢
     have ho2:lay A.ws A.grn ((A.ws.drop ((m:Int)).toNat).take (1+(n:Int)).toNat)=lay A.ws A.grn ((A.ws.drop m).take (1+n)):=by
      rw [show ((m:Int)).toNat=m by omega,show (1+(n:Int)).toNat=1+n by omega]
     have hl:(lay A.ws A.grn ((A.ws.drop m).take (1+n))).length=A.ws.length:=lay_length (by have:=HCL.out;simp only [List.length_map] at this;omega)
     refine ⟨rfl,⟨?_,?_,hok⟩,HK5.out⟩
     ·dsimp only
      rw [ho2,hl]
      exact HP5.out
     ·dsimp only
      rw [ho2]
      exact HB5.out
    ·have HE:=Hz (HNO.out (fun h=>hroom h.2.2))
     have HTK:=Hz (show A.takeO (1+(n:Int))=(-1,A) from if_neg (fun h=>hroom h.2))
     go_wp2_with fail
     refine (takeO_c (1+(n:Int)) _ H.out (by omega) (by omega)).mono ?_
     rintro e w2 ⟨rfl,hto⟩
     rw [HTK.out] at hto ⊢
     dsimp only at hto ⊢
     go_wp2_with fail
     go_ret
     exact ⟨by rw [HE.out];rfl,by rw [HE.out];exact hto⟩
 ·have HE:=Hz (HNO.out (fun h=>hc h.1))
  have hcb:(c != 0)=true:=by simpa using hc
  clear hc
  go_wp2_with fail
  go_ret
  exact ⟨by rw [HE.out];rfl,by rw [HE.out];exact ArenaTo.refl H.out (Keeps.refl _ _)⟩
end
end
section
open Go.RowKit
theorem info_i64:(Try.prog.info? 2).map (fun i=>(i.zero,i.size,i.bytes))=some (some (.int .i64 0),1,8):=by kernel_rfl
theorem info_int:(Try.prog.info? 3).map (fun i=>(i.zero,i.size,i.bytes))=some (some (.int .i64 0),1,8):=by kernel_rfl
theorem nil_own {k:Nat} (h:ownB (.slice none 0 0) k):False:=by simp [ownB,Value.ownBlock] at h
def NumsRet (T:TypeId) (w:World) (e:Ending) (w':World) (l:List Int):Prop:=
 ∃ ao cap,e=.returned (.slice ao l.length cap)∧Sl w' T 1 (.slice ao l.length cap) l.length (l.map (Value.int .i64))∧Keeps (fun _=>False) w w'∧∀ k,ownB (.slice ao l.length cap) k→w.heap.size≤k
theorem CloneI_c (a:Addr) (cap:Nat) (l:List Int) (w:World) (h:Rd w (some a) (l.map (Value.int .i64))) (hl:l.length≤1000000) :
  Calls Try.prog 21 #[.slice (some a) l.length cap] w fun e w'=>NumsRet 2 w e w' l:=by
 obtain ⟨i0,hi,hz0,hz1,hz2⟩:=info_parts info_i64
 have Hi:=Hz hi;have Hz0:=Hz hz0;have Hz1:=Hz hz1;have Hz2:=Hz hz2;clear hi hz0 hz1 hz2
 have hne:=fun (wx:World)=>Lib.run_eql_slice_nil (P:=Try.prog) wx 34 2 (some a) l.length cap 0 0 Try.underlying34
 go_enter Try.func21,Try.ntmps21
 go_wp2_with (at_builtin;refine wpList_appR rfl (.tmp 5) (.tmp 6) 34 rfl 2 i0 (.int .i64 0) 1 8 Try.underlying34 Hi.out Hz0.out Hz1.out Hz2.out rfl (by decide) _ 0 [] rfl ⟨rfl, .inr ⟨w.heap.size,0,0,[],rfl,Blk.newAt _ rfl rfl,Nat.le_refl _,Nat.zero_le _,by simp,by simp⟩⟩ (some a) l.length cap (l.map (Value.int .i64)) rfl (by simp) (h.keep ((Kz w).alloc _) (fun _ _ _ h=>h)) int_one' (by unfold maxLen;omega) (by omega) ?_)
 intro v2 w2 hs2 hk2 ho2
 go_wp2_with fail
 go_ret
 obtain ⟨ao,c2,rfl,_,_,_⟩:=hs2.rd
 refine ⟨ao,c2,rfl,hs2,((Kz w).alloc _).then hk2 (fun j hj=>by simp [ownB,Value.ownBlock] at hj;exact .inr (by omega)),fun j hj=>?_⟩
 rcases ho2 j hj with h | h
 ·simp [ownB,Value.ownBlock] at h;omega
 ·first | omega | (simp at h;omega)
def ArenaRet (w:World) (n o:Int) (e:Ending) (w':World):Prop:=
 ∃ p g,e=.returned (.tuple #[.pointer (some ⟨p,0,none⟩), .agg #[.int .i64 0, .int .i64 0]])∧ArenaAt w' p g (Ar.new n o)∧Keeps (fun _=>False) w w'∧w.heap.size≤p∧w.heap.size≤g
section
variable {p g:Nat} {A:Ar}
theorem Words_c (w:World) (h:ArenaAt w p g A) :
  Calls Try.prog 12 #[.pointer (some ⟨p,0,none⟩)] w fun e w'=>NumsRet 2 w e w' A.ws:=by
 have H:=Hz h
 obtain ⟨c0,-,-,-⟩:=h.cells
 have pl:=h.hp.lt
 have o4:=h.ok.h4
 clear h
 go_enter Try.func12,Try.ntmps12
 go_wp2_with fail
 refine (CloneI_c ⟨g,0,none⟩ A.ws.length A.ws _ (Rd.blk H.out.hg 0 _ (by simp only [List.drop_zero,List.take_length])) (by omega)).mono ?_
 rintro e w1 ⟨ao,cap,rfl,hs,hk,ho⟩
 go_wp2_with fail
 go_ret
 exact ⟨ao,cap,rfl,hs,hk,ho⟩
theorem ANew_no (n o:Int) (w:World) (h:Ar.fits n o=false) :
  Calls Try.prog 37 #[.int .i64 n, .int .i64 o] w fun e w'=>e=.returned (.tuple #[.pointer none, .agg #[.int .i64 1, .int .i64 (-1)]])∧Keeps (fun _=>False) w w':=by
 have hc:n<16∨256<n∨o<0∨1024<o:=by
  by_cases h1:16≤n
  ·by_cases h2:n≤256
   ·by_cases h3:0≤o
    ·by_cases h4:o≤1024
     ·simp [Ar.fits,h1,h2,h3,h4] at h
     ·omega
    ·omega
   ·omega
  ·omega
 clear h
 by_cases c1:n<16
 ·have d1:decide (n<16)=true:=by simpa using c1
  go_enter Try.func37,Try.ntmps37
  go_wp2_with fail
  exact bodyPost_ret (v:=.tuple #[.pointer none, .agg #[.int .i64 1, .int .i64 (-1)]]) (by simp [results,Try.results37,go_sem]) rfl ⟨rfl,((Keeps.refl _ _).alloc _)⟩
 have d1:decide (n<16)=false:=by simpa using c1
 by_cases c2:256<n
 ·have d2:decide (256<n)=true:=by simpa using c2
  go_enter Try.func37,Try.ntmps37
  go_wp2_with fail
  exact bodyPost_ret (v:=.tuple #[.pointer none, .agg #[.int .i64 1, .int .i64 (-1)]]) (by simp [results,Try.results37,go_sem]) rfl ⟨rfl,((Keeps.refl _ _).alloc _)⟩
 have d2:decide (256<n)=false:=by simpa using c2
 by_cases c3:o<0
 ·have d3:decide (o<0)=true:=by simpa using c3
  go_enter Try.func37,Try.ntmps37
  go_wp2_with fail
  exact bodyPost_ret (v:=.tuple #[.pointer none, .agg #[.int .i64 1, .int .i64 (-1)]]) (by simp [results,Try.results37,go_sem]) rfl ⟨rfl,((Keeps.refl _ _).alloc _)⟩
 have d3:decide (o<0)=false:=by simpa using c3
 have d4:decide (1024<o)=true:=by simp;omega
 go_enter Try.func37,Try.ntmps37
 go_wp2_with fail
 exact bodyPost_ret (v:=.tuple #[.pointer none, .agg #[.int .i64 1, .int .i64 (-1)]]) (by simp [results,Try.results37,go_sem]) rfl ⟨rfl,((Keeps.refl _ _).alloc _)⟩
theorem ANew_yes (n o:Int) (w:World) (h:Ar.fits n o=true) :
  Calls Try.prog 37 #[.int .i64 n, .int .i64 o] w fun e w'=>ArenaRet w n o e w':=by
 have HOK:=Hz (Ar.new_ok h)
 simp [Ar.fits] at h
 obtain ⟨⟨⟨h1,h2⟩,h3⟩,h4⟩:=h
 obtain ⟨a,rfl⟩:∃ a:Nat,n=a:=⟨n.toNat,by omega⟩
 obtain ⟨b,rfl⟩:∃ b:Nat,o=b:=⟨o.toNat,by omega⟩
 have d1:decide ((a:Int)<16)=false:=by simp;omega
 have d2:decide (256<(a:Int))=false:=by simp;omega
 have d3:decide ((b:Int)<0)=false:=by simp
 have d4:decide (1024<(b:Int))=false:=by simp;omega
 obtain ⟨i0,hi,hz0,hz1,hz2⟩:=info_parts info_i64
 have hmk:=fun (wx:World)=>run_make_one (P:=Try.prog) wx 34 2 i0 (.int .i64 0) Try.underlying34 hi hz0 rfl hz1 (a+b) (by rw [hz2];omega) (by omega)
 have hcast:((a+b:Nat):Int)=(a:Int)+(b:Int):=by omega
 simp only [hcast] at hmk
 have HNEW:=Hz (show Ar.new a b=⟨List.replicate (a+b) 0,a,0,a⟩ by unfold Ar.new;congr 1)
 clear hi hz0 hz1 hz2 hcast
 go_enter Try.func37,Try.ntmps37
 go_wp2_with fail
 refine bodyPost_ret (v:=.tuple #[.pointer (some ⟨w.heap.size+2,0,none⟩), .agg #[.int .i64 0, .int .i64 0]]) (by simp [results,Try.results37,go_sem]) rfl ⟨w.heap.size+2,w.heap.size+1,rfl,?_,(((Keeps.refl _ _).alloc _).alloc _).alloc _,by omega,by omega⟩
 have hok:=HOK.out
 rw [HNEW.out] at hok ⊢
 refine ⟨?_,?_,hok⟩
 ·refine Blk.newAt _ (by simp) ?_
  simp
 ·refine (Blk.newAt _ (by simp) ?_).alloc _
  simp
def BoxAt (w:World) (b p:Nat):Prop:=Blk w b [.pointer (some ⟨p,0,none⟩)] 39
theorem List_c (b:Nat) (i j:Int) (w:World) (h:ArenaAt w p g A) (hb:BoxAt w b p) (hi:0≤i) (hi2:i≤1280) (hj:j≤1280) :
  Calls Try.prog 91 #[.int .i64 i, .int .i64 j, .pointer (some ⟨b,0,none⟩)] w fun e w'=>NumsRet 3 w e w' (A.list 1300 i j):=by
 have H:=Hz h;have HB:=Hz hb
 have bl:=hb.lt
 obtain ⟨i0,hi0,hz0,hz1,hz2⟩:=info_parts info_int
 have Hi:=Hz hi0;have Hz0:=Hz hz0;have Hz1:=Hz hz1;have Hz2:=Hz hz2;clear hi0 hz0 hz1 hz2
 clear h hb
 go_enter Try.func91,Try.ntmps91
 go_wp2_with fail
 go_loopw [6,7] (fun v k wr=>∃ (n:Nat) (c:Int) (done:List Int),k=.int .i64 c∧0≤c∧c≤1300∧done ++ A.list n c j=A.list 1300 i j∧(j-c).toNat<n∧done.length+(j-c).toNat≤1300∧Sl wr 3 1 v done.length (done.map (Value.int .i64))∧Keeps (fun _=>False) w wr∧∀ b,ownB v b→w.heap.size≤b) (fun _ k _=>(j-intOf k).toNat)
 case atStart=>
  exact ⟨1300,i,[],rfl,hi,by omega,rfl,by omega,by simp;omega,Sl.nil _ _ _,Keeps.refl _ _,fun b hb=>(nil_own hb).elim⟩
 case round=>
  obtain ⟨n,c,done,rfl,hc0,hc1,hd,hn,hl,hs,hk,ho⟩:=hrel
  have HD:=Hz hd;have HS:=Hz hs;have HK:=Hz hk;have HO:=Hz ho
  have b0:=(hk.blk HB.out (fun h=>h)).cell 0
  have bl2:=(hk.blk HB.out (fun h=>h)).lt
  simp only [List.getElem?_cons_zero] at b0
  clear hd hs hk ho
  obtain ⟨ao,cap,rfl,-,-,-⟩:=HS.out.rd
  by_cases hlt:c<j
  ·have hfl:=A.thing_fields c
   obtain ⟨⟨k,m,e⟩,hT⟩:∃ t,A.thing c=t:=⟨_,rfl⟩
   rw [hT] at hfl
   dsimp only at hfl
   have HT:=Hz hT;clear hT
   go_wp2_with fail
   refine (Thing_c c _ (H.out.keep HK.out (fun h=>h) (fun h=>h))).mono ?_
   rintro e w1 ⟨rfl,rfl⟩
   rw [HT.out]
   dsimp only
   by_cases he:e=0
   ·subst he
    obtain ⟨n,rfl⟩:∃ q,n=q+1:=⟨n-1,by omega⟩
    have HST:=Hz (Ar.list_step (n:=n) hlt (by rw [HT.out]))
    go_wp2_with (at_builtin;refine wpList_app rfl (.tmp 25) (.tmp 27) 63 rfl 3 i0 (.int .i64 0) 1 8 Try.underlying63 Hi.out Hz0.out Hz1.out Hz2.out rfl (by decide) _ done.length (done.map (Value.int .i64)) rfl (HS.out.keep ((Kz wr).alloc _) (fun _ _ h=>h)) ⟨wr.heap.size,0,none⟩ 1 1 [.int .i64 c] rfl rfl (news_at wr 3 #[.int .i64 c]) (by intro u hu;simp at hu;subst hu;rfl) (by unfold maxLen;omega) (by omega) ?_)
    intro v2 w2 hs2 hk2 ho2
    have HK2:=Hz ((HK.out.alloc (.cells #[.int .i64 c] 3)).then hk2 (fun b hb=>.inr (HO.out b hb)))
    have HO2:Hid (∀ b,ownB v2 b→w.heap.size≤b):=fun b hb=>by
     rcases ho2 b hb with h | h
     ·exact HO.out b h
     ·have:=HK.out.size;first | omega | (simp at h;omega)
    have HS2:=Hz hs2
    clear hs2 hk2 ho2 b0 bl2
    go_wp2_with fail
    go_roundw
    case rel=>exact ⟨n,c+1+m,done ++ [c],int_eq (by omega),by omega,by omega,by rw [←HD.out,HST.out,HT.out];simp,by omega,by simp;omega,by simpa using HS2.out,HK2.out,HO2.out⟩
    case measure=>simp [intOf];omega
   ·have heb:(e != 0)=true:=by simpa using he
    have HE:=Hz (Ar.list_end (n:=n) (j:=j) (fun h=>he (by have:=h.2;rw [HT.out] at this;exact this)))
    clear he
    go_wp2_with fail
    go_ret
    have hd:=HD.out
    rw [HE.out,List.append_nil] at hd
    rw [←hd]
    exact ⟨ao,cap,rfl,HS.out,HK.out,HO.out⟩
  ·have HE:=Hz (Ar.list_end (A:=A) (n:=n) (i:=c) (j:=j) (fun h=>hlt h.1))
   go_wp2_with fail
   go_ret
   have hd:=HD.out
   rw [HE.out,List.append_nil] at hd
   rw [←hd]
   exact ⟨ao,cap,rfl,HS.out,HK.out,HO.out⟩
theorem listA (args:Array Value) (w:World):(callFunc 91 args).run Try.prog w=.ok (.enter 91 args) w:=by kernel_rfl
def ThingsRet (A:Ar) (w:World) (e:Ending) (w':World):Prop:=
 ∃ ao ac bo bc,e=.returned (.tuple #[.slice ao A.things.1.length ac, .slice bo A.things.2.length bc])∧Sl w' 3 1 (.slice ao A.things.1.length ac) A.things.1.length (A.things.1.map (Value.int .i64)) ∧
  Sl w' 3 1 (.slice bo A.things.2.length bc) A.things.2.length (A.things.2.map (Value.int .i64))∧Keeps (fun _=>False) w w'∧(∀ k,ownB (.slice ao A.things.1.length ac) k→w.heap.size≤k)∧∀ k,ownB (.slice bo A.things.2.length bc) k→w.heap.size≤k
theorem Things_c (w:World) (h:ArenaAt w p g A) :
  Calls Try.prog 58 #[.pointer (some ⟨p,0,none⟩)] w fun e w'=>ThingsRet A w e w':=by
 have o1:=h.ok.h1;have o2:=h.ok.h2;have o3:=h.ok.h3;have o4:=h.ok.h4
 have HLA:Hid (A.things=(A.list 1300 0 A.yng,A.list 1300 A.nur A.grn)):=rfl
 have ea:=listA
 have hka:=(Kz w).alloc (.cells #[.pointer (some ⟨p,0,none⟩)] 39)
 have h1:=h.keep hka (fun h=>h) (fun h=>h)
 have hb:BoxAt (w.alloc (.cells #[.pointer (some ⟨p,0,none⟩)] 39)) w.heap.size p:=Blk.newAt _ rfl rfl
 have H1:=Hz h1;have HB:=Hz hb;have HKA:=Hz hka
 clear h h1 hb hka
 go_enter Try.func58,Try.ntmps58
 go_wp2_with fail
 obtain ⟨-,c1,c2,c3⟩:=H1.out.cells
 have b0:=HB.out.cell 0
 have bl:=HB.out.lt;have pl:=H1.out.hp.lt
 simp only [List.getElem?_cons_zero] at b0
 generalize w.alloc (.cells #[.pointer (some ⟨p,0,none⟩)] 39)=w1 at *
 refine wp_region_ro (.free 0 (.free 6 (.pure 1 (.free 2 (.free 3 (.pure 4 (.pure 7 (.free 8 (.free 9 (.pure 10 (.pure 11 (.free 12 (.free 13 (.pure 14 (.run 5 (.run 15 (.swi [] (.free 16 (.free 17 (.fin)))))))))))))))))))) [15,16,17] (fun w'=>w'.cell? ⟨p,1,none⟩=some (.int .i64 A.nur)∧w'.cell? ⟨p,2,none⟩=some (.int .i64 A.yng)∧w'.cell? ⟨p,3,none⟩=some (.int .i64 A.grn)∧w'.cell? ⟨w.heap.size,0,none⟩=some (.pointer (some ⟨p,0,none⟩))) (by kernel_rfl) (by kernel_rfl) ⟨c1,c2,c3,b0⟩ ?_
 iterate 14 first | (refine wpRO_free rfl rfl _ (fun w'=>by go_simp;exact Gives.mk _ _) (fun K hK=>?_);go_simp;refine hK _ ?_;clear hK K) | (refine wpRO_skipF rfl rfl (fun K hK=>?_);go_simp;refine hK _ ?_;clear hK K) | (refine wpRO_pure rfl rfl _ (fun w' hG=>by obtain ⟨g0,g1,g2,g3⟩:=hG;exact gives_agg2 rfl (by decide +kernel) rfl (by assumption) (by assumption)) (fun K hK=>?_);go_simp;refine hK _ ?_;clear hK K) | (refine wpRO_pure rfl rfl _ (fun w' hG=>by obtain ⟨g0,g1,g2,g3⟩:=hG;go_simp;exact Gives.mk _ _) (fun K hK=>?_);go_simp;refine hK _ ?_;clear hK K) | (refine wpRO_skip rfl rfl (fun K hK=>?_);go_simp;refine hK _ ?_;clear hK K)
 refine wpRO_run rfl rfl (fun K hK=>?_);unfold gRun;go_simp
 refine (List_c w.heap.size 0 A.yng _ (H1.out.keep (Kz w1).drew (fun h=>h) (fun h=>h)) HB.out.drew (by omega) (by omega) (by omega)).mono ?_
 rintro e w2 ⟨ao,ac,rfl,hs2,hk2,ho2⟩
 have hkd:=(Kz w1).drew.trans hk2
 have H2:=Hz (H1.out.keep hkd (fun h=>h) (fun h=>h));have HB2:=Hz (show BoxAt w2 w.heap.size p from hkd.blk HB.out (fun h=>h))
 have HS2:=Hz hs2;have HKD:=Hz hkd
 have HO2:Hid (∀ k,ownB (.slice ao (A.list 1300 0 A.yng).length ac) k→w.heap.size≤k):=fun k hk=>by have h1:=ho2 k hk;have h2:=HKA.out.size;exact Nat.le_trans h2 h1
 refine hK _ _ (fun _=>?gg) ?_
 case gg=>obtain ⟨-,c1,c2,c3⟩:=H2.out.cells;exact ⟨c1,c2,c3,HB2.out.cell 0⟩
 clear hK K hs2 hkd hk2 ho2
 refine wpRO_chg rfl rfl rfl (fun K hK=>?_);unfold gRun;go_simp
 refine (List_c w.heap.size A.nur A.grn _ H2.out HB2.out (by omega) (by omega) (by omega)).mono ?_
 rintro e w3 ⟨bo,bc,rfl,hs3,hk3,ho3⟩
 have HS3:=Hz hs3;have HS23:=Hz (HS2.out.keep hk3 (fun _ _ h=>h));have HKE:=Hz ((HKA.out.trans HKD.out).trans hk3)
 have HO3:Hid (∀ k,ownB (.slice bo (A.list 1300 A.nur A.grn).length bc) k→w.heap.size≤k):=fun k hk=>by have h1:=ho3 k hk;have h2:=HKA.out.size;have h3:=HKD.out.size;exact Nat.le_trans (Nat.le_trans h2 h3) h1
 refine hK _ _ ?_
 clear hK K hs3 hk3 ho3 c1 c2 c3 b0
 refine wpRO_swi (fun _=>True) trivial ?_
 iterate 2 first | (refine wpRO_free rfl rfl _ (fun w'=>by go_simp;exact Gives.mk _ _) (fun K hK=>?_);go_simp;refine hK _ ?_;clear hK K) | (refine wpRO_skipF rfl rfl (fun K hK=>?_);go_simp;refine hK _ ?_;clear hK K)
 refine wpRO_fin ?_
 go_wp2_with fail
 go_ret2
 unfold ThingsRet
 rw [HLA.out]
 exact ⟨ao,ac,bo,bc,rfl,HS23.out,HS3.out,HKE.out,HO2.out,HO3.out⟩
end
end
section
open Go.RowKit
def Ar.move (A:Ar) (dst fr n:Nat):Ar:={ A with ws:=lay A.ws dst ((A.ws.drop fr).take n) }
theorem Ar.ok.move {A:Ar} (h:A.ok) {dst fr n:Nat} (h1:dst+n≤A.ws.length) (h2:fr+n≤A.ws.length):(A.move dst fr n).ok:=by
 have hl:(lay A.ws dst ((A.ws.drop fr).take n)).length=A.ws.length:=lay_length (by simp;omega)
 refine ⟨h.h1,h.h2,?_,?_,fun x hx=>?_⟩
 ·show A.grn≤(lay _ _ _).length;rw [hl];exact h.h3
 ·show (lay _ _ _).length≤1280;rw [hl];exact h.h4
 ·rcases lay_mem hx with h1 | h1
  ·exact h.hw x h1
  ·exact h.hw x (List.mem_of_mem_drop (List.mem_of_mem_take h1))
section
variable {p g:Nat} {A:Ar}
theorem Move_c (dst fr n:Nat) (w:World) (h:ArenaAt w p g A) (h1:dst+n≤A.ws.length) (h2:fr+n≤A.ws.length) (h3:dst<A.ws.length) (h4:fr<A.ws.length) :
  Calls Try.prog 82 #[.pointer (some ⟨p,0,none⟩), .int .i64 dst, .int .i64 fr, .int .i64 n] w fun e w'=>e=.returned (.tuple #[])∧ArenaTo w p g w' (A.move dst fr n):=by
 have H:=Hz h
 have o4:=h.ok.h4
 have HOK:=Hz (h.ok.move h1 h2)
 obtain ⟨c0,-,-,-⟩:=h.cells
 have pl:=h.hp.lt;have gl:=h.hg.lt
 clear h
 have hw1:IntKind.i64.wrap ((dst:Int)+n)=(dst:Int)+n:=IntWalk.i64_in _ (by omega)
 have hw2:IntKind.i64.wrap ((fr:Int)+n)=(fr:Int)+n:=IntWalk.i64_in _ (by omega)
 have b1:(dst:Int)≤(dst:Int)+n:=by omega
 have b2:(dst:Int)+n≤(A.ws.length:Int):=by omega
 have b3:(fr:Int)≤(fr:Int)+n:=by omega
 have b4:(fr:Int)+n≤(A.ws.length:Int):=by omega
 have b5:(0:Int)≤(dst:Int)+n:=by omega
 have b6:(0:Int)≤(fr:Int)+n:=by omega
 have b7:((dst:Int)+n).toNat=dst+n:=by omega
 have b8:((fr:Int)+n).toNat=fr+n:=by omega
 have q1:¬ A.ws.length=dst:=by omega
 have q2:¬ A.ws.length=fr:=by omega
 go_enter Try.func82,Try.ntmps82
 refine wp_region_ro (.free 0 (.free 1 (.free 2 (.free 4 (.free 5 (.free 6 (.free 7 (.free 9 (.free 10 (.free 11 (.free 13 (.free 14 (.free 15 (.free 16 (.pure 3 (.free 8 (.pure 12 (.free 17 (.run 18 (.swi [] (.fin))))))))))))))))))))) [18] (fun w'=>w'.cell? ⟨p,0,none⟩=some (.slice (some ⟨g,0,none⟩) A.ws.length A.ws.length)) (by kernel_rfl) (by kernel_rfl) c0 ?_
 iterate 18 first | (refine wpRO_free rfl rfl _ (fun w'=>by go_simp;exact Gives.mk _ _) (fun K hK=>?_);go_simp;refine hK _ ?_;clear hK K) | (refine wpRO_skipF rfl rfl (fun K hK=>?_);go_simp;refine hK _ ?_;clear hK K) | (refine wpRO_pure rfl rfl _ (fun w' hG=>by obtain g0:=hG;exact gives_agg2 rfl (by decide +kernel) rfl (by assumption) (by assumption)) (fun K hK=>?_);go_simp;refine hK _ ?_;clear hK K) | (refine wpRO_pure rfl rfl _ (fun w' hG=>by obtain g0:=hG;go_simp;exact Gives.mk _ _) (fun K hK=>?_);go_simp;refine hK _ ?_;clear hK K) | (refine wpRO_skip rfl rfl (fun K hK=>?_);go_simp;refine hK _ ?_;clear hK K)
 clear hw1 hw2 b1 b2 b3 b4 b5 b6 b7 b8
 have hcl:(((A.ws.drop fr).take n).map (Value.int .i64)).length=n:=by simp;omega
 have HCL:=Hz hcl;clear hcl
 refine wpRO_chg rfl rfl rfl (fun K hK=>?_)
 refine gRun_copy (.tmp 16) (.tmp 25) 34 rfl 2 Try.underlying34 (by kernel_rfl) g dst _ _ ⟨g,fr,none⟩ _ _ (by rfl) (by rfl) (A.ws.map (Value.int .i64)) H.out.hg.drew (((A.ws.drop fr).take n).map (Value.int .i64)) ?hn ?hsrc ?hfit int_one' ?_
 case hn=>rw [HCL.out];show n=min _ _;omega
 case hsrc=>
  intro j v hj
  have hlt:=(List.getElem?_eq_some_iff.1 hj).1
  rw [HCL.out] at hlt
  rw [addr_add]
  show w.cell? ⟨g,fr+j,none⟩=some v
  rw [H.out.hg.cell (fr+j),←hj]
  simp only [List.getElem?_map,List.getElem?_take,List.getElem?_drop,if_pos hlt]
 case hfit=>rw [HCL.out];simpa using h1
 refine hK _ _ ?_
 clear hK K
 have hb5:Blk (w.drew.setRow g ((A.ws.map (Value.int .i64)).take dst ++ ((A.ws.drop fr).take n).map (Value.int .i64) ++ (A.ws.map (Value.int .i64)).drop (dst+(((A.ws.drop fr).take n).map (Value.int .i64)).length)).toArray) g ((lay A.ws dst ((A.ws.drop fr).take n)).map (Value.int .i64)) 2:=by
  rw [lay_map];exact Blk.setRow (w:=w.drew) H.out.hg.drew _
 have hp5:=H.out.hp.drew.setRowOther H.out.ne ((A.ws.map (Value.int .i64)).take dst ++ ((A.ws.drop fr).take n).map (Value.int .i64) ++ (A.ws.map (Value.int .i64)).drop (dst+(((A.ws.drop fr).take n).map (Value.int .i64)).length)).toArray
 have hk5:=((Keeps.refl (fun b=>b=p∨b=g) w).drew).setRow (g:=g) (.inl (.inr rfl)) ((A.ws.map (Value.int .i64)).take dst ++ ((A.ws.drop fr).take n).map (Value.int .i64) ++ (A.ws.map (Value.int .i64)).drop (dst+(((A.ws.drop fr).take n).map (Value.int .i64)).length)).toArray
 generalize w.drew.setRow g _=w5 at *
 have HB5:=Hz hb5;have HP5:=Hz hp5;have HK5:=Hz hk5
 clear hb5 hp5 hk5
 refine wpRO_swi (fun _=>True) trivial (wpRO_fin ?_)
 go_wp2_with fail
 go_end0
 have hl:(lay A.ws dst ((A.ws.drop fr).take n)).length=A.ws.length:=lay_length (by have:=HCL.out;simp only [List.length_map] at this;omega)
 refine ⟨rfl,⟨?_,HB5.out,HOK.out⟩,HK5.out⟩
 show Blk w5 p [.slice (some ⟨g,0,none⟩) (lay A.ws dst ((A.ws.drop fr).take n)).length (lay A.ws dst ((A.ws.drop fr).take n)).length,_,_,_] _
 rw [hl]
 exact HP5.out
theorem Bounds_c (w:World) (h:ArenaAt w p g A) :
  Calls Try.prog 57 #[.pointer (some ⟨p,0,none⟩)] w fun e w'=>e=.returned (.tuple #[.int .i64 0, .int .i64 A.nur])∧Keeps (fun _=>False) w w':=by
 obtain ⟨-,c1,-,-⟩:=h.cells
 have pl:=h.hp.lt
 go_enter Try.func57,Try.ntmps57
 go_wp2_with fail
 refine wp_region_ro (.free 0 (.free 1 (.free 2 (.free 4 (.pure 3 (.free 5 (.fin))))))) [] (fun w'=>w'.cell? ⟨p,1,none⟩=some (.int .i64 A.nur)) (by kernel_rfl) (by kernel_rfl) c1 ?_
 iterate 6 first | (refine wpRO_free rfl rfl _ (fun w'=>by go_simp;exact Gives.mk _ _) (fun K hK=>?_);go_simp;refine hK _ ?_;clear hK K) | (refine wpRO_skipF rfl rfl (fun K hK=>?_);go_simp;refine hK _ ?_;clear hK K) | (refine wpRO_pure rfl rfl _ (fun w' hG=>by obtain g0:=hG;exact gives_agg2 rfl (by decide +kernel) rfl (by assumption) (by assumption)) (fun K hK=>?_);go_simp;refine hK _ ?_;clear hK K) | (refine wpRO_pure rfl rfl _ (fun w' hG=>by obtain g0:=hG;go_simp;exact Gives.mk _ _) (fun K hK=>?_);go_simp;refine hK _ ?_;clear hK K) | (refine wpRO_skip rfl rfl (fun K hK=>?_);go_simp;refine hK _ ?_;clear hK K)
 refine wpRO_fin ?_
 go_wp2_with fail
 go_ret2
 exact ⟨rfl,(Keeps.refl _ _).drew⟩
end
end
section
open Go.RowKit
structure CardsAt (w:World) (p q:Nat) (base:Int) (l:List Bool):Prop where
 hp:Blk w p [.int .i64 base, .slice (some ⟨q,0,none⟩) l.length l.length] 132
 hq:Blk w q (l.map Value.bool) 4
theorem CardsAt.ne {w:World} {p q:Nat} {base:Int} {l:List Bool} (h:CardsAt w p q base l):p≠q:=h.hp.ne h.hq (by decide)
theorem CardsAt.keep {w w':World} {p q:Nat} {base:Int} {l:List Bool} {S:Nat→Prop} (h:CardsAt w p q base l) (k:Keeps S w w') (h1:¬ S p) (h2:¬ S q):CardsAt w' p q base l:=
 ⟨k.blk h.hp h1,k.blk h.hq h2⟩
theorem card_c (p q:Nat) (base at_:Int) (l:List Bool) (w:World) (h:CardsAt w p q base l)
  (hb:0≤base) (hb2:base≤1000000) (ha:-9223372036854775808≤at_) (ha2:at_≤9223372036854775807) (hl:l.length≤1000000) :
  Calls Try.prog 90 #[.pointer (some ⟨p,0,none⟩), .int .i64 at_] w fun e w'=>e=.returned (.int .i64 (cardOf base l.length at_))∧w=w':=by
 have h0:w.cell? ⟨p,0,none⟩=some (.int .i64 base):=h.hp.cell 0
 have h1:w.cell? ⟨p,1,none⟩=some (.slice (some ⟨q,0,none⟩) l.length l.length):=h.hp.cell 1
 clear h
 generalize hn:l.length=n at *
 clear hn
 by_cases c1:base≤at_
 ·by_cases c2:(at_-base)/8<n
  ·have hv:cardOf base n at_=(at_-base)/8:=by simp [cardOf,c1,c2]
   rw [hv];clear hv
   go_enter Try.func90,Try.ntmps90
   go_wp2
   go_ret
   exact ⟨rfl,rfl⟩
  ·have hv:cardOf base n at_=-1:=by simp [cardOf,c2]
   rw [hv];clear hv
   go_enter Try.func90,Try.ntmps90
   go_wp2
   go_ret
   exact ⟨rfl,rfl⟩
 ·have hv:cardOf base n at_=-1:=by simp [cardOf,c1]
  rw [hv];clear hv
  go_enter Try.func90,Try.ntmps90
  go_wp2
  go_ret
  exact ⟨rfl,rfl⟩
theorem Mark_c (p q:Nat) (base at_:Int) (l:List Bool) (w:World) (h:CardsAt w p q base l)
  (hb:0≤base) (hb2:base≤1000000) (ha:-9223372036854775808≤at_) (ha2:at_≤9223372036854775807) (hl:l.length≤1000000) :
  Calls Try.prog 54 #[.pointer (some ⟨p,0,none⟩), .int .i64 at_] w fun e w'=>e=.returned (.bool (decide (0≤cardOf base l.length at_))) ∧
   CardsAt w' p q base (markL base l at_)∧Keeps (·=q) w w':=by
 have H:=card_c p q base at_ l w h hb hb2 ha ha2 hl
 have h1:w.cell? ⟨p,1,none⟩=some (.slice (some ⟨q,0,none⟩) l.length l.length):=h.hp.cell 1
 have HM:Hid (markL base l at_=if 0≤cardOf base l.length at_ then l.set (cardOf base l.length at_).toNat true else l):=rfl
 have HL:0≤cardOf base l.length at_→(cardOf base l.length at_).toNat<l.length:=cardOf_lt
 have hup:cardOf base l.length at_≤1000000:=by unfold cardOf;split <;> omega
 generalize markL base l at_=l' at *
 generalize cardOf base l.length at_=k at *
 have HH:=Hz H;clear H
 have HC:=Hz h;clear h
 by_cases c:0≤k
 ·obtain ⟨k,rfl⟩:=Int.eq_ofNat_of_zero_le c
  have hk:=HL c
  simp only [Int.toNat_natCast] at hk HM
  have hq:w.cell? ⟨q,k,none⟩=some (.bool (l.getD k false)):=by rw [HC.out.hq.cell];simp [List.getD,hk]
  have hf:w.frozen? ⟨q,k,none⟩=false:=HC.out.hq.free _
  go_enter Try.func54,Try.ntmps54
  go_wp2_with (go_at_call 90;refine HH.out.mono ?_;rintro e w' ⟨rfl,rfl⟩)
  go_ret
  have hm:=HM.out
  simp at hm
  subst hm
  refine ⟨rfl,⟨?_,?_⟩,(Keeps.refl (·=q) w).setCell (p:=⟨q,k,none⟩) (.inl rfl) _⟩
  ·simpa using HC.out.hp.setOther (a:=⟨q,k,none⟩) HC.out.ne (.bool true)
  ·simpa [List.map_set] using HC.out.hq.setSame k (.bool true)
 ·have hd:decide (0≤k)=false:=by simpa using c
  go_enter Try.func54,Try.ntmps54
  go_wp2_with (go_at_call 90;refine HH.out.mono ?_;rintro e w' ⟨rfl,rfl⟩)
  go_ret
  have hm:=HM.out
  rw [if_neg (by omega)] at hm
  subst hm
  exact ⟨ret_of (by show Value.bool false=_;rw [hd]),HC.out,Keeps.refl _ _⟩
theorem Dirty_c (p q:Nat) (base at_:Int) (l:List Bool) (w:World) (h:CardsAt w p q base l)
  (hb:0≤base) (hb2:base≤1000000) (ha:-9223372036854775808≤at_) (ha2:at_≤9223372036854775807) (hl:l.length≤1000000) :
  Calls Try.prog 61 #[.pointer (some ⟨p,0,none⟩), .int .i64 at_] w fun e w'=>e=.returned (.bool (dirtyL base l at_))∧w=w':=by
 have H:=card_c p q base at_ l w h hb hb2 ha ha2 hl
 have h1:w.cell? ⟨p,1,none⟩=some (.slice (some ⟨q,0,none⟩) l.length l.length):=h.hp.cell 1
 have HM:Hid (dirtyL base l at_=(decide (0≤cardOf base l.length at_) && l.getD (cardOf base l.length at_).toNat false)):=rfl
 have HL:0≤cardOf base l.length at_→(cardOf base l.length at_).toNat<l.length:=cardOf_lt
 have hup:cardOf base l.length at_≤1000000:=by unfold cardOf;split <;> omega
 generalize dirtyL base l at_=l' at *
 generalize cardOf base l.length at_=k at *
 have HH:=Hz H;clear H
 have HC:=Hz h;clear h
 by_cases c:0≤k
 ·obtain ⟨k,rfl⟩:=Int.eq_ofNat_of_zero_le c
  have hk:=HL c
  simp only [Int.toNat_natCast] at hk HM
  have hq:w.cell? ⟨q,k,none⟩=some (.bool (l.getD k false)):=by rw [HC.out.hq.cell];simp [List.getD,hk]
  go_enter Try.func61,Try.ntmps61
  go_wp2_with (go_at_call 90;refine HH.out.mono ?_;rintro e w' ⟨rfl,rfl⟩)
  go_ret
  exact ⟨by rw [HM.out];simp [List.getD,hk],rfl⟩
 ·have hd:decide (0≤k)=false:=by simpa using c
  go_enter Try.func61,Try.ntmps61
  go_wp2_with (go_at_call 90;refine HH.out.mono ?_;rintro e w' ⟨rfl,rfl⟩)
  go_ret
  exact ⟨by rw [HM.out];simp [hd],rfl⟩
theorem info_bool:(Try.prog.info? 4).map (fun i=>(i.zero,i.size,i.bytes))=some (some (.bool false),1,1):=by kernel_rfl
theorem New_c (base words:Int) (w:World) (hw:words≤1000000) (hw2:-9223372036854775808≤words) :
  Calls Try.prog 38 #[.int .i64 base, .int .i64 words] w fun e w'=>e=.returned (.pointer (some ⟨w.heap.size+1,0,none⟩)) ∧
   CardsAt w' (w.heap.size+1) w.heap.size base (List.replicate (cardsN words) false)∧w'.heap.size=w.heap.size+2∧Keeps (fun _=>False) w w':=by
 obtain ⟨i0,hi,hz0,hz1,hz2⟩:=info_parts info_bool
 have HN:Hid (cardsN words=((max words 0+7)/8).toNat):=rfl
 have hmk:=fun (wx:World) (n:Nat) (h1:n≤9223372036854775807) (h2:n≤281474976710656)=>run_make_one (P:=Try.prog) wx 119 4 i0 (.bool false) Try.underlying119 hi hz0 rfl hz1 n (by rw [hz2];omega) h1
 have Hi:=Hz hi;clear hi hz0 hz1 hz2
 have HM:=Hz hmk;clear hmk
 by_cases c:0≤words
 ·have hm:(cardsN words:Int)=(words+8-1)/8:=by rw [HN.out];omega
  have hk:=fun (wx:World)=>HM.out wx (cardsN words) (by omega) (by omega)
  have h2:max words 0=words:=by omega
  rw [hm] at hk
  have Hm:=Hz hm;clear hm
  generalize hn:cardsN words=n at *
  clear hn
  go_enter Try.func38,Try.ntmps38
  go_wp2
  go_ret
  exact ⟨rfl,⟨.newAt _ (by simp) (by simp),(Blk.newAt _ rfl (by simp)).alloc _⟩,by simp,((Keeps.refl _ _).alloc _).alloc _⟩
 ·have hm:cardsN words=0:=by rw [HN.out];omega
  have hk:∀ wx:World,(Instr.makeSlice 119 (.int .i64 0) (.int .i64 0)).run Try.prog wx=.ok (.slice (some ⟨wx.heap.size,0,none⟩) 0 0) (wx.alloc (.cells #[] 4)):=fun wx=>by simpa using HM.out wx 0 (by omega) (by omega)
  have h2:max words 0=0:=by omega
  rw [hm]
  have Hm:=Hz hm;clear hm
  go_enter Try.func38,Try.ntmps38
  go_wp2
  go_ret
  exact ⟨rfl,⟨.newAt _ (by simp) (by simp),(Blk.newAt _ rfl (by simp)).alloc _⟩,by simp,((Keeps.refl _ _).alloc _).alloc _⟩
theorem Clear_c (p q:Nat) (base:Int) (l:List Bool) (w:World) (h:CardsAt w p q base l) :
  Calls Try.prog 67 #[.pointer (some ⟨p,0,none⟩)] w fun e w'=>e=.returned (.tuple #[]) ∧
   CardsAt w' p q base (List.replicate l.length false)∧Keeps (·=q) w w':=by
 have h1:w.cell? ⟨p,1,none⟩=some (.slice (some ⟨q,0,none⟩) l.length l.length):=h.hp.cell 1
 have hk:=run_clear_one (P:=Try.prog) w 119 0 4 (.bool false) Try.underlying119 (by intro w;kernel_rfl) rfl rfl q l.length l.length _ h.hq (by simp)
 have HC:=Hz h;clear h
 go_enter Try.func67,Try.ntmps67
 go_wp2
 go_end0
 refine ⟨rfl,⟨?_,?_⟩,?_⟩
 ·simpa using HC.out.hp.setRowOther HC.out.ne _
 ·simpa using HC.out.hq.setRow (List.replicate l.length (.bool false))
 ·exact (Keeps.refl (·=q) w).setRow (.inl rfl) _
end
section
open Go.RowKit
def entV (l:List (Int × Int)):List Value:=l.flatMap fun e=>[.int .i64 e.1, .int .i64 e.2]
theorem entV_length (l:List (Int × Int)):(entV l).length=l.length*2:=by
 induction l with
 | nil=>rfl
 | cons e l ih=>simp [entV] at ih ⊢;omega
structure SideAt (w:World) (p:Nat) (rv wv:Value) (regs wait:List (Int × Int)):Prop where
 hp:Blk w p [rv,wv] 53
 hr:Sl w 100 2 rv regs.length (entV regs)
 hw:Sl w 100 2 wv wait.length (entV wait)
 ap:∀ k,¬ (ownB rv k∧ownB wv k)
theorem SideAt.pr {w:World} {p:Nat} {rv wv:Value} {regs wait:List (Int × Int)} (h:SideAt w p rv wv regs wait):¬ ownB rv p:=fun hk=>by
 obtain ⟨_,cur,hc⟩:=h.hr.own hk
 exact (hc.ne h.hp (by decide)) rfl
theorem SideAt.pw {w:World} {p:Nat} {rv wv:Value} {regs wait:List (Int × Int)} (h:SideAt w p rv wv regs wait):¬ ownB wv p:=fun hk=>by
 obtain ⟨_,cur,hc⟩:=h.hw.own hk
 exact (hc.ne h.hp (by decide)) rfl
def SideFp (p:Nat) (rv wv:Value) (k:Nat):Prop:=k=p∨ownB rv k∨ownB wv k
theorem SideAt.fp_lt {w:World} {p:Nat} {rv wv:Value} {regs wait:List (Int × Int)} (h:SideAt w p rv wv regs wait) {k:Nat} (hk:SideFp p rv wv k):k<w.heap.size:=by
 rcases hk with rfl | hk | hk
 ·exact h.hp.lt
 ·exact (h.hr.own hk).1
 ·exact (h.hw.own hk).1
theorem SideAt.keep {w w':World} {p:Nat} {rv wv:Value} {regs wait:List (Int × Int)} {S:Nat→Prop} (h:SideAt w p rv wv regs wait) (k:Keeps S w w') (hn:∀ b,SideFp p rv wv b→¬ S b):SideAt w' p rv wv regs wait:=
 ⟨k.blk h.hp (hn p (.inl rfl)),h.hr.keep k (fun g hg=>hn g (.inr (.inl hg))),h.hw.keep k (fun g hg=>hn g (.inr (.inr hg))),h.ap⟩
def SideTo (w:World) (p:Nat) (rv wv:Value) (w':World) (regs wait:List (Int × Int)):Prop:=
 ∃ rv' wv',SideAt w' p rv' wv' regs wait∧Keeps (SideFp p rv wv) w w'∧∀ k,SideFp p rv' wv' k→SideFp p rv wv k∨w.heap.size≤k
theorem Full_c (p:Nat) (rv wv:Value) (regs wait:List (Int × Int)) (w:World) (h:SideAt w p rv wv regs wait) (h1:regs.length≤1000000) (h2:wait.length≤1000000) :
  Calls Try.prog 86 #[.pointer (some ⟨p,0,none⟩)] w fun e w'=>e=.returned (.bool (decide (24≤regs.length+wait.length)))∧Keeps (fun _=>False) w w':=by
 obtain ⟨ro,rc,rfl,_,_,_⟩:=h.hr.rd
 obtain ⟨wo,wc,rfl,_,_,_⟩:=h.hw.rd
 have c0:w.cell? ⟨p,0,none⟩=_:=h.hp.cell 0
 have c1:w.cell? ⟨p,1,none⟩=_:=h.hp.cell 1
 simp only [List.getElem?_cons_zero,List.getElem?_cons_succ] at c0 c1
 have hw:IntKind.i64.wrap ((regs.length:Int)+(wait.length:Int))=(regs.length:Int)+(wait.length:Int):=IntWalk.i64_in _ (by omega)
 go_enter Try.func86,Try.ntmps86
 go_wp2_with fail
 refine wp_region_ord [(0,0),(1,0),(2,0),(5,0),(6,0),(7,0),(3,0),(4,0),(8,0),(9,0),(10,0),(11,0),(12,0)] (fun w'=>w'.cell? ⟨p,0,none⟩=some (.slice ro regs.length rc)∧w'.cell? ⟨p,1,none⟩=some (.slice wo wait.length wc)) (by kernel_rfl) (by kernel_rfl) ⟨c0,c1⟩ ?_
 iterate 13 (refine wpOrd_pure rfl rfl _ (fun w' hG=>by obtain ⟨g0,g1⟩:=hG;go_simp;exact Gives.mk _ _) (fun K hK=>?_);go_simp;refine hK _ ?_;clear hK K)
 refine wpOrd_end ?_
 go_wp2_with fail
 go_ret
 refine ⟨ret_bool ?_,(Keeps.refl _ _).drew⟩
 congr 1
 simp only [eq_iff_iff]
 omega
theorem info_entry:(Try.prog.info? 100).map (fun i=>(i.zero,i.size,i.bytes))=some (some (.agg #[.int .i64 0, .int .i64 0]),2,16):=by kernel_rfl
theorem Reg_full (p:Nat) (rv wv:Value) (regs wait:List (Int × Int)) (g t:Int) (w:World) (h:SideAt w p rv wv regs wait) (h1:regs.length≤1000000) (h2:wait.length≤1000000) (hf:24≤regs.length+wait.length) :
  Calls Try.prog 48 #[.pointer (some ⟨p,0,none⟩), .agg #[.int .i64 g, .int .i64 t]] w fun e w'=>e=.returned (.bool false)∧Keeps (fun _=>False) w w':=by
 have H:=Hz (h.keep ((Kz w).alloc (.cells #[.int .i64 g, .int .i64 t] 100)) (fun _ _ h=>h));clear h
 have hd:decide (24≤regs.length+wait.length)=true:=by simpa using hf
 go_enter Try.func48,Try.ntmps48
 go_wp2_with fail
 refine (Full_c p rv wv regs wait _ H.out h1 h2).mono ?_
 rintro e w1 ⟨rfl,hk⟩
 rw [hd]
 go_wp2_with fail
 go_ret
 exact ⟨rfl,((Keeps.refl _ _).alloc _).trans hk⟩
theorem Reg_room (p:Nat) (rv wv:Value) (regs wait:List (Int × Int)) (g t:Int) (w:World) (h:SideAt w p rv wv regs wait) (h1:regs.length≤1000000) (h2:wait.length≤1000000) (hf:¬ 24≤regs.length+wait.length) :
  Calls Try.prog 48 #[.pointer (some ⟨p,0,none⟩), .agg #[.int .i64 g, .int .i64 t]] w fun e w'=>e=.returned (.bool true)∧SideTo w p rv wv w' (regs ++ [(g,t)]) wait:=by
 obtain ⟨i0,hi,hz0,hz1,hz2⟩:=info_parts info_entry
 have Hi:=Hz hi;have Hz0:=Hz hz0;have Hz1:=Hz hz1;have Hz2:=Hz hz2;clear hi hz0 hz1 hz2
 have HW:=Hz h
 have H:=Hz (h.keep ((Kz w).alloc (.cells #[.int .i64 g, .int .i64 t] 100)) (fun _ _ h=>h))
 have HB:=Hz (Blk.newAt (w:=w) (b:=w.heap.size) (T:=100) #[.int .i64 g, .int .i64 t] rfl rfl);clear h
 have hd:decide (24≤regs.length+wait.length)=false:=by simpa using hf
 obtain ⟨ro,rc,rfl,_,_,_⟩:=HW.out.hr.rd
 go_enter Try.func48,Try.ntmps48
 go_wp2_with fail
 refine (Full_c p _ wv regs wait _ H.out h1 h2).mono ?_
 rintro e w1 ⟨rfl,hk⟩
 rw [hd]
 have HB1:=Hz (hk.blk HB.out (fun h=>h))
 have HW1:=Hz (H.out.keep hk (fun _ _ h=>h))
 have HK1:=Hz (((Keeps.refl (SideFp p (.slice ro regs.length rc) wv) w).alloc (.cells #[.int .i64 g, .int .i64 t] 100)).trans (hk.mono fun _ _ h=>h.elim))
 clear hk
 have c0:=HW1.out.hp.cell 0
 have b0:=HB1.out.cell 0;have b1:=HB1.out.cell 1
 have f0:=HW1.out.hp.free 0
 simp only [List.getElem?_cons_zero,List.getElem?_cons_succ] at c0 b0 b1
 go_wp2_with fail
 refine wp_region_ord [(0,0),(1,0),(2,0),(3,0),(4,0),(5,0),(6,1),(7,1),(8,0),(9,0),(10,2)] (fun w'=>w'.cell? ⟨p,0,none⟩=some (.slice ro regs.length rc)∧w'.cell? ⟨w.heap.size,0,none⟩=some (.int .i64 g)∧w'.cell? ⟨w.heap.size,1,none⟩=some (.int .i64 t)) (by kernel_rfl) (by kernel_rfl) ⟨c0,b0,b1⟩ ?_
 iterate 6 (refine wpOrd_pure rfl rfl _ (fun w' hG=>by obtain ⟨g0,g1,g2⟩:=hG;go_simp;exact Gives.mk _ _) (fun K hK=>?_);go_simp;refine hK _ ?_;clear hK K)
 refine wpOrd_run rfl rfl (fun K hK=>?_);unfold gRun;go_simp;refine hK _ _ ?_ ?_
 ·have k:=(Kz w1).alloc (.cells #[.int .i64 g, .int .i64 t] 100)
  have b:=k.blk HW1.out.hp (fun h=>h)
  have b':=k.blk HB1.out (fun h=>h)
  exact ⟨b.cell 0,b'.cell 0,b'.cell 1⟩
 clear hK K
 refine wpOrd_run rfl rfl (fun K hK=>?_)
 refine gRun_app (.tmp 11) (.tmp 13) 51 rfl 100 i0 (.agg #[.int .i64 0, .int .i64 0]) 2 16 Try.underlying51 Hi.out Hz0.out Hz1.out Hz2.out rfl (by decide) _ regs.length (entV regs) rfl ?ha ⟨w1.heap.size,0,none⟩ 1 1 [.int .i64 g, .int .i64 t] rfl rfl ?hb ?hc ?hd ?he ?hf
 case ha=>exact HW1.out.hr.keep (((Kz w1).alloc _).drew) (fun _ _ h=>h)
 case hb=>exact news_at w1 100 #[.int .i64 g, .int .i64 t]
 case hc=>intro u hu;simp at hu;rcases hu with rfl | rfl <;> rfl
 case hd=>unfold maxLen;omega
 case he=>omega
 case hf=>
  intro v2 w2 hs2 hk2 ho2
  have hka:Keeps (fun _=>False) w1 ((w1.alloc (.cells #[.int .i64 g, .int .i64 t] 100)).drew):=((Kz w1).alloc _).drew
  have hp2:=hk2.blk (hka.blk HW1.out.hp (fun h=>h)) HW1.out.pr
  have hw2:=(HW1.out.hw.keep hka (fun _ _ h=>h)).keep hk2 (fun b hb hr=>HW1.out.ap b ⟨hr,hb⟩)
  have hb2:=hk2.blk (hka.blk HB1.out (fun h=>h)) (fun hr=>by have:=(HW.out.hr.own hr).1;omega)
  refine hK _ _ ⟨hp2.cell 0,hb2.cell 0,hb2.cell 1⟩ ?_
  clear hK K
  have hs3:Sl w2 100 2 v2 (regs ++ [(g,t)]).length (entV (regs ++ [(g,t)])):=by simpa [entV] using hs2
  obtain ⟨vo,vc,rfl,_,_,_⟩:=hs3.rd
  have HK2:Hid (Keeps (SideFp p (.slice ro regs.length rc) wv) w w2):=(HK1.out.trans (hka.mono fun _ _ h=>h.elim)).trans (hk2.mono fun k _ hk=>.inr (.inl hk))
  have HO:Hid (∀ k,ownB (.slice vo (regs ++ [(g,t)]).length vc) k→ownB (.slice ro regs.length rc) k∨w.heap.size≤k):=fun k hk=>by
   rcases ho2 k hk with h | h
   ·exact .inl h
   ·have:=HK1.out.size;simp at h;exact .inr (by omega)
  have HP:=Hz hp2;have HW2:=Hz hw2;have HS:=Hz hs3
  have HWL:Hid (∀ k,ownB wv k→k<w.heap.size):=fun k hk=>(HW.out.hw.own hk).1
  clear hs2 hk2 ho2 hka hp2 hw2 hb2 hs3
  have d0:=HP.out.cell 0
  have e0:=HP.out.free 0
  simp only [List.getElem?_cons_zero] at d0
  iterate 2 (refine wpOrd_pure rfl rfl _ (fun w' hG=>by obtain ⟨g0,g1,g2⟩:=hG;go_simp;exact Gives.mk _ _) (fun K hK=>?_);go_simp;refine hK _ ?_;clear hK K)
  refine wpOrd_last rfl rfl (fun K hK=>?_);unfold gRun;go_simp;refine hK _ _ ?_
  clear hK K
  refine wpOrd_end ?_
  go_wp2_with fail
  go_ret
  refine ⟨rfl,_,_,⟨by simpa using HP.out.setSame 0 _,HS.out.keep ((Keeps.refl (·=p) w2).setCell (p:=⟨p,0,none⟩) (.inl rfl) _) ?_,HW2.out.keep ((Keeps.refl (·=p) w2).setCell (p:=⟨p,0,none⟩) (.inl rfl) _) ?_,?_⟩,HK2.out.setCell (p:=⟨p,0,none⟩) (.inl (.inl rfl)) _,?_⟩
  ·rintro b hb rfl
   obtain ⟨_,cur,hc⟩:=HS.out.own hb
   exact (hc.ne HP.out (by decide)) rfl
  ·rintro b hb rfl
   obtain ⟨_,cur,hc⟩:=HW2.out.own hb
   exact (hc.ne HP.out (by decide)) rfl
  ·rintro k ⟨h1,h2⟩
   rcases HO.out k h1 with h | h
   ·exact HW.out.ap k ⟨h,h2⟩
   ·have:=HWL.out k h2;omega
  ·rintro k (h | h | h)
   ·exact .inl (.inl h)
   ·rcases HO.out k h with h | h
    ·exact .inl (.inr (.inl h))
    ·exact .inr h
   ·exact .inl (.inr (.inr h))
end
section
open Go.RowKit
theorem entV_get:∀ (l:List (Int × Int)) (i:Nat),i<l.length→(entV l)[i*2]? = some (.int .i64 (l.getD i (0,0)).1)∧(entV l)[i*2+1]? = some (.int .i64 (l.getD i (0,0)).2)
 | e :: l,0,_=>by simp [entV]
 | e :: l,i+1,h=>by
  have ih:=entV_get l i (by simpa using h)
  have h1:(i+1)*2=i*2+1+1:=by omega
  have h2:(i+1)*2+1=i*2+1+1+1:=by omega
  have e0:entV (e :: l)=.int .i64 e.1 :: .int .i64 e.2 :: entV l:=by simp [entV]
  rw [h2,h1,e0]
  simpa using ih
theorem Rd.ent {w:World} {ao:Option Addr} {l:List (Int × Int)} (h:Rd w ao (entV l)) (i:Nat) (hi:i<l.length) :
  ∃ g o,ao=some ⟨g,o,none⟩∧g<w.heap.size∧w.cell? ⟨g,o+i*2,none⟩=some (.int .i64 (l.getD i (0,0)).1)∧w.cell? ⟨g,o+i*2+1,none⟩=some (.int .i64 (l.getD i (0,0)).2):=by
 have hl:=entV_length l
 obtain ⟨g,o,rfl,hg,hc⟩:=h (by intro e;rw [e] at hl;simp at hl;omega)
 have hi2:=entV_get l i hi
 refine ⟨g,o,rfl,hg,?_,?_⟩
 ·rw [hc _ (by omega)];exact hi2.1
 ·rw [show o+i*2+1=o+(i*2+1) by omega,hc _ (by omega)];exact hi2.2
theorem PopF_c (b:Nat) (x g t:Int) (w:World) (h:w.cell? ⟨b,0,none⟩=some (.int .i64 x)) (hb:b<w.heap.size) :
  Calls Try.prog 88 #[.agg #[.int .i64 g, .int .i64 t], .pointer (some ⟨b,0,none⟩)] w fun e w'=>e=.returned (.bool (g == x))∧Keeps (fun _=>False) w w':=by
 go_enter Try.func88,Try.ntmps88
 go_wp2
 go_ret
 exact ⟨rfl,(Keeps.refl _ _).alloc _⟩
def findG (x:Int):List (Int × Int)→Nat
 | []=>0
 | e :: l=>if e.1=x then 0 else findG x l+1
def idxG (x:Int) (l:List (Int × Int)):Int:=if findG x l<l.length then (findG x l:Int) else -1
theorem findG_stop {x:Int}:∀ {l:List (Int × Int)} {k:Nat},k<l.length→(∀ j,j<k→(l.getD j (0,0)).1≠x)→(l.getD k (0,0)).1=x→findG x l=k
 | e :: l,0,_,_,h=>by simp at h;simp [findG,h]
 | e :: l,k+1,hk,hj,h=>by
  have h0:=hj 0 (by omega)
  simp at h0
  simp only [findG,h0,if_false]
  rw [findG_stop (k:=k) (by simpa using hk) (fun j hjk=>by simpa using hj (j+1) (by omega)) (by simpa using h)]
theorem findG_none {x:Int}:∀ {l:List (Int × Int)},(∀ j,j<l.length→(l.getD j (0,0)).1≠x)→findG x l=l.length
 | [],_=>rfl
 | e :: l,h=>by
  have h0:=h 0 (by simp)
  simp at h0
  simp only [findG,h0,if_false]
  rw [findG_none (fun j hj=>by simpa using h (j+1) (by simpa using hj))];rfl
theorem IndexFunc_c (ao:Option Addr) (cap b:Nat) (x:Int) (l:List (Int × Int)) (w:World) (h:Rd w ao (entV l)) (hc:w.cell? ⟨b,0,none⟩=some (.int .i64 x)) (hl:l.length≤9223372036854775806) (hb:b<w.heap.size) :
  Calls Try.prog 87 #[.slice ao l.length cap, .func (.func 88) #[] #[.pointer (some ⟨b,0,none⟩)]] w fun e w'=>
   e=.returned (.int .i64 (idxG x l))∧Keeps (fun _=>False) w w':=by
 have HR:=Hz h;have HB:=Hz hc;clear h hc
 go_enter Try.func87,Try.ntmps87
 go_wp2_with fail
 go_loopw [8] (fun i wr=>∃ k:Nat,k≤l.length∧i=.int .i64 k∧Hid (∀ j,j<k→(l.getD j (0,0)).1≠x)∧Keeps (fun _=>False) w wr) (fun i _=>l.length-(intOf i).toNat)
 case atStart=>exact ⟨0,Nat.zero_le _,rfl,(fun j hj=>by omega),Keeps.refl _ _⟩
 case round=>
  obtain ⟨k,hk,rfl,hno,hkk⟩:=hrel
  have HK:=Hz hkk;clear hkk
  by_cases hlt:k<l.length
  ·obtain ⟨g,o,rfl,_,hc0,hc1⟩:=(HR.out.keep HK.out (fun _ _ _ h=>h)).ent k hlt
   have hbb:wr.cell? ⟨b,0,none⟩=some (.int .i64 x):=by
    rw [←HB.out];exact World.cell?_of_block (w:=w) (a:=⟨b,0,none⟩) (HK.out.block b hb (fun h=>h))
   have hbs:b<wr.heap.size:=Nat.lt_of_lt_of_le hb HK.out.size
   generalize hv:l.getD k (0,0)=v at *
   have HV:=Hz hv;clear hv
   cases he:(v.1 == x)
   ·go_wp2_with (go_at_call 88;refine (PopF_c b x v.1 v.2 _ hbb hbs).mono ?_;rintro e w2 ⟨rfl,hk2⟩)
    go_roundw
    case rel=>exact ⟨k+1,by omega,by go_num,fun j hj=>by
     by_cases e:j=k
     ·subst e;rw [HV.out];simpa using he
     ·exact hno.out j (by omega),HK.out.trans hk2⟩
    case measure=>simp [intOf];omega
   ·have HE:=Hz (findG_stop hlt hno.out (by rw [HV.out];simpa using he))
    go_wp2_with (go_at_call 88;refine (PopF_c b x v.1 v.2 _ hbb hbs).mono ?_;rintro e w2 ⟨rfl,hk2⟩)
    go_ret
    exact ⟨ret_int (by unfold idxG;rw [HE.out,if_pos hlt]),HK.out.trans hk2⟩
  ·obtain rfl:k=l.length:=by omega
   have HE:=Hz (findG_none hno.out)
   go_wp2_with fail
   go_ret
   exact ⟨ret_int (by unfold idxG;rw [HE.out,if_neg (by omega)]),HK.out⟩
theorem one_entV {l:List (Int × Int)} {u:Value} (h:u ∈ entV l):u.oneCell'=true:=by
 simp only [entV,List.mem_flatMap] at h
 obtain ⟨e,_,he⟩:=h
 simp at he
 rcases he with rfl | rfl <;> rfl
theorem entV_cons (e:Int × Int) (l:List (Int × Int)):entV (e :: l)=.int .i64 e.1 :: .int .i64 e.2 :: entV l:=by simp [entV]
theorem entV_erase:∀ {l:List (Int × Int)} {i:Nat},i<l.length→entV (l.eraseIdx i)=(entV l).take (i*2) ++ (entV l).drop ((i+1)*2)
 | e :: l,0,_=>by simp [entV_cons]
 | e :: l,i+1,h=>by
  have ih:=entV_erase (l:=l) (i:=i) (by simpa using h)
  have e1:(i+1)*2=i*2+1+1:=by omega
  have e2:(i+1+1)*2=i*2+1+1+1+1:=by omega
  rw [List.eraseIdx_cons_succ,entV_cons,entV_cons,ih,e2,e1]
  rfl
theorem cut_row {cur news rest:List Value} {o k j:Nat} (hk:o+k≤cur.length) (hj:j=k+news.length) (tail:List Value) :
  (((cur.take (o+k) ++ news ++ tail).take (o+j) ++ rest).drop o).take j=(cur.drop o).take k ++ news:=by
 subst hj
 have h1:(cur.take (o+k) ++ news ++ tail).take (o+(k+news.length))=cur.take (o+k) ++ news:=by
  apply List.take_left'
  simp;omega
 rw [h1,List.append_assoc,List.drop_append_of_le_length (by simp;omega),List.drop_take,show o+k-o=k by omega,←List.append_assoc]
 apply List.take_left'
 simp;omega
theorem Delete_c (g o cap i m:Nat) (l:List (Int × Int)) (cur:List Value) (w:World) (hb:Blk w g cur 100) (hn:l.length=i+1+m) (hcap:i+1+m≤cap) (hcm:cap≤9223372036854775807) (hoc:o+cap*2≤cur.length)
  (hx:(cur.drop o).take (l.length*2)=entV l) :
  Calls Try.prog 89 #[.slice (some ⟨g,o,none⟩) (i+1+m) cap, .int .i64 i, .int .i64 ((i:Int)+1)] w fun e w'=>
   e=.returned (.slice (some ⟨g,o,none⟩) (i+m) cap)∧Sl w' 100 2 (.slice (some ⟨g,o,none⟩) (i+m) cap) (i+m) (entV (l.eraseIdx i))∧Keeps (·=g) w w':=by
 obtain ⟨i0,hi0,hz0,hz1,hz2⟩:=info_parts info_entry
 have Hi:=Hz hi0;have Hz1:=Hz hz1;clear hi0 hz0 hz1 hz2
 have HX:=Hz hx;have HB:=Hz hb;have HN:=Hz hn;clear hx hb hn
 have hne:((i:Int) == (i:Int)+1)=false:=by simp;omega
 have b1:(0:Int)≤(i:Int)+1:=by omega
 have b2:(i:Int)+1≤((i+1+m:Nat):Int):=by omega
 have b3:(i:Int)+1≤(i:Int)+1+(m:Int):=by omega
 have b4:(i:Int)≤(cap:Int):=by omega
 have b5:(i:Int)≤(i:Int)+1:=by omega
 by_cases hcc:cap=i+1
 ·have hif:(if cap=i+1 then some (⟨g,o,none⟩:Addr) else some ⟨g,o+(i+1)*2,none⟩)=some ⟨g,o,none⟩:=if_pos hcc
  have hif2:(if cap=i+m then some (⟨g,o,none⟩:Addr) else some ⟨g,o+(i+m)*2,none⟩)=some ⟨g,o+(i+m)*2,none⟩:=if_neg (by omega)
  have HCC:=Hz hcc;clear hcc
  have hm0:m≤0:=by have:=HCC.out;omega
  go_enter Try.func89,Try.ntmps89
  go_wp2_with fail
  refine wp_region_ord [(0,0),(1,0),(2,0),(3,0),(4,0),(5,0),(6,1),(7,0)] (fun _=>True) (by kernel_rfl) (by kernel_rfl) trivial ?_
  iterate 6 (refine wpOrd_pure rfl rfl _ (fun w' hG=>by obtain ⟨_⟩:=hG;go_simp;exact Gives.mk _ _) (fun K hK=>?_);go_simp;refine hK _ ?_;clear hK K)
  refine wpOrd_run rfl rfl (fun K hK=>?_)
  refine gRun_app_room (.tmp 22) (.tmp 25) 51 rfl 100 i0 2 Try.underlying51 Hi.out Hz1.out g o i cap cur rfl HB.out ⟨g,o,none⟩ m (cap-(i+1)) ((entV l).drop ((i+1)*2)) ?hxq ?hlq ?hnq ?h1q ?hrq hoc ?hkq
  case hxq=>rfl
  case hlq=>rw [List.length_drop,entV_length,HN.out];omega
  case hnq=>
   intro j u hu
   have hj:=(List.getElem?_eq_some_iff.1 hu).1
   rw [List.length_drop,entV_length,HN.out] at hj
   omega
  case h1q=>intro u hu;exact one_entV (List.mem_of_mem_drop hu)
  case hrq=>omega
  case hkq=>
   refine hK _ _ trivial ?_
   clear hK K
   have hb1:Blk (w.drew.setRow g (cur.take (o+i*2) ++ (entV l).drop ((i+1)*2) ++ cur.drop (o+i*2+((entV l).drop ((i+1)*2)).length)).toArray) g _ 100:=Blk.setRow (w:=w.drew) HB.out _
   have hk1:Keeps (·=g) w (w.drew.setRow g (cur.take (o+i*2) ++ (entV l).drop ((i+1)*2) ++ cur.drop (o+i*2+((entV l).drop ((i+1)*2)).length)).toArray):=((Keeps.refl (·=g) w).drew).setRow (g:=g) (.inl rfl) _
   generalize hc1:cur.take (o+i*2) ++ (entV l).drop ((i+1)*2) ++ cur.drop (o+i*2+((entV l).drop ((i+1)*2)).length)=c1 at *
   generalize w.drew.setRow g _=w1 at *
   have hln:((entV l).drop ((i+1)*2)).length=m*2:=by rw [List.length_drop,entV_length,HN.out];omega
   have hl1:c1.length=cur.length:=by
    rw [←hc1]
    simp only [List.length_append,List.length_take,List.length_drop,hln];simp at hln;omega
   obtain ⟨zs,hzl,hclr⟩:=run_clear_at (P:=Try.prog) w1 51 0 100 (.agg #[.int .i64 0, .int .i64 0]) Try.underlying51 (by intro w;kernel_rfl) (by intro u hu;simp [Value.cells] at hu;subst hu;rfl) (by decide) g (o+(i+m)*2) (i+1+m-(i+m)) (cap-(i+m)) _ hb1 (by rw [hl1];show o+(i+m)*2+(i+1+m-(i+m))*2≤_;omega)
   generalize hc2:c1.take (o+(i+m)*2) ++ zs ++ c1.drop (o+(i+m)*2+zs.length)=c2 at *
   have HB2:=Hz (hb1.setRow c2)
   have HK2:=Hz (hk1.setRow (g:=g) (.inl rfl) c2.toArray)
   have HL:=Hz hl1;have HZ:=Hz hzl;have HLN:=Hz hln;have HC1:=Hz hc1;have HC2:=Hz hc2
   clear hb1 hk1 hl1 hzl hln hc1 hc2
   iterate 1 (refine wpOrd_pure rfl rfl _ (fun w' hG=>by obtain ⟨_⟩:=hG;go_simp;exact Gives.mk _ _) (fun K hK=>?_);go_simp;refine hK _ ?_;clear hK K)
   refine wpOrd_end ?_
   go_wp2_with fail
   go_ret
   refine ⟨rfl,⟨?_, .inr ⟨g,o,cap,_,rfl,HB2.out,by omega,by unfold maxLen;omega,?_,?_⟩⟩,HK2.out⟩
   ·rw [entV_length,List.length_eraseIdx_of_lt (by rw [HN.out];omega),HN.out];omega
   ·have h1:=HL.out;have h2:=HZ.out
    have h3:zs.length=(i+1+m-(i+m))*2:=h2
    rw [←HC2.out]
    simp only [List.length_append,List.length_take,List.length_drop]
    omega
   ·rw [←HC2.out,←HC1.out,List.append_assoc _ zs _,cut_row (by omega) (by rw [HLN.out];omega),entV_erase (by rw [HN.out];omega)]
    congr 1
    rw [←HX.out,HN.out,List.take_take,Nat.min_eq_left (by omega)]
 ·go_enter Try.func89,Try.ntmps89
  go_wp2_with fail
  refine wp_region_ord [(0,0),(1,0),(2,0),(3,0),(4,0),(5,0),(6,1),(7,0)] (fun _=>True) (by kernel_rfl) (by kernel_rfl) trivial ?_
  iterate 6 (refine wpOrd_pure rfl rfl _ (fun w' hG=>by obtain ⟨_⟩:=hG;go_simp;exact Gives.mk _ _) (fun K hK=>?_);go_simp;refine hK _ ?_;clear hK K)
  refine wpOrd_run rfl rfl (fun K hK=>?_)
  refine gRun_app_room (.tmp 22) (.tmp 25) 51 rfl 100 i0 2 Try.underlying51 Hi.out Hz1.out g o i cap cur rfl HB.out ⟨g,o+(i+1)*2,none⟩ m (cap-(i+1)) ((entV l).drop ((i+1)*2)) ?hx ?hl ?hn ?h1 ?hr hoc ?hk
  case hx=>rfl
  case hl=>rw [List.length_drop,entV_length,HN.out];omega
  case hn=>
   intro j u hu
   have hj:=(List.getElem?_eq_some_iff.1 hu).1
   rw [List.length_drop,entV_length,HN.out] at hj
   rw [addr_add]
   show w.cell? ⟨g,o+(i+1)*2+j,none⟩=some u
   rw [HB.out.cell,←hu,←HX.out,HN.out,List.getElem?_drop,List.getElem?_take,if_pos (by omega),List.getElem?_drop]
   congr 1;omega
  case h1=>intro u hu;exact one_entV (List.mem_of_mem_drop hu)
  case hr=>omega
  case hk=>
   refine hK _ _ trivial ?_
   clear hK K
   have hb1:Blk (w.drew.setRow g (cur.take (o+i*2) ++ (entV l).drop ((i+1)*2) ++ cur.drop (o+i*2+((entV l).drop ((i+1)*2)).length)).toArray) g _ 100:=Blk.setRow (w:=w.drew) HB.out _
   have hk1:Keeps (·=g) w (w.drew.setRow g (cur.take (o+i*2) ++ (entV l).drop ((i+1)*2) ++ cur.drop (o+i*2+((entV l).drop ((i+1)*2)).length)).toArray):=((Keeps.refl (·=g) w).drew).setRow (g:=g) (.inl rfl) _
   generalize hc1:cur.take (o+i*2) ++ (entV l).drop ((i+1)*2) ++ cur.drop (o+i*2+((entV l).drop ((i+1)*2)).length)=c1 at *
   generalize w.drew.setRow g _=w1 at *
   have hln:((entV l).drop ((i+1)*2)).length=m*2:=by rw [List.length_drop,entV_length,HN.out];omega
   have hl1:c1.length=cur.length:=by
    rw [←hc1]
    simp only [List.length_append,List.length_take,List.length_drop,hln];simp at hln;omega
   obtain ⟨zs,hzl,hclr⟩:=run_clear_at (P:=Try.prog) w1 51 0 100 (.agg #[.int .i64 0, .int .i64 0]) Try.underlying51 (by intro w;kernel_rfl) (by intro u hu;simp [Value.cells] at hu;subst hu;rfl) (by decide) g (o+(i+m)*2) (i+1+m-(i+m)) (cap-(i+m)) _ hb1 (by rw [hl1];show o+(i+m)*2+(i+1+m-(i+m))*2≤_;omega)
   generalize hc2:c1.take (o+(i+m)*2) ++ zs ++ c1.drop (o+(i+m)*2+zs.length)=c2 at *
   have HB2:=Hz (hb1.setRow c2)
   have HK2:=Hz (hk1.setRow (g:=g) (.inl rfl) c2.toArray)
   have HL:=Hz hl1;have HZ:=Hz hzl;have HLN:=Hz hln;have HC1:=Hz hc1;have HC2:=Hz hc2
   clear hb1 hk1 hl1 hzl hln hc1 hc2
   iterate 1 (refine wpOrd_pure rfl rfl _ (fun w' hG=>by obtain ⟨_⟩:=hG;go_simp;exact Gives.mk _ _) (fun K hK=>?_);go_simp;refine hK _ ?_;clear hK K)
   refine wpOrd_end ?_
   go_wp2_with fail
   go_ret
   refine ⟨rfl,⟨?_, .inr ⟨g,o,cap,_,rfl,HB2.out,by omega,by unfold maxLen;omega,?_,?_⟩⟩,HK2.out⟩
   ·rw [entV_length,List.length_eraseIdx_of_lt (by rw [HN.out];omega),HN.out];omega
   ·have h1:=HL.out;have h2:=HZ.out
    have h3:zs.length=(i+1+m-(i+m))*2:=h2
    rw [←HC2.out]
    simp only [List.length_append,List.length_take,List.length_drop]
    omega
   ·rw [←HC2.out,←HC1.out,List.append_assoc _ zs _,cut_row (by omega) (by rw [HLN.out];omega),entV_erase (by rw [HN.out];omega)]
    congr 1
    rw [←HX.out,HN.out,List.take_take,Nat.min_eq_left (by omega)]
end
section
open Go.RowKit
theorem Pop_none (p:Nat) (rv wv:Value) (regs wait:List (Int × Int)) (x:Int) (w:World) (h:SideAt w p rv wv regs wait) (h2:wait.length≤1000000) (hf:¬ findG x wait<wait.length) :
  Calls Try.prog 49 #[.pointer (some ⟨p,0,none⟩), .int .i64 x] w fun e w'=>e=.returned (.tuple #[.int .i64 0, .bool false])∧Keeps (fun _=>False) w w':=by
 obtain ⟨wo,wc,rfl,hrd,_,_⟩:=h.hw.rd
 have hka:=(Kz w).alloc (.cells #[.int .i64 x] 2)
 have H:=Hz (h.keep hka (fun _ _ h=>h))
 have c1:=H.out.hp.cell 1
 simp only [List.getElem?_cons_zero,List.getElem?_cons_succ] at c1
 have HR:=Hz (hrd.keep hka (fun _ _ _ h=>h))
 have HE:=Hz (show idxG x wait=-1 by unfold idxG;rw [if_neg hf])
 have hbx:(w.alloc (.cells #[.int .i64 x] 2)).cell? ⟨w.heap.size,0,none⟩=some (.int .i64 x):=by simp
 have HBX:=Hz hbx
 clear h hrd hka hf hbx
 go_enter Try.func49,Try.ntmps49
 go_wp2_with fail
 refine (IndexFunc_c wo wc w.heap.size x wait _ HR.out HBX.out (by omega) (by simp)).mono ?_
 rintro e w1 ⟨rfl,hk⟩
 rw [HE.out]
 go_wp2_with fail
 go_ret2
 exact ⟨rfl,((Keeps.refl _ _).alloc _).trans hk⟩
theorem Sl.laid {w:World} {e size:Nat} {v:Value} {n:Nat} {xs:List Value} (h:Sl w e size v n xs) (hn:0<n) :
  ∃ g o cap cur,v=.slice (some ⟨g,o,none⟩) n cap∧Blk w g cur e∧n≤cap∧cap≤maxLen∧o+cap*size≤cur.length∧(cur.drop o).take (n*size)=xs:=by
 rcases h.2 with ⟨_,h0⟩ | h
 ·omega
 ·exact h
theorem Pop_some (p:Nat) (rv wv:Value) (regs wait:List (Int × Int)) (x:Int) (i m:Nat) (w:World) (h:SideAt w p rv wv regs wait) (h2:wait.length≤1000000) (hf:findG x wait=i) (hm:wait.length=i+1+m) :
  Calls Try.prog 49 #[.pointer (some ⟨p,0,none⟩), .int .i64 x] w fun e w'=>e=.returned (.tuple #[.int .i64 (wait.getD i (0,0)).2, .bool true])∧SideTo w p rv wv w' regs (wait.eraseIdx i):=by
 have HW:=Hz h
 have hka:=(Kz w).alloc (.cells #[.int .i64 x] 2)
 have h1:=h.keep hka (fun _ _ h=>h)
 obtain ⟨g,o,cap,cur,rfl,hb,hnc,hcm,hoc,hx⟩:=h1.hw.laid (by omega)
 obtain ⟨_,_,e,hrd,_,_⟩:=h1.hw.rd
 cases e
 have H:=Hz h1
 have c1:=H.out.hp.cell 1
 simp only [List.getElem?_cons_zero,List.getElem?_cons_succ] at c1
 have HR:=Hz hrd
 have HE:=Hz (show idxG x wait=(i:Int) by unfold idxG;rw [hf,if_pos (by omega)])
 have hbx:(w.alloc (.cells #[.int .i64 x] 2)).cell? ⟨w.heap.size,0,none⟩=some (.int .i64 x):=by simp
 have HBX:=Hz hbx
 have HM:=Hz hm
 have hcm':cap≤9223372036854775807:=by simpa [maxLen] using hcm
 have HX:=Hz hx;have HB:=Hz hb
 have hlo:i+1+m≤wait.length:=by omega
 have h2':i+1+m≤1000000:=by omega
 have hlt:i<wait.length:=by omega
 clear h hrd hf hbx hm h1 hka hx hb hcm
 go_enter Try.func49,Try.ntmps49
 go_wp2_with fail
 refine (IndexFunc_c (some ⟨g,o,none⟩) cap w.heap.size x wait _ HR.out HBX.out (by omega) (by simp)).mono ?_
 rintro e w1 ⟨rfl,hk⟩
 rw [HE.out]
 have HK1:=Hz (((Keeps.refl (SideFp p rv (.slice (some ⟨g,o,none⟩) wait.length cap)) w).alloc (.cells #[.int .i64 x] 2)).trans (hk.mono fun _ _ h=>h.elim))
 have H1:=Hz (H.out.keep hk (fun _ _ h=>h))
 have HB1:=Hz (hk.blk HB.out (fun h=>h))
 obtain ⟨g',o',e',_,d0,d1⟩:=((HR.out.keep hk (fun _ _ _ h=>h))).ent i (by omega)
 cases e'
 clear hk c1
 have c1:=H1.out.hp.cell 1
 simp only [List.getElem?_cons_zero,List.getElem?_cons_succ] at c1
 have ht:(i:Int)<((wait.length:Nat):Int):=by omega
 generalize hv:wait.getD i (0,0)=v at *
 have HV:=Hz hv;clear hv
 go_wp2_with fail
 rw [HM.out]
 refine (Delete_c g o cap i m wait cur _ HB1.out HM.out (by omega) hcm' hoc HX.out).mono ?_
 rintro e w2 ⟨rfl,hs2,hk2⟩
 have hpg:p≠g:=fun e=>by subst e;exact (HB1.out.ne H1.out.hp (by decide)) rfl
 have HP2:=Hz (hk2.blk H1.out.hp hpg)
 have HR2:=Hz (H1.out.hr.keep hk2 (by rintro b hb rfl;exact H1.out.ap b ⟨hb,rfl⟩))
 have HK2:Hid (Keeps (SideFp p rv (.slice (some ⟨g,o,none⟩) wait.length cap)) w w2):=HK1.out.trans (hk2.mono (by rintro k _ rfl;exact .inr (.inr rfl)))
 have HS2:=Hz hs2
 have e1:=HP2.out.cell 1
 have f1:=HP2.out.free 1
 simp only [List.getElem?_cons_zero,List.getElem?_cons_succ] at e1
 clear hs2 hk2 c1 d0 d1
 go_wp2_with fail
 go_ret2
 have hlen:(wait.eraseIdx i).length=i+m:=by rw [List.length_eraseIdx_of_lt hlt,HM.out];omega
 refine ⟨by rw [HV.out];rfl,rv, .slice (some ⟨g,o,none⟩) (i+m) cap,⟨by simpa using HP2.out.setSame 1 _,HR2.out.keep ((Keeps.refl (·=p) w2).setCell (p:=⟨p,1,none⟩) (.inl rfl) _) ?_,?_,?_⟩,HK2.out.setCell (p:=⟨p,1,none⟩) (.inl (.inl rfl)) _,?_⟩
 ·rintro b hb rfl
  exact HW.out.pr hb
 ·rw [hlen]
  exact HS2.out.keep ((Keeps.refl (·=p) w2).setCell (p:=⟨p,1,none⟩) (.inl rfl) _) (by rintro b hb rfl;simp [ownB,Value.ownBlock] at hb;exact hpg hb.symm)
 ·rintro k ⟨a1,a2⟩
  exact HW.out.ap k ⟨a1,a2⟩
 ·rintro k (a | a | a)
  ·exact .inl (.inl a)
  ·exact .inl (.inr (.inl a))
  ·exact .inl (.inr (.inr a))
theorem info_int64:(Try.prog.info? 2).map (fun i=>(i.zero,i.size,i.bytes))=some (some (.int .i64 0),1,8):=by kernel_rfl
def atG (x:Int) (l:List (Int × Int)):List Int:=(l.filter fun e=>e.1 == x).map (·.2)
theorem atG_step {x:Int} {l:List (Int × Int)} {k:Nat} (h:k<l.length):atG x (l.take (k+1))=atG x (l.take k) ++ if ((l.getD k (0,0)).1 == x)=true then [(l.getD k (0,0)).2] else []:=by
 unfold atG
 rw [List.take_succ_eq_append_getElem h,List.filter_append,List.map_append]
 congr 1
 have hg:l.getD k (0,0)=l[k]:=by simp [List.getD,h]
 rw [hg]
 cases hc:(l[k].1 == x) <;> simp [hc]
theorem atG_le (x:Int) (l:List (Int × Int)):(atG x l).length≤l.length:=by
 unfold atG;rw [List.length_map];exact List.length_filter_le _ _
def LongsRet (w:World) (e:Ending) (w':World) (l:List Int):Prop:=
 ∃ ao cap,e=.returned (.slice ao l.length cap)∧Sl w' 2 1 (.slice ao l.length cap) l.length (l.map (Value.int .i64))∧Keeps (fun _=>False) w w'∧∀ k,ownB (.slice ao l.length cap) k→w.heap.size≤k
theorem At_c (p:Nat) (rv wv:Value) (regs wait:List (Int × Int)) (x:Int) (w:World) (h:SideAt w p rv wv regs wait) (h2:wait.length≤1000000) :
  Calls Try.prog 84 #[.pointer (some ⟨p,0,none⟩), .int .i64 x] w fun e w'=>LongsRet w e w' (atG x wait):=by
 obtain ⟨i0,hi,hz0,hz1,hz2⟩:=info_parts info_int64
 have Hi:=Hz hi;have Hz0:=Hz hz0;have Hz1:=Hz hz1;have Hz2:=Hz hz2;clear hi hz0 hz1 hz2
 obtain ⟨wo,wc,rfl,hrd,_,_⟩:=h.hw.rd
 have c1:=h.hp.cell 1
 simp only [List.getElem?_cons_zero,List.getElem?_cons_succ] at c1
 have H:=Hz h;have HR:=Hz hrd
 clear h hrd
 go_enter Try.func84,Try.ntmps84
 go_wp2_with fail
 go_loopw [5,13] (fun v i wr=>∃ k:Nat,k≤wait.length∧i=.int .i64 k∧Sl wr 2 1 v (atG x (wait.take k)).length ((atG x (wait.take k)).map (Value.int .i64))∧Keeps (fun _=>False) w wr∧∀ k,ownB v k→w.heap.size≤k) (fun _ i _=>wait.length-(intOf i).toNat)
 case atStart=>exact ⟨0,Nat.zero_le _,rfl,by simpa [atG] using Sl.nil w 2 1,Keeps.refl _ _,by intro k hk;simp [ownB,Value.ownBlock] at hk⟩
 case round=>
  obtain ⟨k,hk,rfl,hs,hkk,how⟩:=hrel
  have HK:=Hz hkk;have HS:=Hz hs;have HO:=Hz how;clear hkk hs how
  have hal:(atG x (wait.take k)).length≤k:=Nat.le_trans (atG_le _ _) (List.length_take_le _ _)
  by_cases hlt:k<wait.length
  ·obtain ⟨g,o,rfl,_,d0,d1⟩:=((HR.out.keep HK.out (fun _ _ _ h=>h))).ent k hlt
   have HST:=Hz (atG_step (x:=x) hlt)
   generalize wait.getD k (0,0)=v at *
   cases hv:(v.1 == x)
   ·go_wp2_with fail
    go_roundw
    case rel=>exact ⟨k+1,by omega,by go_num,by rw [HST.out,hv];simpa using HS.out.keep ((Kz wr).alloc _) (fun _ _ h=>h),HK.out.alloc _,HO.out⟩
    case measure=>simp [intOf];omega
   ·go_wp2_with (at_builtin;refine wpList_app rfl (.tmp 21) (.tmp 24) 34 rfl 2 i0 (.int .i64 0) 1 8 Try.underlying34 Hi.out Hz0.out Hz1.out Hz2.out rfl (by decide) _ (atG x (wait.take k)).length ((atG x (wait.take k)).map (Value.int .i64)) rfl ?ha ⟨wr.heap.size+1,0,none⟩ 1 1 [.int .i64 v.2] rfl rfl ?hb ?hc ?hd ?he ?hf)
    case ha=>exact HS.out.keep (((Kz wr).alloc _).alloc _) (fun _ _ h=>h)
    case hb=>
     have:=news_at (wr.alloc (Obj.cells #[.int .i64 v.1, .int .i64 v.2] 100)) 2 #[.int .i64 v.2]
     simpa using this
    case hc=>intro u hu;simp at hu;subst hu;rfl
    case hd=>unfold maxLen;omega
    case he=>omega
    case hf=>
     intro v2 w2 hs2 hk2 ho2
     have HK2:=Hz (((HK.out.alloc (Obj.cells #[.int .i64 v.1, .int .i64 v.2] 100)).alloc (Obj.cells #[.int .i64 v.2] 2)).then hk2 (fun j hj=>.inr (HO.out j hj)))
     have HO2:Hid (∀ j,ownB v2 j→w.heap.size≤j):=fun j hj=>by
      rcases ho2 j hj with h | h
      ·exact HO.out j h
      ·have:=HK.out.size;first | omega | (simp at h;omega)
     have HS2:=Hz hs2
     clear hs2 hk2 ho2
     go_wp2_with fail
     go_roundw
     case rel=>exact ⟨k+1,by omega,by go_num,by rw [HST.out,if_pos hv];simpa using HS2.out,HK2.out,HO2.out⟩
     case measure=>simp [intOf];omega
  ·obtain rfl:k=wait.length:=by omega
   go_wp2_with fail
   go_ret
   have hs:=HS.out
   rw [List.take_length] at hs
   obtain ⟨ao,cap,rfl,_,_,_⟩:=hs.rd
   exact ⟨ao,cap,rfl,hs,HK.out,HO.out⟩
def EntsRet (w:World) (e:Ending) (w':World) (l:List (Int × Int)):Prop:=
 ∃ ao cap,e=.returned (.slice ao l.length cap)∧Sl w' 100 2 (.slice ao l.length cap) l.length (entV l)∧Keeps (fun _=>False) w w'∧∀ k,ownB (.slice ao l.length cap) k→w.heap.size≤k
theorem Clone_c (v:Value) (l:List (Int × Int)) (w:World) (h:Sl w 100 2 v l.length (entV l)) (hl:l.length≤1000000) :
  Calls Try.prog 101 #[v] w fun e w'=>EntsRet w e w' l:=by
 obtain ⟨i0,hi,hz0,hz1,hz2⟩:=info_parts info_entry
 have Hi:=Hz hi;have Hz0:=Hz hz0;have Hz1:=Hz hz1;have Hz2:=Hz hz2;clear hi hz0 hz1 hz2
 have hxl:=h.1
 rcases h.2 with ⟨rfl,hn⟩ | ⟨g,o,cap,cur,rfl,hb,hnc,hcm,hoc,hx⟩
 ·have hl0:l=[]:=List.eq_nil_of_length_eq_zero hn
  subst hl0
  have hne:=fun (wx:World)=>Lib.run_eql_slice_nil (P:=Try.prog) wx 51 100 none 0 0 0 0 Try.underlying51
  go_enter Try.func101,Try.ntmps101
  go_wp2_with fail
  go_ret
  exact ⟨none,0,rfl,Sl.nil _ _ _,Keeps.refl _ _,by intro k hk;simp [ownB,Value.ownBlock] at hk⟩
 ·have hne:=fun (wx:World)=>Lib.run_eql_slice_nil (P:=Try.prog) wx 51 100 (some ⟨g,o,none⟩) l.length cap 0 0 Try.underlying51
  have HX:=Hz hx;have HB:=Hz hb
  clear hx hb h hxl
  go_enter Try.func101,Try.ntmps101
  go_wp2_with (at_builtin;refine wpList_app rfl (.tmp 5) (.tmp 6) 51 rfl 100 i0 (.agg #[.int .i64 0, .int .i64 0]) 2 16 Try.underlying51 Hi.out Hz0.out Hz1.out Hz2.out rfl (by decide) _ 0 [] rfl ?ha ⟨g,o,none⟩ l.length cap (entV l) rfl ?hl ?hb ?hc ?hd ?he ?hf)
  case ha=>exact ⟨rfl, .inr ⟨w.heap.size,0,0,[],rfl,Blk.newAt _ rfl rfl,Nat.le_refl _,Nat.zero_le _,by simp,by simp⟩⟩
  case hl=>exact entV_length l
  case hb=>
   intro j u hu
   have hj:=(List.getElem?_eq_some_iff.1 hu).1
   rw [entV_length] at hj
   rw [addr_add,(HB.out.alloc _).cell,←hu,←HX.out,List.getElem?_take,if_pos hj,List.getElem?_drop]
  case hc=>intro u hu;exact one_entV hu
  case hd=>unfold maxLen;omega
  case he=>omega
  case hf=>
   intro v2 w2 hs2 hk2 ho2
   go_wp2_with fail
   go_ret
   obtain ⟨ao,c2,rfl,_,_,_⟩:=hs2.rd
   refine ⟨ao,c2,rfl,hs2,((Kz w).alloc _).then hk2 (fun j hj=>by simp [ownB,Value.ownBlock] at hj;exact .inr (by omega)),fun j hj=>?_⟩
   rcases ho2 j hj with h | h
   ·simp [ownB,Value.ownBlock] at h;omega
   ·first | omega | (simp at h;omega)
def SideRet (w:World) (e:Ending) (w':World) (regs wait:List (Int × Int)):Prop:=
 ∃ p' rv' wv',e=.returned (.pointer (some ⟨p',0,none⟩))∧SideAt w' p' rv' wv' regs wait∧Keeps (fun _=>False) w w'∧∀ k,SideFp p' rv' wv' k→w.heap.size≤k
theorem Copy_c (p:Nat) (rv wv:Value) (regs wait:List (Int × Int)) (w:World) (h:SideAt w p rv wv regs wait) (h1:regs.length≤1000000) (h2:wait.length≤1000000) :
  Calls Try.prog 70 #[.pointer (some ⟨p,0,none⟩)] w fun e w'=>SideRet w e w' regs wait:=by
 obtain ⟨ro,rc,rfl,_,_,_⟩:=h.hr.rd
 obtain ⟨wo,wc,rfl,_,_,_⟩:=h.hw.rd
 have c0:=h.hp.cell 0
 have c1:=h.hp.cell 1
 simp only [List.getElem?_cons_zero,List.getElem?_cons_succ] at c0 c1
 have H:=Hz h;clear h
 go_enter Try.func70,Try.ntmps70
 go_wp2_with fail
 refine wp_region_ord [(0,0),(1,0),(2,0),(5,0),(6,0),(7,0),(3,0),(8,0),(4,1),(9,1),(10,0),(11,1),(12,0)] (fun w'=>w'.cell? ⟨p,0,none⟩=some (.slice ro regs.length rc)∧w'.cell? ⟨p,1,none⟩=some (.slice wo wait.length wc)) (by kernel_rfl) (by kernel_rfl) ⟨c0,c1⟩ ?_
 iterate 8 (refine wpOrd_pure rfl rfl _ (fun w' hG=>by obtain ⟨g0,g1⟩:=hG;go_simp;exact Gives.mk _ _) (fun K hK=>?_);go_simp;refine hK _ ?_;clear hK K)
 refine wpOrd_run rfl rfl (fun K hK=>?_);unfold gRun;go_simp
 refine (Clone_c _ regs _ (H.out.hr.keep ((Kz w).drew) (fun _ _ h=>h)) h1).mono ?_
 rintro e w1 ⟨ao,ac,rfl,hs,hk,ho⟩
 have HK1:=Hz (((Kz w).drew).trans hk)
 have H1:=Hz (H.out.keep HK1.out (fun _ _ h=>h))
 have HS:=Hz hs
 have HO:=Hz ho
 have HSL:Hid (∀ k,ownB (.slice ao regs.length ac) k→k<w1.heap.size):=fun k hk=>(HS.out.own hk).1
 clear hs hk ho
 refine hK _ _ ⟨H1.out.hp.cell 0,H1.out.hp.cell 1⟩ ?_
 clear hK K
 refine wpOrd_run rfl rfl (fun K hK=>?_);unfold gRun;go_simp
 refine (Clone_c _ wait _ H1.out.hw h2).mono ?_
 rintro e w2 ⟨bo,bc,rfl,hs,hk,ho⟩
 have HK2:=Hz (HK1.out.trans hk)
 have H2:=Hz (H1.out.keep hk (fun _ _ h=>h))
 have HS1:=Hz (HS.out.keep hk (fun _ _ h=>h))
 have HS2:=Hz hs
 have HO2:=Hz ho
 have hsz:=HK1.out.size
 clear hs hk ho HS
 refine hK _ _ ⟨H2.out.hp.cell 0,H2.out.hp.cell 1⟩ ?_
 clear hK K
 iterate 1 (refine wpOrd_pure rfl rfl _ (fun w' hG=>by obtain ⟨g0,g1⟩:=hG;go_simp;exact Gives.mk _ _) (fun K hK=>?_);go_simp;refine hK _ ?_;clear hK K)
 refine wpOrd_run rfl rfl (fun K hK=>?_);unfold gRun;go_simp
 refine hK _ _ ?_ ?_
 ·have:=H2.out.hp.alloc (Obj.cells #[Value.slice ao regs.length ac,Value.slice bo wait.length bc] 53)
  exact ⟨this.cell 0,this.cell 1⟩
 clear hK K
 iterate 1 (refine wpOrd_pure rfl rfl _ (fun w' hG=>by obtain ⟨g0,g1⟩:=hG;go_simp;exact Gives.mk _ _) (fun K hK=>?_);go_simp;refine hK _ ?_;clear hK K)
 refine wpOrd_end ?_
 go_wp2_with fail
 go_ret
 refine ⟨w2.heap.size, .slice ao regs.length ac, .slice bo wait.length bc,rfl,⟨.newAt _ rfl rfl,HS1.out.keep ((Kz w2).alloc _) (fun _ _ h=>h),HS2.out.keep ((Kz w2).alloc _) (fun _ _ h=>h),?_⟩,HK2.out.alloc _,?_⟩
 ·rintro k ⟨a1,a2⟩
  have:=HO2.out k a2
  have:=HSL.out k a1
  omega
 ·rintro k (a | a | a)
  ·subst a;exact HK2.out.size
  ·exact HO.out k a
  ·exact Nat.le_trans hsz (HO2.out k a)
end
section
open Go.RowKit
structure WH where
 p:Nat
 pa:Nat
 g:Nat
 pc:Nat
 cb:Nat
 ps:Nat
 rv:Value
 wv:Value
 ro:Value
def WH.Own (h:WH) (k:Nat):Prop:=k=h.p∨(k=h.pa∨k=h.g)∨(k=h.pc∨k=h.cb)∨SideFp h.ps h.rv h.wv k∨ownB h.ro k
structure WoodAt (w:World) (h:WH) (O:Wo):Prop where
 hp:Blk w h.p [.pointer (some ⟨h.pa,0,none⟩), .pointer (some ⟨h.pc,0,none⟩), .pointer (some ⟨h.ps,0,none⟩),h.ro] 43
 ha:ArenaAt w h.pa h.g O.ar
 hc:CardsAt w h.pc h.cb O.ar.nur O.cd
 hs:SideAt w h.ps h.rv h.wv O.rg O.wt
 hr:Sl w 2 1 h.ro O.rt.length (O.rt.map (Value.int .i64))
 ap:¬ ownB h.ro h.g
 ok:O.ok
section
variable {w w':World} {h:WH} {O:Wo}
theorem WoodAt.own_lt (H:WoodAt w h O) {k:Nat} (hk:h.Own k):k<w.heap.size:=by
 rcases hk with rfl | (rfl | rfl) | (rfl | rfl) | hk | hk
 ·exact H.hp.lt
 ·exact H.ha.hp.lt
 ·exact H.ha.hg.lt
 ·exact H.hc.hp.lt
 ·exact H.hc.hq.lt
 ·exact H.hs.fp_lt hk
 ·exact (H.hr.own hk).1
theorem WoodAt.keep {S:Nat→Prop} (H:WoodAt w h O) (k:Keeps S w w') (hn:∀ b,h.Own b→¬ S b):WoodAt w' h O:=
 ⟨k.blk H.hp (hn _ (.inl rfl)),H.ha.keep k (hn _ (.inr (.inl (.inl rfl)))) (hn _ (.inr (.inl (.inr rfl)))),H.hc.keep k (hn _ (.inr (.inr (.inl (.inl rfl))))) (hn _ (.inr (.inr (.inl (.inr rfl))))),
  H.hs.keep k (fun b hb=>hn b (.inr (.inr (.inr (.inl hb))))),H.hr.keep k (fun b hb=>hn b (.inr (.inr (.inr (.inr hb))))),H.ap,H.ok⟩
theorem SideAt.fp_type {w:World} {p b:Nat} {rv wv:Value} {regs wait:List (Int × Int)} (h:SideAt w p rv wv regs wait) (hb:SideFp p rv wv b):∃ c T,Blk w b c T∧(T=53∨T=100):=by
 rcases hb with rfl | hb | hb
 ·exact ⟨_,_,h.hp, .inl rfl⟩
 ·obtain ⟨_,c,hc⟩:=h.hr.own hb;exact ⟨_,_,hc, .inr rfl⟩
 ·obtain ⟨_,c,hc⟩:=h.hw.own hb;exact ⟨_,_,hc, .inr rfl⟩
theorem WoodAt.side_ne (H:WoodAt w h O) {b:Nat} {c:List Value} {T:TypeId} (hb:Blk w b c T) (h1:T≠53) (h2:T≠100):¬ SideFp h.ps h.rv h.wv b:=fun hf=>by
 obtain ⟨c',T',hc,hT⟩:=H.hs.fp_type hf
 rcases hT with rfl | rfl
 ·exact hb.ne hc h1 rfl
 ·exact hb.ne hc h2 rfl
theorem WoodAt.ro_ne (H:WoodAt w h O) {b:Nat} {c:List Value} {T:TypeId} (hb:Blk w b c T) (h1:T≠2):¬ ownB h.ro b:=fun hf=>by
 obtain ⟨_,c',hc⟩:=H.hr.own hf
 exact hb.ne hc h1 rfl
theorem WoodAt.arena (H:WoodAt w h O) {A:Ar} (t:ArenaTo w h.pa h.g w' A) (hn:A.nur=O.ar.nur):WoodAt w' h { O with ar:=A }:=by
 have k:=t.k
 have n1:∀ {b:Nat} {c:List Value} {T:TypeId},Blk w b c T→T≠70→T≠2→¬ (b=h.pa∨b=h.g):=fun hb h1 h2 e=>by
  rcases e with e | e
  ·exact hb.ne H.ha.hp h1 e
  ·exact hb.ne H.ha.hg h2 e
 refine ⟨k.blk H.hp (n1 H.hp (by decide) (by decide)),t.at_,?_,H.hs.keep k (fun b hb=>?_),H.hr.keep k (fun b hb=>?_),H.ap, { H.ok with ha:=t.at_.ok }⟩
 ·show CardsAt w' h.pc h.cb A.nur O.cd
  rw [hn];exact H.hc.keep k (n1 H.hc.hp (by decide) (by decide)) (n1 H.hc.hq (by decide) (by decide))
 ·obtain ⟨c,T,hc,hT⟩:=H.hs.fp_type hb
  rcases hT with rfl | rfl
  ·exact n1 hc (by decide) (by decide)
  ·exact n1 hc (by decide) (by decide)
 ·rintro (rfl | rfl)
  ·exact H.ro_ne H.ha.hp (by decide) hb
  ·exact H.ap hb
theorem WoodAt.cards (H:WoodAt w h O) {l:List Bool} (t:CardsAt w' h.pc h.cb O.ar.nur l) (hl:l.length≤1000) (k:Keeps (·=h.cb) w w'):WoodAt w' h { O with cd:=l }:=by
 have n1:∀ {b:Nat} {c:List Value} {T:TypeId},Blk w b c T→T≠4→¬ (b=h.cb):=fun hb h1 e=>hb.ne H.hc.hq h1 e
 refine ⟨k.blk H.hp (n1 H.hp (by decide)),H.ha.keep k (n1 H.ha.hp (by decide)) (n1 H.ha.hg (by decide)),t,H.hs.keep k (fun b hb=>?_),H.hr.keep k (fun b hb=>?_),H.ap, { H.ok with hc:=hl }⟩
 ·obtain ⟨c,T,hc,hT⟩:=H.hs.fp_type hb
  rcases hT with rfl | rfl
  ·exact n1 hc (by decide)
  ·exact n1 hc (by decide)
 ·rintro rfl;exact H.ro_ne H.hc.hq (by decide) hb
theorem WoodAt.ptrs (H:WoodAt w h O):w.cell? ⟨h.p,0,none⟩=some (.pointer (some ⟨h.pa,0,none⟩))∧w.cell? ⟨h.p,1,none⟩=some (.pointer (some ⟨h.pc,0,none⟩))∧w.cell? ⟨h.p,2,none⟩=some (.pointer (some ⟨h.ps,0,none⟩))∧w.cell? ⟨h.p,3,none⟩=some h.ro:=
 ⟨H.hp.cell 0,H.hp.cell 1,H.hp.cell 2,H.hp.cell 3⟩
def WoodTo (w:World) (h:WH) (w':World) (O:Wo):Prop:=
 ∃ h',WoodAt w' h' O∧h'.p=h.p∧Keeps h.Own w w'∧∀ k,h'.Own k→h.Own k∨w.heap.size≤k
theorem WoodAt.arenaTo (H:WoodAt w h O) {A:Ar} (t:ArenaTo w h.pa h.g w' A) (hn:A.nur=O.ar.nur):WoodTo w h w' { O with ar:=A }:=
 ⟨h,H.arena t hn,rfl,t.k.mono (fun k _ hk=>.inr (.inl hk)),fun k hk=>.inl hk⟩
theorem WoodTo.same (H:WoodAt w h O) (k:Keeps (fun _=>False) w w'):WoodTo w h w' O:=
 ⟨h,H.keep k (fun _ _ h=>h),rfl,k.mono (fun _ _ h=>h.elim),fun k hk=>.inl hk⟩
theorem thingAt_no {A:Ar} {x:Int} (h:¬ (x%4=1∧(A.thing (x/4)).2.2=0)):A.thingAt x=(0,0,0,2):=if_neg h
theorem thingAt_yes {A:Ar} {x:Int} (h:x%4=1∧(A.thing (x/4)).2.2=0):A.thingAt x=(x/4,(A.thing (x/4)).1,(A.thing (x/4)).2.1,0):=if_pos h
theorem results_tmp4 {fn:Func} {t u v x:Tmp} (h:fn.results=#[.tmp t, .tmp u, .tmp v, .tmp x]) (tmps:Array Value) (P:Program) (w:World) :
  (results fn tmps).run P w=.ok (.tuple #[tmps.getD t undef,tmps.getD u undef,tmps.getD v undef,tmps.getD x undef]) w:=by
 simp [results,h]
theorem ret_four {a b c d:Int} {y:Int × Int × Int × Int} (h:y=(a,b,c,d)) :
  Ending.returned (.tuple #[.int .i64 a, .int .i64 b, .int .i64 c, .int .i64 d])=Ending.returned (.tuple #[.int .i64 y.1, .int .i64 y.2.1, .int .i64 y.2.2.1, .int .i64 y.2.2.2]):=by subst h;rfl
theorem thing_c (x:Int) (H:WoodAt w h O) :
  Calls Try.prog 50 #[.pointer (some ⟨h.p,0,none⟩), .int .i64 x] w fun e w'=>
   e=.returned (.tuple #[.int .i64 (O.ar.thingAt x).1, .int .i64 (O.ar.thingAt x).2.1, .int .i64 (O.ar.thingAt x).2.2.1, .int .i64 (O.ar.thingAt x).2.2.2])∧w=w':=by
 have HH:=Hz H
 obtain ⟨c0,-,-,-⟩:=H.ptrs
 have pl:=H.hp.lt
 have HA:=Hz H.ha
 clear H
 by_cases hx:x%4=1
 ·by_cases hc:(O.ar.thing (x/4)).2.2=0
  ·have HE:=Hz (thingAt_yes ⟨hx,hc⟩)
   obtain ⟨⟨k,n,c⟩,hT⟩:∃ t,O.ar.thing (x/4)=t:=⟨_,rfl⟩
   rw [hT] at hc HE
   dsimp only at hc HE
   subst hc
   have HT:=Hz hT;have HX:=Hz hx;clear hT hx
   go_enter Try.func50,Try.ntmps50
   go_wp2_with fail
   refine (At_yes x _ HX.out).mono ?_
   rintro e w1 ⟨rfl,rfl⟩
   go_wp2_with fail
   refine (Thing_c (x/4) _ HA.out).mono ?_
   rintro e w1 ⟨rfl,rfl⟩
   rw [HT.out]
   dsimp only
   go_wp2_with fail
   ((try simp only [Exit.inBlock,Exit.then]);refine bodyPost_ret (results_tmp4 rfl _ _ _) rfl ?_)
   exact ⟨ret_four HE.out,rfl⟩
  ·have HE:=Hz (thingAt_no (A:=O.ar) (x:=x) (fun h=>hc h.2))
   obtain ⟨⟨k,n,c⟩,hT⟩:∃ t,O.ar.thing (x/4)=t:=⟨_,rfl⟩
   rw [hT] at hc
   dsimp only at hc
   have hcb:(c != 0)=true:=by simpa using hc
   have HT:=Hz hT;have HX:=Hz hx;clear hT hx hc
   go_enter Try.func50,Try.ntmps50
   go_wp2_with fail
   refine (At_yes x _ HX.out).mono ?_
   rintro e w1 ⟨rfl,rfl⟩
   go_wp2_with fail
   refine (Thing_c (x/4) _ HA.out).mono ?_
   rintro e w1 ⟨rfl,rfl⟩
   rw [HT.out]
   dsimp only
   go_wp2_with fail
   ((try simp only [Exit.inBlock,Exit.then]);refine bodyPost_ret (results_tmp4 rfl _ _ _) rfl ?_)
   exact ⟨ret_four HE.out,rfl⟩
 ·have HE:=Hz (thingAt_no (A:=O.ar) (x:=x) (fun h=>hx h.1))
  have HX:=Hz hx;clear hx
  go_enter Try.func50,Try.ntmps50
  go_wp2_with fail
  refine (At_no x _ HX.out).mono ?_
  rintro e w1 ⟨rfl,rfl⟩
  go_wp2_with fail
  ((try simp only [Exit.inBlock,Exit.then]);refine bodyPost_ret (results_tmp4 rfl _ _ _) rfl ?_)
  exact ⟨ret_four HE.out,rfl⟩
theorem Kind_c (x:Int) (H:WoodAt w h O) :
  Calls Try.prog 46 #[.pointer (some ⟨h.p,0,none⟩), .int .i64 x] w fun e w'=>
   e=.returned (.tuple #[.int .i64 (O.ar.thingAt x).2.1, .int .i64 (O.ar.thingAt x).2.2.1, .int .i64 (O.ar.thingAt x).2.2.2])∧w=w':=by
 go_enter Try.func46,Try.ntmps46
 go_wp2_with fail
 refine (thing_c x H).mono ?_
 rintro e w1 ⟨rfl,rfl⟩
 go_wp2_with fail
 go_ret3
 exact ⟨rfl,rfl⟩
theorem get_kind {A:Ar} {x i:Int} (h:(A.thingAt x).2.2.2≠0∨(A.thingAt x).2.1=5):A.get x i=(0,2):=if_pos h
theorem get_range {A:Ar} {x i:Int} (h:¬ ((A.thingAt x).2.2.2≠0∨(A.thingAt x).2.1=5)) (h2:i<0∨(A.thingAt x).2.2.1≤i):A.get x i=(0,1):=by unfold Ar.get;rw [if_neg h,if_pos h2]
theorem get_ok {A:Ar} {x i:Int} (h:¬ ((A.thingAt x).2.2.2≠0∨(A.thingAt x).2.1=5)) (h2:¬ (i<0∨(A.thingAt x).2.2.1≤i)):A.get x i=(A.load (x/4+1+i),0):=by unfold Ar.get;rw [if_neg h,if_neg h2]
theorem thingAt_bounds (A:Ar) (x:Int):0≤(A.thingAt x).2.2.1∧(A.thingAt x).2.2.1≤12:=by
 unfold Ar.thingAt
 split
 ·exact A.thing_fields _
 ·decide
theorem thingAt_place {A:Ar} (hk:A.ok) {x:Int} (h:(A.thingAt x).2.2.2=0):x%4=1∧(A.thing (x/4)).2.2=0∧0≤x/4∧x/4<A.ws.length∧(A.thingAt x).1=x/4:=by
 by_cases hc:x%4=1∧(A.thing (x/4)).2.2=0
 ·have:=hk.use_lt (A.thing_use hc.2)
  refine ⟨hc.1,hc.2,this.1,this.2,?_⟩
  rw [thingAt_yes hc]
 ·rw [thingAt_no hc] at h;simp at h
theorem Get_c (x i:Int) (H:WoodAt w h O) :
  Calls Try.prog 30 #[.pointer (some ⟨h.p,0,none⟩), .int .i64 x, .int .i64 i] w fun e w'=>
   e=.returned (.tuple #[.int .i64 (O.ar.get x i).1, .int .i64 (O.ar.get x i).2])∧w=w':=by
 have HH:=Hz H
 obtain ⟨c0,-,-,-⟩:=H.ptrs
 have pl:=H.hp.lt
 have HA:=Hz H.ha
 have hb:=thingAt_bounds O.ar x
 have hpl:=fun e=>thingAt_place H.ok.ha (x:=x) e
 have h4:=H.ok.ha.h4
 have gk:=fun e=>get_kind (A:=O.ar) (x:=x) (i:=i) e
 have gr:=fun e1 e2=>get_range (A:=O.ar) (x:=x) (i:=i) e1 e2
 have go:=fun e1 e2=>get_ok (A:=O.ar) (x:=x) (i:=i) e1 e2
 have HTc:=Hz (thing_c x H)
 obtain ⟨⟨p,k,n,c⟩,hT⟩:∃ t,O.ar.thingAt x=t:=⟨_,rfl⟩
 rw [hT] at hb hpl gk gr go HTc
 dsimp only at hb hpl gk gr go HTc
 clear H hT
 by_cases hc:c=0
 ·obtain ⟨-,-,p0,p1,rfl⟩:=hpl hc
  subst hc
  by_cases hk:k=5
  ·have HG:=Hz (gk (.inr hk))
   subst hk
   clear gk gr go hpl
   go_enter Try.func30,Try.ntmps30
   go_wp2_with fail
   refine HTc.out.mono ?_
   rintro e w1 ⟨rfl,rfl⟩
   go_wp2_with fail
   go_ret2
   exact ⟨by rw [HG.out];rfl,rfl⟩
  ·have h1:¬ ((0:Int)≠0∨k=5):=fun h=>by rcases h with h | h;exact h rfl;exact hk h
   have hkb:(k == 5)=false:=by simpa using hk
   by_cases hi:i<0∨n≤i
   ·have HG:=Hz (gr h1 hi)
    clear gk gr go hpl h1 hk
    by_cases hi0:i<0
    ·have hd:decide (i<0)=true:=by simpa using hi0
     clear hi
     go_enter Try.func30,Try.ntmps30
     go_wp2_with fail
     refine HTc.out.mono ?_
     rintro e w1 ⟨rfl,rfl⟩
     go_wp2_with fail
     go_ret2
     exact ⟨by rw [HG.out];rfl,rfl⟩
    ·have hd:decide (i<0)=false:=by simpa using hi0
     have hd2:decide (n≤i)=true:=by simp;omega
     clear hi
     go_enter Try.func30,Try.ntmps30
     go_wp2_with fail
     refine HTc.out.mono ?_
     rintro e w1 ⟨rfl,rfl⟩
     go_wp2_with fail
     go_ret2
     exact ⟨by rw [HG.out];rfl,rfl⟩
   ·have HG:=Hz (go h1 hi)
    have hd:decide (i<0)=false:=by simp;omega
    have hd2:decide (n≤i)=false:=by simp;omega
    have hi0:0≤i:=by omega
    have hi1:i<n:=by omega
    clear gk gr go hpl h1 hk hi
    go_enter Try.func30,Try.ntmps30
    go_wp2_with fail
    refine HTc.out.mono ?_
    rintro e w1 ⟨rfl,rfl⟩
    go_wp2_with fail
    refine (Load_c (x/4+1+i) _ HA.out).mono ?_
    rintro e w1 ⟨rfl,rfl⟩
    go_wp2_with fail
    go_ret2
    exact ⟨by rw [HG.out];rfl,rfl⟩
 ·have HG:=Hz (gk (.inl hc))
  have hcb:(c != 0)=true:=by simpa using hc
  clear gk gr go hpl hc
  go_enter Try.func30,Try.ntmps30
  go_wp2_with fail
  refine HTc.out.mono ?_
  rintro e w1 ⟨rfl,rfl⟩
  go_wp2_with fail
  go_ret2
  exact ⟨by rw [HG.out];rfl,rfl⟩
end
end
section
open Go.RowKit
section
variable {w w':World} {h:WH} {O:Wo}
theorem Wo.set_no {x i y:Int} (hc:(O.ar.get x i).2≠0):O.set x i y=((O.ar.get x i).2,O):=if_pos hc
theorem Wo.set_yes {x i y:Int} (hc:(O.ar.get x i).2=0):O.set x i y=(0, { O with ar:=O.ar.store (x/4+1+i) y,cd:=if y%4=1∧(O.ar.store (x/4+1+i) y).young (y/4)=true∧(O.ar.store (x/4+1+i) y).old (x/4)=true then markL O.ar.nur O.cd (x/4) else O.cd }):=
 if_neg (fun h=>h hc)
theorem get_place {A:Ar} (hk:A.ok) {x i:Int} (h:(A.get x i).2=0):x%4=1∧(A.thing (x/4)).2.2=0∧0≤x/4∧x/4<A.ws.length∧0≤i∧i<(A.thing (x/4)).2.1∧(A.thing (x/4)).1≠5:=by
 unfold Ar.get at h
 split at h
 ·simp at h
 ·rename_i h1
  split at h
  ·simp at h
  ·rename_i h2
   have hc:(A.thingAt x).2.2.2=0:=Classical.not_not.1 fun e=>h1 (.inl e)
   obtain ⟨p1,p2,p3,p4,p5⟩:=thingAt_place hk hc
   rw [thingAt_yes ⟨p1,p2⟩] at h1 h2
   exact ⟨p1,p2,p3,p4,by omega,by dsimp only at h2;omega,fun e=>h1 (.inr e)⟩
theorem WSet_c (x i y:Int) (H:WoodAt w h O) (hy:R64 y) :
  Calls Try.prog 31 #[.pointer (some ⟨h.p,0,none⟩), .int .i64 x, .int .i64 i, .int .i64 y] w fun e w'=>
   e=.returned (.int .i64 (O.set x i y).1)∧WoodTo w h w' (O.set x i y).2:=by
 have HH:=Hz H;have HY:=Hz hy
 have pl:=H.hp.lt
 have h4:=H.ok.ha.h4
 have HN:=Hz (show 0≤(O.ar.nur:Int)∧(O.ar.nur:Int)≤1000000 by have:=H.ok.ha.h1;have:=H.ok.ha.h2;have:=H.ok.ha.h3;omega)
 by_cases hc:(O.ar.get x i).2=0
 ·have HE:=Hz (Wo.set_yes (y:=y) hc)
  obtain ⟨p1,-,p2,p3,p4,p5,-⟩:=get_place H.ok.ha hc
  have p6:=(O.ar.thing_fields (x/4)).2
  have p7:i<12:=by omega
  have P1:=Hz p1;have HC:=Hz hc
  clear H hy hc p1 p5 p6
  go_enter Try.func31,Try.ntmps31
  go_wp2_with fail
  refine (Get_c x i HH.out).mono ?_
  rintro e w1 ⟨rfl,rfl⟩
  rw [HC.out]
  go_wp2_with fail
  refine (At_yes x _ P1.out).mono ?_
  rintro e w1 ⟨rfl,rfl⟩
  obtain ⟨c0,-,-,-⟩:=HH.out.ptrs
  go_wp2_with fail
  refine (Store_c (x/4+1+i) y _ HH.out.ha HY.out).mono ?_
  rintro e w1 ⟨rfl,ht⟩
  have HT:=Hz ht.k
  have HW:=Hz (HH.out.arena ht (O.ar.store_nur _ _))
  have HTO:=Hz (HH.out.arenaTo ht (O.ar.store_nur _ _))
  clear c0 pl ht
  generalize hA:O.ar.store (x/4+1+i) y=A at *
  have HA:=Hz hA;clear hA
  obtain ⟨c0,c1,-,-⟩:=HW.out.ptrs
  have pl:=HW.out.hp.lt
  by_cases hy4:y%4=1
  ·have HY4:=Hz hy4
   cases hyo:A.young (y/4)
   ·have HF:=Hz (show ¬ (y%4=1∧A.young (y/4)=true∧A.old (x/4)=true) by rw [hyo];exact fun h=>by cases h.2.1)
    clear hy4
    go_wp2_with fail
    refine (At_yes y _ HY4.out).mono ?_
    rintro e w2 ⟨rfl,rfl⟩
    go_wp2_with fail
    refine (Young_c (y/4) _ HW.out.ha).mono ?_
    rintro e w2 ⟨rfl,rfl⟩
    rw [hyo]
    go_wp2_with fail
    go_ret
    refine ⟨by rw [HE.out];rfl,?_⟩
    rw [HE.out,if_neg HF.out]
    exact HTO.out
   ·cases hol:A.old (x/4)
    ·have HF:=Hz (show ¬ (y%4=1∧A.young (y/4)=true∧A.old (x/4)=true) by rw [hol];exact fun h=>by cases h.2.2)
     clear hy4
     go_wp2_with fail
     refine (At_yes y _ HY4.out).mono ?_
     rintro e w2 ⟨rfl,rfl⟩
     go_wp2_with fail
     refine (Young_c (y/4) _ HW.out.ha).mono ?_
     rintro e w2 ⟨rfl,rfl⟩
     rw [hyo]
     go_wp2_with fail
     refine (Old_c (x/4) _ HW.out.ha).mono ?_
     rintro e w2 ⟨rfl,rfl⟩
     rw [hol]
     go_wp2_with fail
     go_ret
     refine ⟨by rw [HE.out];rfl,?_⟩
     rw [HE.out,if_neg HF.out]
     exact HTO.out
    ·have HF:=Hz (show (y%4=1∧A.young (y/4)=true∧A.old (x/4)=true) from ⟨hy4,hyo,hol⟩)
     clear hy4
     go_wp2_with fail
     refine (At_yes y _ HY4.out).mono ?_
     rintro e w2 ⟨rfl,rfl⟩
     go_wp2_with fail
     refine (Young_c (y/4) _ HW.out.ha).mono ?_
     rintro e w2 ⟨rfl,rfl⟩
     rw [hyo]
     go_wp2_with fail
     refine (Old_c (x/4) _ HW.out.ha).mono ?_
     rintro e w2 ⟨rfl,rfl⟩
     rw [hol]
     go_wp2_with fail
     have hcc:=HW.out.hc
     have hcl:=HW.out.ok.hc
     have hnn:A.nur=O.ar.nur:=by rw [←HA.out];exact O.ar.store_nur _ _
     refine (Mark_c h.pc h.cb A.nur (x/4) O.cd _ hcc (by rw [hnn];exact HN.out.1) (by rw [hnn];exact HN.out.2) (by omega) (by omega) (by simpa using Nat.le_trans hcl (by decide))).mono ?_
     rintro e w2 ⟨rfl,hc2,hk2⟩
     have HTO2:=Hz (show WoodTo w h w2 { O with ar:=A,cd:=markL O.ar.nur O.cd (x/4) } by
      have:=HW.out.cards hc2 (by rw [markL_length];exact hcl) hk2
      refine ⟨h,?_,rfl,(HT.out.mono (fun k _ hk=>.inr (.inl hk))).then hk2 (fun k hk=>.inl (by subst hk;exact .inr (.inr (.inl (.inr rfl))))),fun k hk=>.inl hk⟩
      rw [hnn] at this
      exact this)
     clear hcc hcl hnn hc2 hk2
     go_wp2_with fail
     go_ret
     refine ⟨by rw [HE.out];rfl,?_⟩
     rw [HE.out,if_pos HF.out]
     exact HTO2.out
  ·have HY4:=Hz hy4
   have HF:=Hz (show ¬ (y%4=1∧A.young (y/4)=true∧A.old (x/4)=true) from fun h=>hy4 h.1)
   clear hy4
   go_wp2_with fail
   refine (At_no y _ HY4.out).mono ?_
   rintro e w2 ⟨rfl,rfl⟩
   go_wp2_with fail
   go_ret
   refine ⟨by rw [HE.out];rfl,?_⟩
   rw [HE.out,if_neg HF.out]
   exact HTO.out
 ·have HE:=Hz (Wo.set_no (y:=y) hc)
  have HTC:=Hz (Get_c x i H)
  obtain ⟨⟨a,c⟩,hT⟩:∃ t,O.ar.get x i=t:=⟨_,rfl⟩
  rw [hT] at hc HE HTC
  dsimp only at hc HE HTC
  have hcb:(c != 0)=true:=by simpa using hc
  clear H hc hT
  go_enter Try.func31,Try.ntmps31
  go_wp2_with fail
  refine HTC.out.mono ?_
  rintro e w1 ⟨rfl,rfl⟩
  go_wp2_with fail
  go_ret
  refine ⟨by rw [HE.out];rfl,?_⟩
  rw [HE.out]
  exact WoodTo.same HH.out (Keeps.refl _ _)
end
def WoodRet (w:World) (n o:Int) (e:Ending) (w':World):Prop:=
 ∃ h,e=.returned (.tuple #[.pointer (some ⟨h.p,0,none⟩), .agg #[.int .i64 0, .int .i64 0]])∧WoodAt w' h (Wo.new n o)∧Keeps (fun _=>False) w w'∧∀ k,h.Own k→w.heap.size≤k
theorem Wo.new_ok {n o:Int} (h:Ar.fits n o=true):(Wo.new n o).ok:=by
 have h':=h
 simp [Ar.fits] at h'
 refine ⟨Ar.new_ok h,by simp [Wo.new],fun x hx=>?_,fun e he=>by simp [Wo.new] at he,fun e he=>by simp [Wo.new] at he,by simp [Wo.new],?_⟩
 ·simp [Wo.new] at hx;subst hx;unfold R64;omega
 ·simp [Wo.new,cardsN];omega
structure NewIn (w:World) (h:WH) (n o:Int) (wr:World) (k:Nat) (v:Value):Prop where
 hp:Blk wr h.p [.pointer (some ⟨h.pa,0,none⟩), .pointer (some ⟨h.pc,0,none⟩), .pointer (some ⟨h.ps,0,none⟩),v] 43
 ha:ArenaAt wr h.pa h.g (Ar.new n o)
 hc:CardsAt wr h.pc h.cb n (List.replicate (cardsN o) false)
 hs:SideAt wr h.ps (.slice none 0 0) (.slice none 0 0) [] []
 hr:Sl wr 2 1 v k (List.replicate k (.int .i64 2))
 hk:Keeps (fun _=>False) w wr
 o1:w.heap.size≤h.p
 o2:w.heap.size≤h.pa
 o3:w.heap.size≤h.g
 o4:w.heap.size≤h.pc
 o5:w.heap.size≤h.cb
 o6:w.heap.size≤h.ps
 o7:∀ b,ownB v b→w.heap.size≤b
 ap:¬ ownB v h.g
 hz:Blk wr w.heap.size [.int .i64 0, .int .i64 0] 31
theorem NewIn.app {w wr wa w2:World} {h:WH} {n o:Int} {k:Nat} {v v2:Value} (H:NewIn w h n o wr k v) (ka:Keeps (fun _=>False) wr wa) (hs2:Sl w2 2 1 v2 (k+1) (List.replicate k (.int .i64 2) ++ [.int .i64 2])) (hk2:Keeps (ownB v) wa w2) (ho2:∀ b,ownB v2 b→ownB v b∨wa.heap.size≤b) :
  NewIn w h n o (w2.setCell ⟨h.p,3,none⟩ v2) (k+1) v2:=by
 have own:=fun b (hb:ownB v b)=>(H.hr.keep ka (fun _ _ h=>h)).own hb
 have ne1:∀ {b:Nat} {c:List Value} {T:TypeId},Blk wr b c T→T≠2→¬ ownB v b:=fun hb hT hv=>by
  obtain ⟨_,c',hc⟩:=own _ hv
  exact (ka.blk hb (fun h=>h)).ne hc hT rfl
 have lt1:∀ {b:Nat} {c:List Value} {T:TypeId},Blk wr b c T→b<wa.heap.size:=fun hb=>(ka.blk hb (fun h=>h)).lt
 have k2:=(ka.mono (T:=ownB v) (fun _ _ h=>h.elim)).trans hk2
 have hsz:=H.hk.size
 have hpl:=H.hp.lt
 have kc:=fun {S:Nat→Prop} (k:Keeps S wr w2)=>k
 have hp2:=k2.blk H.hp (ne1 H.hp (by decide))
 have set:=(Keeps.refl (·=h.p) w2).setCell (p:=⟨h.p,3,none⟩) (.inl rfl) v2
 have nep:∀ {b:Nat} {c:List Value} {T:TypeId},Blk w2 b c T→T≠43→¬ b=h.p:=fun hb hT=>hb.ne hp2 hT
 have ha2:=H.ha.keep k2 (ne1 H.ha.hp (by decide)) H.ap
 have hc2:=H.hc.keep k2 (ne1 H.hc.hp (by decide)) (ne1 H.hc.hq (by decide))
 have fsd:∀ b,SideFp h.ps (.slice none 0 0) (.slice none 0 0) b→b=h.ps:=fun b hb=>by
  rcases hb with h | h | h
  ·exact h
  ·exact (nil_own h).elim
  ·exact (nil_own h).elim
 have hs3:=H.hs.keep k2 (fun b hb=>by rw [fsd b hb];exact ne1 H.hs.hp (by decide))
 refine ⟨by simpa using hp2.setSame 3 v2,ha2.keep set (nep ha2.hp (by decide)) (nep ha2.hg (by decide)),hc2.keep set (nep hc2.hp (by decide)) (nep hc2.hq (by decide)),hs3.keep set (fun b hb=>by rw [fsd b hb];exact nep hs3.hp (by decide)),?_,?_,H.o1,H.o2,H.o3,H.o4,H.o5,H.o6,?_,?_,?_⟩
 ·rw [←List.replicate_succ'] at hs2
  exact hs2.keep set (fun b hb e=>by
   obtain ⟨_,c',hc⟩:=hs2.own hb
   exact nep hc (by decide) e)
 ·exact (H.hk.then k2 (fun b hb=>.inr (H.o7 b hb))).setCell (.inr H.o1) _
 ·intro b hb
  rcases ho2 b hb with h1 | h1
  ·exact H.o7 b h1
  ·have:=ka.size;omega
 ·intro hb
  rcases ho2 _ hb with h1 | h1
  ·exact H.ap h1
  ·have:=lt1 H.ha.hg;omega
 ·have hz2:=k2.blk H.hz (ne1 H.hz (by decide))
  exact set.blk hz2 (nep hz2 (by decide))
theorem NewIn.done {w wr:World} {h:WH} {n o:Int} {v:Value} (H:NewIn w h n o wr 12 v) (hf:Ar.fits n o=true):WoodAt wr { h with ro:=v,rv:=.slice none 0 0,wv:=.slice none 0 0 } (Wo.new n o) ∧
  ∀ k,({ h with ro:=v,rv:=.slice none 0 0,wv:=.slice none 0 0 }:WH).Own k→w.heap.size≤k:=by
 have hn:((Ar.new n o).nur:Int)=n:=by simp [Ar.fits] at hf;simp [Ar.new];omega
 refine ⟨⟨H.hp,H.ha,?_,H.hs,?_,H.ap,Wo.new_ok hf⟩,?_⟩
 ·show CardsAt wr h.pc h.cb ((Ar.new n o).nur:Int) _
  rw [hn];exact H.hc
 ·have e:(Wo.new n o).rt=List.replicate 12 2:=rfl
  rw [e]
  simpa using H.hr
 ·rintro k (rfl | (rfl | rfl) | (rfl | rfl) | (rfl | h1 | h1) | h1)
  ·exact H.o1
  ·exact H.o2
  ·exact H.o3
  ·exact H.o4
  ·exact H.o5
  ·exact H.o6
  ·exact (nil_own h1).elim
  ·exact (nil_own h1).elim
  ·exact H.o7 k h1
theorem WNew_no (n o:Int) (w:World) (h:Ar.fits n o=false) :
  Calls Try.prog 20 #[.int .i64 n, .int .i64 o] w fun e w'=>e=.returned (.tuple #[.pointer none, .agg #[.int .i64 1, .int .i64 (-1)]])∧Keeps (fun _=>False) w w':=by
 go_enter Try.func20,Try.ntmps20
 go_wp2_with fail
 refine (ANew_no n o _ h).mono ?_
 rintro e w1 ⟨rfl,hk⟩
 have HK:=Hz (((Kz w).alloc (.cells #[.int .i64 0, .int .i64 0] 31)).trans hk)
 go_wp2_with fail
 have HB:=Hz (Blk.newAt (w:=w1) (b:=w1.heap.size) (T:=31) #[.int .i64 1, .int .i64 (-1)] rfl rfl)
 have h0:=HB.out.cell 0;have h1:=HB.out.cell 1;have hl:=HB.out.lt
 have k0:Blk (w.alloc (.cells #[.int .i64 0, .int .i64 0] 31)) w.heap.size [.int .i64 0, .int .i64 0] 31:=Blk.newAt _ rfl rfl
 have k1:=(hk.blk k0 (fun h=>h)).alloc (.cells #[.int .i64 1, .int .i64 (-1)] 31)
 have l0:=k1.cell 0;have l1:=k1.cell 1;have ll:=k1.lt;have f0:=k1.free 0;have f1:=k1.free 1
 simp only [List.getElem?_cons_zero,List.getElem?_cons_succ] at h0 h1 l0 l1
 have HKA:=Hz (HK.out.alloc (.cells #[.int .i64 1, .int .i64 (-1)] 31))
 clear hk k0 k1
 generalize w1.alloc (.cells #[.int .i64 1, .int .i64 (-1)] 31)=wa at *
 refine wp_region_ro (.free 1 (.pure 0 (.run 2 (.swi [] (.fin))))) [2] (fun w'=>w'.cell? ⟨w1.heap.size,0,none⟩=some (.int .i64 1)∧w'.cell? ⟨w1.heap.size,1,none⟩=some (.int .i64 (-1))) (by kernel_rfl) (by kernel_rfl) ⟨h0,h1⟩ ?_
 iterate 2 first | (refine wpRO_free rfl rfl _ (fun w'=>by go_simp;exact Gives.mk _ _) (fun K hK=>?_);go_simp;refine hK _ ?_;clear hK K) | (refine wpRO_skipF rfl rfl (fun K hK=>?_);go_simp;refine hK _ ?_;clear hK K) | (refine wpRO_pure rfl rfl _ (fun w' hG=>by obtain ⟨g0,g1⟩:=hG;exact gives_agg2 rfl (by decide +kernel) rfl (by assumption) (by assumption)) (fun K hK=>?_);go_simp;refine hK _ ?_;clear hK K) | (refine wpRO_pure rfl rfl _ (fun w' hG=>by obtain ⟨g0,g1⟩:=hG;go_simp;exact Gives.mk _ _) (fun K hK=>?_);go_simp;refine hK _ ?_;clear hK K) | (refine wpRO_skip rfl rfl (fun K hK=>?_);go_simp;refine hK _ ?_;clear hK K)
 refine wpRO_chg rfl rfl rfl (fun K hK=>?_);unfold gRun;go_simp
 refine hK _ _ ?_
 clear hK K
 refine wpRO_swi (fun _=>True) trivial (wpRO_fin ?_)
 go_wp2_with fail
 refine bodyPost_ret (v:=.tuple #[.pointer none, .agg #[.int .i64 1, .int .i64 (-1)]]) (by simp [results,Try.results20,go_sem,l0,l1]) rfl ⟨rfl,(HKA.out.drew.setCell (p:=⟨w.heap.size,0,none⟩) (.inr (Nat.le_refl _)) _).setCell (p:=⟨w.heap.size,1,none⟩) (.inr (Nat.le_refl _)) _⟩
theorem WNew_yes (n o:Int) (w:World) (h:Ar.fits n o=true) :
  Calls Try.prog 20 #[.int .i64 n, .int .i64 o] w fun e w'=>WoodRet w n o e w':=by
 have HF:=Hz h
 have ho:o≤1000000∧-9223372036854775808≤o:=by simp [Ar.fits] at h;omega
 obtain ⟨i0,hi,hz0,hz1,hz2⟩:=info_parts info_i64
 have Hi:=Hz hi;have Hz0:=Hz hz0;have Hz1:=Hz hz1;have Hz2:=Hz hz2;clear hi hz0 hz1 hz2
 clear h
 go_enter Try.func20,Try.ntmps20
 go_wp2_with fail
 refine (ANew_yes n o _ HF.out).mono ?_
 rintro e w1 ⟨pa,g,rfl,hA,hk,hpa,hg⟩
 have HA:=Hz hA;have HK:=Hz (((Kz w).alloc (.cells #[.int .i64 0, .int .i64 0] 31)).trans hk)
 have HZ:=Hz (hk.blk (show Blk (w.alloc (.cells #[.int .i64 0, .int .i64 0] 31)) w.heap.size [.int .i64 0, .int .i64 0] 31 from Blk.newAt _ rfl rfl) (fun h=>h))
 have hsz:=hk.size
 simp at hsz hpa hg
 have HPA:=Hz hpa;have HG:=Hz hg
 clear hA hk hpa hg
 go_wp2_with fail
 refine (New_c n o _ ho.1 ho.2).mono ?_
 rintro e w2 ⟨rfl,hC,hz,hk⟩
 have hka:=(Kz w1).alloc (.cells #[.int .i64 0, .int .i64 0] 31)
 have HC:=Hz hC;have HK2:=Hz (HK.out.trans (hka.trans hk));have HA2:=Hz (HA.out.keep (hka.trans hk) (fun h=>h) (fun h=>h));have HZ2:=Hz ((hka.trans hk).blk HZ.out (fun h=>h))
 have hsz2:=hk.size
 simp at hsz2
 clear hC hk hz hka
 go_wp2_with fail
 have HN:=Hz (show NewIn w ⟨w2.heap.size+1,pa,g,w1.heap.size+1+1,w1.heap.size+1,w2.heap.size, .slice none 0 0, .slice none 0 0, .slice none 0 0⟩ n o ((w2.alloc (.cells #[.slice none 0 0, .slice none 0 0] 53)).alloc (.cells #[.pointer (some ⟨pa,0,none⟩), .pointer (some ⟨w1.heap.size+1+1,0,none⟩), .pointer (some ⟨w2.heap.size,0,none⟩), .slice none 0 0] 43)) 0 (.slice none 0 0) by
  have k1:=(Kz w2).alloc (.cells #[.slice none 0 0, .slice none 0 0] 53)
  have k2:=(Kz (w2.alloc (.cells #[.slice none 0 0, .slice none 0 0] 53))).alloc (.cells #[.pointer (some ⟨pa,0,none⟩), .pointer (some ⟨w1.heap.size+1+1,0,none⟩), .pointer (some ⟨w2.heap.size,0,none⟩), .slice none 0 0] 43)
  have k12:=k1.trans k2
  have hc:=HC.out
  simp only [World.size_alloc] at hc
  have s0:w.heap.size≤w1.heap.size:=by omega
  refine ⟨Blk.newAt _ (by simp) rfl,HA2.out.keep k12 (fun h=>h) (fun h=>h),hc.keep k12 (fun h=>h) (fun h=>h),?_,Sl.nil _ _ _,HK2.out.trans k12,?_,?_,?_,?_,?_,?_,fun b hb=>(nil_own hb).elim,fun hb=>nil_own hb,k12.blk HZ2.out (fun h=>h)⟩
  ·refine ⟨(Blk.newAt _ rfl rfl).alloc _,Sl.nil _ _ _,Sl.nil _ _ _,fun k hk=>nil_own hk.1⟩
  all_goals (have h1:=HPA.out;have h2:=HG.out;dsimp only;omega))
 clear HC HK2 HA2
 generalize (w2.alloc (.cells #[.slice none 0 0, .slice none 0 0] 53)).alloc (.cells #[.pointer (some ⟨pa,0,none⟩), .pointer (some ⟨w1.heap.size+1+1,0,none⟩), .pointer (some ⟨w2.heap.size,0,none⟩), .slice none 0 0] 43)=wb at *
 go_loopw [27] (fun i wr=>∃ (k:Nat) (v:Value),k≤12∧i=.int .i64 k∧NewIn w ⟨w2.heap.size+1,pa,g,w1.heap.size+1+1,w1.heap.size+1,w2.heap.size, .slice none 0 0, .slice none 0 0, .slice none 0 0⟩ n o wr k v) (fun i _=>12-(intOf i).toNat)
 case atStart=>exact ⟨0,_,Nat.zero_le _,rfl,HN.out⟩
 case round=>
  clear HN
  obtain ⟨k,v,hk,rfl,hI⟩:=hrel
  have HI:=Hz hI;clear hI
  by_cases hlt:k<12
  ·have c3:=HI.out.hp.cell 3;have pl:=HI.out.hp.lt;have f3:=HI.out.hp.free 3
   simp only [List.getElem?_cons_zero,List.getElem?_cons_succ] at c3
   obtain ⟨ao,cap,rfl,-,-,-⟩:=HI.out.hr.rd
   go_wp2_with fail
   refine wp_region_ro (.free 0 (.free 1 (.free 2 (.free 3 (.pure 4 (.run 5 (.run 6 (.run 7 (.swi [10] (.free 8 (.free 9 (.run 10 (.swi [] (.fin)))))))))))))) [7,8,9,10] (fun w'=>w'.cell? ⟨w2.heap.size+1,3,none⟩=some (.slice ao k cap)) (by kernel_rfl) (by kernel_rfl) c3 ?_
   iterate 5 first | (refine wpRO_free rfl rfl _ (fun w'=>by go_simp;exact Gives.mk _ _) (fun K hK=>?_);go_simp;refine hK _ ?_;clear hK K) | (refine wpRO_skipF rfl rfl (fun K hK=>?_);go_simp;refine hK _ ?_;clear hK K) | (refine wpRO_pure rfl rfl _ (fun w' hG=>by obtain g3:=hG;exact gives_agg2 rfl (by decide +kernel) rfl (by assumption) (by assumption)) (fun K hK=>?_);go_simp;refine hK _ ?_;clear hK K) | (refine wpRO_pure rfl rfl _ (fun w' hG=>by obtain g3:=hG;go_simp;exact Gives.mk _ _) (fun K hK=>?_);go_simp;refine hK _ ?_;clear hK K) | (refine wpRO_skip rfl rfl (fun K hK=>?_);go_simp;refine hK _ ?_;clear hK K)
   refine wpRO_run rfl rfl (fun K hK=>?_);unfold gRun;go_simp
   refine (Nil_c _).mono ?_
   rintro e w3 ⟨rfl,rfl⟩
   refine hK _ _ (fun h=>h) ?_
   clear hK K
   refine wpRO_run rfl rfl (fun K hK=>?_);unfold gRun;go_simp
   have hkb:Keeps (fun _=>False) wr ((wr.drew).alloc (.cells #[.int .i64 2] 2)):=(Kz wr).drew.alloc (.cells #[.int .i64 2] 2)
   refine hK _ _ (fun _=>(hkb.blk HI.out.hp (fun h=>h)).cell 3) ?_
   clear hK K
   refine wpRO_chg rfl rfl rfl (fun K hK=>?_)
   refine gRun_app (.tmp 33) (.tmp 35) 34 rfl 2 i0 (.int .i64 0) 1 8 Try.underlying34 Hi.out Hz0.out Hz1.out Hz2.out rfl (by decide) _ k (List.replicate k (.int .i64 2)) rfl (HI.out.hr.keep hkb (fun _ _ h=>h)) ⟨wr.heap.size,0,none⟩ 1 1 [.int .i64 2] rfl rfl (news_at wr.drew 2 #[.int .i64 2]) (by intro u hu;simp at hu;subst hu;rfl) (by unfold maxLen;omega) (by omega) ?_
   intro v3 w3 hs3 hk3 ho3
   have HI3:=Hz (HI.out.app hkb hs3 hk3 ho3)
   have hp3:=hk3.blk (hkb.blk HI.out.hp (fun h=>h)) (fun hv=>by obtain ⟨_,c',hc⟩:=(HI.out.hr.keep hkb (fun _ _ h=>h)).own hv;exact (hkb.blk HI.out.hp (fun h=>h)).ne hc (by decide) rfl)
   have x0:=hp3.cell 3;have xf:=hp3.free 3;have xl:=hp3.lt
   simp only [List.getElem?_cons_zero,List.getElem?_cons_succ] at x0
   refine hK _ _ ?_
   clear hK K hkb hs3 hk3 ho3 hp3 c3 pl f3
   refine wpRO_swi (fun _=>True) trivial ?_
   obtain ⟨vo3,vc3,rfl,-,-,-⟩:=HI3.out.hr.rd
   iterate 2 first | (refine wpRO_free rfl rfl _ (fun w'=>by go_simp;exact Gives.mk _ _) (fun K hK=>?_);go_simp;refine hK _ ?_;clear hK K) | (refine wpRO_skipF rfl rfl (fun K hK=>?_);go_simp;refine hK _ ?_;clear hK K)
   refine wpRO_chg rfl rfl rfl (fun K hK=>?_);unfold gRun;go_simp
   refine hK _ _ ?_
   clear hK K
   refine wpRO_swi (fun _=>True) trivial (wpRO_fin ?_)
   clear x0 xf xl
   go_wp2_with fail
   go_roundw
   case rel=>exact ⟨k+1,_,by omega,by go_num,HI3.out⟩
   case measure=>simp [intOf];omega
  ·obtain rfl:k=12:=by omega
   have z0:=HI.out.hz.cell 0;have z1:=HI.out.hz.cell 1;have zl:=HI.out.hz.lt;have zf:=HI.out.hz.free 0;have zg:=HI.out.hz.free 1
   simp only [List.getElem?_cons_zero,List.getElem?_cons_succ] at z0 z1
   have HD:=Hz (HI.out.done HF.out);have HKI:=Hz HI.out.hk
   go_wp2_with fail
   refine bodyPost_ret (v:=.tuple #[.pointer (some ⟨w2.heap.size+1,0,none⟩), .agg #[.int .i64 0, .int .i64 0]]) (by simp [results,Try.results20,go_sem,z0,z1]) rfl ⟨_,rfl,?_,(HKI.out.setCell (p:=⟨w.heap.size,0,none⟩) (.inr (Nat.le_refl _)) _).setCell (p:=⟨w.heap.size,1,none⟩) (.inr (Nat.le_refl _)) _,HD.out.2⟩
   have hD:=HD.out.1
   have ke:=((Keeps.refl (·=w.heap.size) wr).setCell (p:=⟨w.heap.size,0,none⟩) (.inl rfl) (.int .i64 0)).setCell (p:=⟨w.heap.size,1,none⟩) (.inl rfl) (.int .i64 0)
   exact hD.keep ke (fun b hb e=>by
    subst e
    have hzz:=HI.out.hz
    rcases hb with e | (e | e) | (e | e) | e | e
    ·exact hzz.ne hD.hp (by decide) e
    ·exact hzz.ne hD.ha.hp (by decide) e
    ·exact hzz.ne hD.ha.hg (by decide) e
    ·exact hzz.ne hD.hc.hp (by decide) e
    ·exact hzz.ne hD.hc.hq (by decide) e
    ·exact hD.side_ne hzz (by decide) (by decide) e
    ·exact hD.ro_ne hzz (by decide) e)
end
section
open Go.RowKit
def RowsC {α:Type} (c:Nat) (R:α→List Value→Prop):List α→List Value→Prop
 | [],cs=>cs=[]
 | a :: l,cs=>∃ r rest,cs=r ++ rest∧r.length=c∧R a r∧RowsC c R l rest
section
variable {α:Type} {c:Nat} {R Q:α→List Value→Prop}
theorem RowsC.length:∀ {l:List α} {cs:List Value},RowsC c R l cs→cs.length=l.length*c
 | [],cs,h=>by cases h;simp
 | a :: l,cs,h=>by
  obtain ⟨r,rest,rfl,h1,_,h2⟩:=h
  rw [List.length_append,h1,RowsC.length h2,List.length_cons,Nat.succ_mul]
  omega
theorem RowsC.mono {l:List α} (hq:∀ a ∈ l, ∀ r,R a r→Q a r):∀ {cs:List Value},RowsC c R l cs→RowsC c Q l cs:=by
 induction l with
 | nil=>intro cs h;exact h
 | cons a l ih=>
  intro cs h
  obtain ⟨r,rest,rfl,h1,h2,h3⟩:=h
  exact ⟨r,rest,rfl,h1,hq a (by simp) r h2,ih (fun b hb=>hq b (by simp [hb])) h3⟩
theorem RowsC.app:∀ {l:List α} {cs:List Value} {a:α} {r:List Value},RowsC c R l cs→r.length=c→R a r→RowsC c R (l ++ [a]) (cs ++ r)
 | [],cs,a,r,h,h1,h2=>by cases h;exact ⟨r,[],by simp,h1,h2,rfl⟩
 | b :: l,cs,a,r,h,h1,h2=>by
  obtain ⟨r',rest,rfl,h3,h4,h5⟩:=h
  exact ⟨r',rest ++ r,by simp,h3,h4,RowsC.app h5 h1 h2⟩
theorem RowsC.get:∀ {l:List α} {cs:List Value} {i:Nat} (h:i<l.length),RowsC c R l cs→∃ r,(cs.drop (i*c)).take c=r∧r.length=c∧R l[i] r
 | a :: l,cs,0,_,h=>by
  obtain ⟨r,rest,rfl,h1,h2,_⟩:=h
  exact ⟨r,by simp [←h1],h1,h2⟩
 | a :: l,cs,i+1,hi,h=>by
  obtain ⟨r,rest,rfl,h1,_,h2⟩:=h
  obtain ⟨r',e,h3,h4⟩:=RowsC.get (i:=i) (by simpa using hi) h2
  refine ⟨r',?_,h3,h4⟩
  rw [←e,Nat.succ_mul,Nat.add_comm,←h1,←List.drop_drop,List.drop_left]
theorem RowsC.cell {l:List α} {cs:List Value} {i:Nat} (h:i<l.length) (hr:RowsC c R l cs):∃ r,r.length=c∧R l[i] r∧∀ j,j<c→cs[i*c+j]? = r[j]? := by
 obtain ⟨r,e,h1,h2⟩:=RowsC.get h hr
 refine ⟨r,h1,h2,fun j hj=>?_⟩
 rw [←e,List.getElem?_take,if_pos hj,List.getElem?_drop]
theorem RowsC.set:∀ {l:List α} {cs:List Value} {i:Nat} {a:α} {r:List Value} (_:i<l.length),RowsC c R l cs→r.length=c→R a r →
  RowsC c R (l.set i a) (cs.take (i*c) ++ r ++ cs.drop (i*c+c))
 | b :: l,cs,0,a,r,_,h,h1,h2=>by
  obtain ⟨r',rest,rfl,h3,_,h5⟩:=h
  refine ⟨r,rest,?_,h1,h2,h5⟩
  simp [←h3]
 | b :: l,cs,i+1,a,r,hi,h,h1,h2=>by
  obtain ⟨r',rest,rfl,h3,h4,h5⟩:=h
  refine ⟨r',_,?_,h3,h4,RowsC.set (i:=i) (by simpa using hi) h5 h1 h2⟩
  have e:(i+1)*c=r'.length+i*c:=by rw [Nat.succ_mul,h3];omega
  rw [e,List.take_append,List.take_of_length_le (by omega),show r'.length+i*c-r'.length=i*c by omega,show r'.length+i*c+c=r'.length+(i*c+c) by omega,←List.drop_drop,List.drop_left]
  simp
theorem RowsC.setCell {l:List α} {cs:List Value} {i j:Nat} {a:α} {u:Value} (h:i<l.length) (hj:j<c) (hr:RowsC c R l cs) (hR:∀ r,r.length=c→R l[i] r→R a (r.set j u)) :
  RowsC c R (l.set i a) (cs.set (i*c+j) u):=by
 obtain ⟨r,e,h1,h2⟩:=RowsC.get h hr
 have hlen:=RowsC.length hr
 have hm:i*c+c≤l.length*c:=by rw [←Nat.succ_mul];exact Nat.mul_le_mul_right _ h
 have:=RowsC.set (a:=a) (r:=r.set j u) h hr (by simpa using h1) (hR r h1 h2)
 have e2:cs.set (i*c+j) u=cs.take (i*c) ++ r.set j u ++ cs.drop (i*c+c):=by
  apply List.ext_getElem?
  intro k
  rw [List.getElem?_set]
  by_cases k1:k<i*c
  ·rw [if_neg (by omega),List.append_assoc,List.getElem?_append_left (by simp;omega),List.getElem?_take,if_pos k1]
  ·by_cases k2:k<i*c+c
   ·rw [List.append_assoc,List.getElem?_append_right (by simp;omega),List.length_take,List.getElem?_append_left (by simp;omega),List.getElem?_set,Nat.min_eq_left (by omega)]
    by_cases e3:i*c+j=k
    ·rw [if_pos e3,if_pos (by omega),if_pos (by omega),if_pos (by omega)]
    ·rw [if_neg e3,if_neg (by omega),←e,List.getElem?_take,if_pos (by omega),List.getElem?_drop]
     congr 1;omega
   ·rw [if_neg (by omega),List.getElem?_append_right (by simp;omega),List.getElem?_drop]
    congr 1;simp;omega
 rw [e2];exact this
end
end
section
open Go.RowKit Go.Maps
theorem Rd.int64 {w:World} {ao:Option Addr} {l:List Int} (h:Rd w ao (l.map (Value.int .i64))) (i:Nat) (hi:i<l.length) :
  ∃ g o,ao=some ⟨g,o,none⟩∧g<w.heap.size∧w.cell? ⟨g,o+i,none⟩=some (.int .i64 (l.getD i 0)):=by
 obtain ⟨g,o,rfl,hg,hc⟩:=h (by intro e;simp at e;subst e;simp at hi)
 refine ⟨g,o,rfl,hg,?_⟩
 rw [hc i (by simpa using hi)]
 simp [List.getD,hi]
theorem Sl.set {w:World} {e size:Nat} {g o n cap j:Nat} {xs:List Value} {u:Value} (h:Sl w e size (.slice (some ⟨g,o,none⟩) n cap) n xs) (hj:j<n*size) :
  Sl (w.setCell ⟨g,o+j,none⟩ u) e size (.slice (some ⟨g,o,none⟩) n cap) n (xs.set j u):=by
 obtain ⟨hl,⟨h1,_⟩ | ⟨g',o',cap',cur,e1,hb,h1,h2,h3,h4⟩⟩:=h
 ·cases h1
 ·cases e1
  refine ⟨by simpa using hl, .inr ⟨g,o,cap,_,rfl,hb.setSame _ _,h1,h2,by simpa using h3,?_⟩⟩
  rw [←h4]
  apply List.ext_getElem?
  intro k
  simp only [List.getElem?_take,List.getElem?_drop,List.getElem?_set,List.length_take,List.length_drop]
  by_cases hk:k<n*size
  ·rw [if_pos hk,if_pos hk]
   by_cases e:j=k
   ·subst e
    have:n*size≤cap*size:=Nat.mul_le_mul_right _ h1
    rw [if_pos rfl,if_pos rfl,if_pos (by omega),if_pos (by omega)]
   ·rw [if_neg (by omega),if_neg e]
  ·rw [if_neg hk,if_neg (by omega)]
   rw [if_neg hk]
def NodeRow (w:World) (F:Nat→Prop) (nd:Nd) (r:List Value):Prop:=
 ∃ ao cap,r=[.int .i64 nd.1, .slice ao nd.2.length cap]∧Rd w ao (entV nd.2)∧(∀ a,ao=some a→F a.block)∧nd.2.length≤maxLen
theorem NodeRow.keep {w w':World} {F S:Nat→Prop} {nd:Nd} {r:List Value} (h:NodeRow w F nd r) (k:Keeps S w w') (hn:∀ b,F b→b<w.heap.size→¬ S b):NodeRow w' F nd r:=by
 obtain ⟨ao,cap,e,hr,hf,hc⟩:=h
 exact ⟨ao,cap,e,hr.keep k (fun a ha hb=>hn _ (hf a ha) hb),hf,hc⟩
theorem NodeRow.more {w:World} {F F':Nat→Prop} {nd:Nd} {r:List Value} (h:NodeRow w F nd r) (hF:∀ b,F b→F' b):NodeRow w F' nd r:=by
 obtain ⟨ao,cap,e,hr,hf,hc⟩:=h
 exact ⟨ao,cap,e,hr,fun a ha=>hF _ (hf a ha),hc⟩
def NodesAt (w:World) (nv:Value) (F:Nat→Prop) (l:List Nd):Prop:=∃ cs,Sl w 61 2 nv l.length cs∧RowsC 2 (NodeRow w F) l cs
theorem NodesAt.keep {w w':World} {F S:Nat→Prop} {nv:Value} {l:List Nd} (h:NodesAt w nv F l) (k:Keeps S w w') (hn:∀ b,F b→b<w.heap.size→¬ S b) (hv:∀ b,ownB nv b→¬ S b):NodesAt w' nv F l:=by
 obtain ⟨cs,h1,h2⟩:=h
 exact ⟨cs,h1.keep k hv,h2.mono (fun a _ r hr=>hr.keep k hn)⟩
theorem NodesAt.nil (w:World) (F:Nat→Prop):NodesAt w (.slice none 0 0) F []:=⟨[],Sl.nil _ _ _,rfl⟩
def SeenAt (w:World) (b:Nat) (met:List Int):Prop:=
 ∃ n D,w.ownsMap (H:=Unit) Try.prog 3 (plainElem Try.prog 3) b n D∧n≤met.length ∧
  ∀ x:Int,-9223372036854775808≤x→x≤9223372036854775807→Maps.has D (.int .i64 x)=decide (x ∈ met)∧(x ∈ met→D.atKey (.int .i64 x) (.lit (.int .i64 0))=.lit (.int .i64 (met.idxOf x:Nat)))
theorem SeenAt.lt {w:World} {b:Nat} {met:List Int} (h:SeenAt w b met):b<w.heap.size:=by
 obtain ⟨n,D,h,_⟩:=h;exact h.lt
theorem SeenAt.ne {w:World} {b:Nat} {met:List Int} (h:SeenAt w b met) {k:Nat} {c:List Value} {T:TypeId} (hk:Blk w k c T):k≠b:=by
 rintro rfl
 obtain ⟨n,D,⟨es,clock,hb,_⟩,_⟩:=h
 unfold Blk at hk
 rw [hb] at hk;cases hk
theorem SeenAt.keep {w w':World} {b:Nat} {met:List Int} {S:Nat→Prop} (h:SeenAt w b met) (k:Keeps S w w') (hn:¬ S b):SeenAt w' b met:=by
 obtain ⟨n,D,⟨es,clock,hb,hr⟩,h2⟩:=h
 exact ⟨n,D,⟨es,clock,(k.block b (Array.getElem?_eq_some_iff.1 hb).1 hn).trans hb,hr⟩,h2⟩
theorem SeenAt.made (w:World):SeenAt (w.alloc (.map #[] 0)) w.heap.size []:=
 ⟨0, .map [],World.ownsMap_made _ _ _ _,Nat.le_refl _,fun x _ _=>⟨rfl,fun h=>by cases h⟩⟩
theorem grown_keeps {w w':World} {b:Nat} (h:w.grownBy w' (some b)):Keeps (·=b) w w':=
 ⟨h.os,h.tape,h.output,h.size,fun k hk hn=>h.block k hk (fun e=>hn (by cases e;rfl))⟩
theorem SeenAt.push {w w':World} {b n:Nat} {met:List Int} {x:Int} {D:DataW Unit} (hown:w.ownsMap (H:=Unit) Try.prog 3 (plainElem Try.prog 3) b n D) (hn:n≤met.length)
  (hD:∀ x:Int,-9223372036854775808≤x→x≤9223372036854775807→Maps.has D (.int .i64 x)=decide (x ∈ met)∧(x ∈ met→D.atKey (.int .i64 x) (.lit (.int .i64 0))=.lit (.int .i64 (met.idxOf x:Nat))))
  (hm:¬ x ∈ met) (h1:w'.ownsMap Try.prog 3 (plainElem Try.prog 3) b (n+1) (D.put (.int .i64 x) (.lit (.int .i64 (met.length:Nat))))):SeenAt w' b (met ++ [x]):=by
 refine ⟨n+1,_,h1,by simp;omega,fun y y1 y2=>?_⟩
 have hM:=hown.isMap
 by_cases e:y=x
 ·subst e
  refine ⟨by rw [has_put_same hM (show WideAt.IsKeyLit (.int .i64 y) from trivial)];simp,fun _=>?_⟩
  rw [atKey_put_same hM (show WideAt.IsKeyLit (.int .i64 y) from trivial),List.idxOf_append,if_neg hm]
  simp
 ·have hne:(Lit.int .i64 y)≠(Lit.int .i64 x):=fun h=>e (by cases h;rfl)
  have:=hD y y1 y2
  refine ⟨by rw [has_put_other hne,this.1];simp [e],fun hy=>?_⟩
  have hy':y ∈ met:=by simpa [e] using hy
  rw [atKey_put_other hne,this.2 hy',List.idxOf_append,if_pos hy']
end
section
open Go.RowKit Go.Maps
theorem key_int:Keyed Try.prog 3:=int_keyed Try.underlying3
theorem zero_int (w:World):(zeroValue 3).run Try.prog w=.ok (.int .i64 0) w:=by kernel_rfl
section
variable {w w':World} {h:WH} {O:Wo}
theorem WoodAt.own_type (H:WoodAt w h O) {k:Nat} (hk:h.Own k):∃ c T,Blk w k c T∧(T=43∨T=70∨T=2∨T=132∨T=4∨T=53∨T=100):=by
 rcases hk with rfl | (rfl | rfl) | (rfl | rfl) | hk | hk
 ·exact ⟨_,_,H.hp, .inl rfl⟩
 ·exact ⟨_,_,H.ha.hp, .inr (.inl rfl)⟩
 ·exact ⟨_,_,H.ha.hg, .inr (.inr (.inl rfl))⟩
 ·exact ⟨_,_,H.hc.hp, .inr (.inr (.inr (.inl rfl)))⟩
 ·exact ⟨_,_,H.hc.hq, .inr (.inr (.inr (.inr (.inl rfl))))⟩
 ·obtain ⟨c,T,hc,hT⟩:=H.hs.fp_type hk
  rcases hT with rfl | rfl
  ·exact ⟨_,_,hc, .inr (.inr (.inr (.inr (.inr (.inl rfl)))))⟩
  ·exact ⟨_,_,hc, .inr (.inr (.inr (.inr (.inr (.inr rfl)))))⟩
 ·obtain ⟨_,c,hc⟩:=H.hr.own hk;exact ⟨_,_,hc, .inr (.inr (.inl rfl))⟩
structure VwAt (w:World) (q:Nat) (h:WH) (O:Wo) (b:Nat) (rv nv:Value) (F:Nat→Prop) (s:VS):Prop where
 hq:Blk w q [.pointer (some ⟨h.p,0,none⟩), .map (some b),rv,nv] 74
 hw:WoodAt w h O
 hm:SeenAt w b s.1
 hn:NodesAt w nv F s.2
 hl:s.2.length=s.1.length
 hF:∀ k,F k→k<w.heap.size∧¬ (k=q∨k=b∨ownB nv k)
def VwFp (q b:Nat) (nv:Value) (k:Nat):Prop:=k=q∨k=b∨ownB nv k
theorem NodesAt.own {F:Nat→Prop} {nv:Value} {l:List Nd} (h:NodesAt w nv F l) {k:Nat} (hk:ownB nv k):k<w.heap.size∧∃ c,Blk w k c 61:=by
 obtain ⟨cs,hs,_⟩:=h
 exact hs.own hk
variable {q b:Nat} {rv nv:Value} {F:Nat→Prop} {s:VS}
theorem VwAt.wood_apart (V:VwAt w q h O b rv nv F s) {k:Nat} (hk:h.Own k):¬ VwFp q b nv k:=by
 obtain ⟨c,T,hc,hT⟩:=V.hw.own_type hk
 have hne:T≠74∧T≠61:=by rcases hT with rfl | rfl | rfl | rfl | rfl | rfl | rfl <;> exact ⟨by decide,by decide⟩
 rintro (rfl | rfl | hk2)
 ·exact hc.ne V.hq hne.1 rfl
 ·exact V.hm.ne hc rfl
 ·obtain ⟨_,c',hc'⟩:=V.hn.own hk2
  exact hc.ne hc' hne.2 rfl
theorem VwAt.lt (V:VwAt w q h O b rv nv F s) {k:Nat} (hk:VwFp q b nv k):k<w.heap.size:=by
 rcases hk with rfl | rfl | hk
 ·exact V.hq.lt
 ·exact V.hm.lt
 ·exact (V.hn.own hk).1
theorem VwAt.fp_ne (V:VwAt w q h O b rv nv F s) {k:Nat} {c:List Value} {T:TypeId} (hc:Blk w k c T) (h1:T≠74) (h2:T≠61):¬ VwFp q b nv k:=by
 rintro (rfl | rfl | hk2)
 ·exact hc.ne V.hq h1 rfl
 ·exact V.hm.ne hc rfl
 ·obtain ⟨_,c',hc'⟩:=V.hn.own hk2
  exact hc.ne hc' h2 rfl
theorem VwAt.keep {S:Nat→Prop} (V:VwAt w q h O b rv nv F s) (k:Keeps S w w') (h1:∀ j,VwFp q b nv j→¬ S j) (h2:∀ j,h.Own j→¬ S j) (h3:∀ j,F j→¬ S j):VwAt w' q h O b rv nv F s:=
 ⟨k.blk V.hq (h1 _ (.inl rfl)),V.hw.keep k h2,V.hm.keep k (h1 _ (.inr (.inl rfl))),V.hn.keep k (fun j hj _=>h3 j hj) (fun j hj=>h1 j (.inr (.inr hj))),V.hl,fun j hj=>⟨Nat.lt_of_lt_of_le (V.hF j hj).1 k.size,(V.hF j hj).2⟩⟩
theorem VwAt.same (V:VwAt w q h O b rv nv F s) (k:Keeps (fun _=>False) w w'):VwAt w' q h O b rv nv F s:=V.keep k (fun _ _ h=>h) (fun _ _ h=>h) (fun _ _ h=>h)
def VwTo (w:World) (q:Nat) (h:WH) (O:Wo) (b:Nat) (rv nv:Value) (F:Nat→Prop) (s':VS) (w':World):Prop:=
 ∃ nv' F',VwAt w' q h O b rv nv' F' s'∧Keeps (VwFp q b nv) w w'∧(∀ k,ownB nv' k→ownB nv k∨w.heap.size≤k)∧∀ k,F' k→F k∨w.heap.size≤k
theorem VwTo.refl (V:VwAt w q h O b rv nv F s) (k:Keeps (fun _=>False) w w'):VwTo w q h O b rv nv F s w':=
 ⟨nv,F,V.same k,k.mono (fun _ _ h=>h.elim),fun _ h=>.inl h,fun _ h=>.inl h⟩
def ValRet (w:World) (q:Nat) (h:WH) (O:Wo) (b:Nat) (rv nv:Value) (F:Nat→Prop) (r:Vl × VS) (e:Ending) (w':World):Prop:=
 e=.returned (.agg #[.int .i64 r.1.1, .int .i64 r.1.2])∧VwTo w q h O b rv nv F r.2 w'
def NodeRet (w:World) (q:Nat) (h:WH) (O:Wo) (b:Nat) (rv nv:Value) (F:Nat→Prop) (n:Nat) (s':VS) (e:Ending) (w':World):Prop:=
 e=.returned (.int .i64 n)∧VwTo w q h O b rv nv F s' w'
theorem valO_plain {x:Int} (h:x%4≠1):valO x=((decW x).1,(decW x).2.1):=if_neg h
theorem valO_ref {x:Int} (h:x%4=1):valO x=(3,x/4):=if_pos h
theorem valO_kind {x:Int} (h:x%4≠1):(valO x).1≠3:=by
 rw [valO_plain h]
 dsimp only
 unfold decW
 repeat' split
 all_goals (dsimp only;omega)
theorem value_met (x:Int) (n:Nat) (V:VwAt w q h O b rv nv F s) (hx:R64 x) (hm:x%4=1→x/4 ∈ s.1) (hl:s.1.length≤1000000) :
  Calls Try.prog 22 #[.pointer (some ⟨q,0,none⟩), .int .i64 x] w fun e w'=>ValRet w q h O b rv nv F (valM O.gr n (valO x) s) e w':=by
 have HV:=Hz V
 by_cases h1:x%4=1
 ·have HE:=Hz (show valM O.gr n (valO x) s=(refV (s.1.idxOf (x/4)),s) by rw [valO_ref h1];exact valM_met O.gr n rfl (hm h1))
  have H1:=Hz h1;have HM:=Hz (hm h1)
  have r1:-9223372036854775808≤x/4:=by have:=hx.1;omega
  have r2:x/4≤9223372036854775807:=by have:=hx.2;omega
  clear V h1 hm
  go_enter Try.func22,Try.ntmps22
  go_wp2_with fail
  refine (At_yes x _ H1.out).mono ?_
  rintro e w1 ⟨rfl,rfl⟩
  have V1:=Hz (HV.out.same ((Kz w).alloc (.cells #[.int .i64 0, .int .i64 0] 59)))
  have c1:=V1.out.hq.cell 1;have cl:=V1.out.hq.lt
  simp only [List.getElem?_cons_zero,List.getElem?_cons_succ] at c1
  obtain ⟨n0,D,hown,hn0,hD⟩:=V1.out.hm
  have HD:=Hz (hD (x/4) r1 r2)
  clear hD
  go_wp2_with (at_lookup;refine wpList_lookup_own_ok_int _ rfl _ _ 72 rfl 3 3 .i64 key_int Try.underlying72 Try.underlying3 (zero_int _) b n0 D rfl hown _ _ rfl (keyOf_int_mk Try.underlying3 (WalkArith.wf_i64 (by constructor <;> omega))) ?_)
  intro c hat hwc
  have hat2:=HD.out.2 HM.out
  rw [hat] at hat2
  obtain rfl:c=(s.1.idxOf (x/4):Nat):=by simpa using hat2
  rw [HD.out.1,decide_eq_true HM.out]
  clear hat hat2 hwc hown hn0
  go_wp2_with fail
  refine bodyPost_ret (v:=.agg #[.int .i64 3, .int .i64 (s.1.idxOf (x/4):Nat)]) (by simp [results,Try.results22,go_sem]) rfl ?_
  refine ⟨by rw [HE.out];rfl,?_⟩
  rw [HE.out]
  exact VwTo.refl HV.out ((Kz w).alloc _)
 ·have HE:=Hz (show valM O.gr n (valO x) s=(((decW x).1,(decW x).2.1),s) by rw [valM_plain O.gr n s (valO_kind h1),valO_plain h1])
  have H1:=Hz h1;have HX:=Hz hx
  clear V h1 hm hx
  go_enter Try.func22,Try.ntmps22
  go_wp2_with fail
  refine (At_no x _ H1.out).mono ?_
  rintro e w1 ⟨rfl,rfl⟩
  go_wp2_with fail
  refine (Decode_c x _ HX.out.1 HX.out.2).mono ?_
  rintro e w1 ⟨rfl,hk⟩
  have hka:=(Kz w).alloc (.cells #[.int .i64 0, .int .i64 0] 59)
  have HKA:=Hz (hka.trans hk)
  have l0:=(hk.blk (show Blk (w.alloc (.cells #[.int .i64 0, .int .i64 0] 59)) w.heap.size [.int .i64 0, .int .i64 0] 59 from Blk.newAt _ rfl rfl) (fun h=>h))
  have L0:=Hz l0
  clear hka hk l0
  obtain ⟨⟨dk,dn,dc⟩,hd⟩:∃ t,decW x=t:=⟨_,rfl⟩
  rw [hd] at HE ⊢
  clear hd
  dsimp only at HE ⊢
  have l0:=L0.out.cell 0;have l1:=L0.out.cell 1;have ll:=L0.out.lt;have f0:=L0.out.free 0;have f1:=L0.out.free 1
  simp only [List.getElem?_cons_zero,List.getElem?_cons_succ] at l0 l1
  go_wp2_with fail
  have hb2:=((L0.out.setSame 0 (.int .i64 dk)).setSame 1 (.int .i64 dn)).alloc (.cells #[.int .i64 dk, .int .i64 dn] 59)
  have x0:=hb2.cell 0;have x1:=hb2.cell 1
  simp only [List.set_cons_zero,List.set_cons_succ,List.getElem?_cons_zero,List.getElem?_cons_succ] at x0 x1
  refine bodyPost_ret (v:=.agg #[.int .i64 dk, .int .i64 dn]) (by simp [results,Try.results22,go_sem,x0,x1]) rfl ?_
  refine ⟨by rw [HE.out],?_⟩
  rw [HE.out]
  exact VwTo.refl HV.out (((HKA.out.setCell (p:=⟨w.heap.size,0,none⟩) (.inr (Nat.le_refl _)) _).setCell (p:=⟨w.heap.size,1,none⟩) (.inr (Nat.le_refl _)) _).alloc _)
structure InNode (w:World) (q:Nat) (h:WH) (O:Wo) (b:Nat) (rv nv:Value) (F:Nat→Prop) (s:VS) (lv:Value) (l:List Vl) (wr:World) (nv':Value) (F':Nat→Prop):Prop where
 V:VwAt wr q h O b rv nv' F' s
 K:Keeps (VwFp q b nv) w wr
 o1:∀ k,ownB nv' k→ownB nv k∨w.heap.size≤k
 o2:∀ k,F' k→F k∨w.heap.size≤k
 L:Sl wr 59 2 lv l.length (entV l)
 o3:∀ k,ownB lv k→w.heap.size≤k∧¬ F' k
theorem InNode.lv_ne {lv:Value} {l:List Vl} {wr:World} {nv':Value} {F':Nat→Prop} (I:InNode w q h O b rv nv F s lv l wr nv' F') {k:Nat} (hk:ownB lv k):¬ VwFp q b nv' k∧¬ h.Own k:=by
 obtain ⟨_,c,hc⟩:=I.L.own hk
 constructor
 ·rintro (rfl | rfl | h1)
  ·exact hc.ne I.V.hq (by decide) rfl
  ·exact I.V.hm.ne hc rfl
  ·obtain ⟨_,c',hc'⟩:=I.V.hn.own h1
   exact hc.ne hc' (by decide) rfl
 ·intro h1
  obtain ⟨c',T,hc',hT⟩:=I.V.hw.own_type h1
  rcases hT with rfl | rfl | rfl | rfl | rfl | rfl | rfl <;> exact hc.ne hc' (by decide) rfl
theorem InNode.told {lv:Value} {l:List Vl} {wr w2:World} {nv':Value} {F':Nat→Prop} {s2:VS} (I:InNode w q h O b rv nv F s lv l wr nv' F') (t:VwTo wr q h O b rv nv' F' s2 w2):∃ nv2 F2,InNode w q h O b rv nv F s2 lv l w2 nv2 F2:=by
 obtain ⟨nv2,F2,V2,k2,p1,p2⟩:=t
 refine ⟨nv2,F2,V2,I.K.then k2 (fun j hj=>?_),fun j hj=>?_,fun j hj=>?_,I.L.keep k2 (fun j hj=>(I.lv_ne hj).1),fun j hj=>⟨(I.o3 j hj).1,fun hf=>?_⟩⟩
 ·rcases hj with rfl | rfl | hj
  ·exact .inl (.inl rfl)
  ·exact .inl (.inr (.inl rfl))
  ·rcases I.o1 j hj with h | h
   ·exact .inl (.inr (.inr h))
   ·exact .inr h
 ·rcases p1 j hj with h | h
  ·exact I.o1 j h
  ·exact .inr (Nat.le_trans I.K.size h)
 ·rcases p2 j hj with h | h
  ·exact I.o2 j h
  ·exact .inr (Nat.le_trans I.K.size h)
 ·rcases p2 j hf with h | h
  ·exact (I.o3 j hj).2 h
  ·have:=(I.L.own hj).1;omega
theorem InNode.app {lv:Value} {l:List Vl} {wr wa w2:World} {nv' lv2:Value} {F':Nat→Prop} {v:Vl} (I:InNode w q h O b rv nv F s lv l wr nv' F') (ka:Keeps (fun _=>False) wr wa)
  (hs:Sl w2 59 2 lv2 (l.length+1) (entV l ++ [.int .i64 v.1, .int .i64 v.2])) (hk:Keeps (ownB lv) wa w2) (ho:∀ k,ownB lv2 k→ownB lv k∨wa.heap.size≤k):InNode w q h O b rv nv F s lv2 (l ++ [v]) w2 nv' F':=by
 have k2:=(ka.mono (T:=ownB lv) (fun _ _ h=>h.elim)).trans hk
 refine ⟨I.V.keep k2 (fun j hj hl=>(I.lv_ne hl).1 hj) (fun j hj hl=>(I.lv_ne hl).2 hj) (fun j hj hl=>(I.o3 j hl).2 hj),I.K.then k2 (fun j hj=>.inr (I.o3 j hj).1),I.o1,I.o2,?_,fun j hj=>?_⟩
 ·have e:entV (l ++ [v])=entV l ++ [.int .i64 v.1, .int .i64 v.2]:=by simp [entV]
  rw [e,List.length_append];exact hs
 ·rcases ho j hj with h1 | h1
  ·exact I.o3 j h1
  ·have:=ka.size;have:=I.K.size
   exact ⟨by omega,fun hf=>by have:=(I.V.hF j hf).1;omega⟩
theorem InNode.same {lv:Value} {l:List Vl} {wr w2:World} {nv':Value} {F':Nat→Prop} (I:InNode w q h O b rv nv F s lv l wr nv' F') (k:Keeps (fun _=>False) wr w2):InNode w q h O b rv nv F s lv l w2 nv' F':=
 ⟨I.V.same k,I.K.trans (k.mono (fun _ _ h=>h.elim)),I.o1,I.o2,I.L.keep k (fun _ _ h=>h),I.o3⟩
theorem VwAt.push {x:Int} {kd:Int} {wm wa w2:World} {nv2:Value} (V:VwAt w q h O b rv nv F s) (hm:SeenAt wm b (s.1 ++ [x])) (km:Keeps (·=b) w wm) (ka:Keeps (fun _=>False) wm wa)
  (cs:List Value) (hcs:RowsC 2 (NodeRow w F) s.2 cs)
  (hs:Sl w2 61 2 nv2 (s.2.length+1) (cs ++ [.int .i64 kd, .slice none 0 0])) (hk:Keeps (ownB nv) wa w2) (ho:∀ k,ownB nv2 k→ownB nv k∨wa.heap.size≤k) :
  VwTo w q h O b rv nv F (s.1 ++ [x],s.2 ++ [(kd,[])]) (w2.setCell ⟨q,3,none⟩ nv2):=by
 have K1:Keeps (VwFp q b nv) w w2:=((km.mono (fun j _ hj=>.inr (.inl hj))).trans (ka.mono (fun _ _ h=>h.elim))).trans (hk.mono (fun j _ hj=>.inr (.inr hj)))
 have K2:=K1.setCell (p:=⟨q,3,none⟩) (.inl (.inl rfl)) nv2
 have hsz:=km.size;have hsz2:=ka.size;have hsz3:=hk.size
 have nq:¬ ownB nv q:=fun hq=>by obtain ⟨_,c,hc⟩:=V.hn.own hq;exact V.hq.ne hc (by decide) rfl
 have nb:¬ ownB nv b:=fun hq=>by obtain ⟨_,c,hc⟩:=V.hn.own hq;exact V.hm.ne hc rfl
 have qb:q≠b:=V.hm.ne V.hq
 have hq2:=hk.blk (ka.blk (km.blk V.hq qb) (fun h=>h)) nq
 have ne2:∀ k,ownB nv2 k→k≠q:=fun k hk2 e=>by
  obtain ⟨_,c,hc⟩:=hs.own hk2
  exact hc.ne hq2 (by decide) e
 have setk:=(Keeps.refl (·=q) w2).setCell (p:=⟨q,3,none⟩) (.inl rfl) nv2
 refine ⟨nv2,F,⟨by simpa using hq2.setSame 3 nv2,V.hw.keep K2 (fun j hj=>V.wood_apart hj),?_,⟨_,by rw [List.length_append];exact hs.keep setk ne2,?_⟩,by simp [V.hl],fun j hj=>⟨?_,?_⟩⟩,K2,fun j hj=>?_,fun j hj=>.inl hj⟩
 ·exact (hm.keep (ka.mono (T:=ownB nv) (fun _ _ h=>h.elim) |>.trans hk) nb).keep setk (Ne.symm qb)
 ·refine RowsC.app (hcs.mono (fun a _ r hr=>hr.keep K2 (fun j hj _=>(V.hF j hj).2))) rfl ?_
  exact ⟨none,0,rfl,Rd.nil _ _,(fun a ha=>by cases ha),Nat.zero_le _⟩
 ·have:=(V.hF j hj).1;have:=K2.size;omega
 ·rintro (e | e | e)
  ·exact (V.hF j hj).2 (.inl e)
  ·exact (V.hF j hj).2 (.inr (.inl e))
  ·rcases ho j e with h1 | h1
   ·exact (V.hF j hj).2 (.inr (.inr h1))
   ·have:=(V.hF j hj).1;omega
 ·rcases ho j hj with h1 | h1
  ·exact .inl h1
  ·exact .inr (by omega)
theorem InNode.done {lv:Value} {l:List Vl} {wr:World} {nv':Value} {F':Nat→Prop} {kd:Int} {n:Nat} {g o cap:Nat} {ao:Option Addr} {lc:Nat} (hlv:lv=.slice ao l.length lc) (I:InNode w q h O b rv nv F s lv l wr nv' F')
  (hnv:nv'=.slice (some ⟨g,o,none⟩) s.2.length cap) (hn:s.2[n]? = some (kd,[])):VwTo w q h O b rv nv F (s.1,s.2.set n (kd,l)) (wr.setCell ⟨g,o+n*2+1,none⟩ lv):=by
 subst hnv hlv
 have hlt:n<s.2.length:=(List.getElem?_eq_some_iff.1 hn).1
 have hgo:ownB (.slice (some ⟨g,o,none⟩) s.2.length cap) g:=rfl
 have hne:=fun k hk=>I.lv_ne (k:=k) hk
 have setk:=(Keeps.refl (·=g) wr).setCell (p:=⟨g,o+n*2+1,none⟩) (.inl rfl) (.slice ao l.length lc)
 have K2:Keeps (VwFp q b nv) w (wr.setCell ⟨g,o+n*2+1,none⟩ (.slice ao l.length lc)):=I.K.setCell (p:=⟨g,o+n*2+1,none⟩) (by
  rcases I.o1 g hgo with h1 | h1
  ·exact .inl (.inr (.inr h1))
  ·exact .inr h1) _
 obtain ⟨cs,hs,hr⟩:=I.V.hn
 have hgq:¬ q=g:=fun e=>by
  obtain ⟨_,c,hc⟩:=hs.own hgo
  exact I.V.hq.ne hc (by decide) e
 have hgb:¬ b=g:=fun e=>by
  obtain ⟨_,c,hc⟩:=hs.own hgo
  exact I.V.hm.ne hc e.symm
 obtain ⟨ao',cap',e1,hrd,hcm,hnc⟩:=I.L.rd
 cases e1
 have hlF:∀ k,ownB (.slice ao l.length lc) k→¬ k=g:=fun k hk e=>by
  subst e
  exact (hne _ hk).1 (.inr (.inr hgo))
 refine ⟨.slice (some ⟨g,o,none⟩) s.2.length cap,fun k=>F' k∨ownB (.slice ao l.length lc) k,⟨setk.blk I.V.hq hgq,I.V.hw.keep setk (fun j hj e=>?_),I.V.hm.keep setk hgb,?_,by simp [I.V.hl],fun j hj=>?_⟩,K2,I.o1,fun j hj=>?_⟩
 ·subst e;exact I.V.wood_apart hj (.inr (.inr hgo))
 ·have hsl:(s.2.set n (kd,l)).length=s.2.length:=by simp
  refine ⟨cs.set (n*2+1) (.slice ao l.length lc),?_,?_⟩
  ·rw [hsl]
   exact hs.set (j:=n*2+1) (by omega)
  ·have hr':RowsC 2 (NodeRow (wr.setCell ⟨g,o+n*2+1,none⟩ (.slice ao l.length lc)) (fun k=>F' k∨ownB (.slice ao l.length lc) k)) s.2 cs:=
    hr.mono (fun a _ r h1=>(h1.keep setk (fun j hj _ e=>by subst e;exact (I.V.hF j hj).2 (.inr (.inr hgo)))).more (fun j hj=>.inl hj))
   refine RowsC.setCell hlt (by decide) hr' (fun r h2 h3=>?_)
   have e2:s.2[n]=(kd,[]):=by rw [List.getElem?_eq_getElem hlt] at hn;exact Option.some.inj hn
   rw [e2] at h3
   obtain ⟨_,_,rfl,-⟩:=h3
   refine ⟨ao,lc,rfl,hrd.keep setk (fun a ha _ e=>?_),fun a ha=>.inr ?_,hcm⟩
   ·subst ha;exact hlF a.block rfl e
   ·subst ha;rfl
 ·rcases hj with hj | hj
  ·exact ⟨Nat.lt_of_lt_of_le (I.V.hF j hj).1 setk.size,(I.V.hF j hj).2⟩
  ·exact ⟨Nat.lt_of_lt_of_le (I.L.own hj).1 setk.size,(hne j hj).1⟩
 ·rcases hj with hj | hj
  ·exact I.o2 j hj
  ·exact .inr (I.o3 j hj).1
end
end
section
open Go.RowKit Go.Maps
theorem info_parts1 {T:TypeId} {z:Option Value} {s b:Nat} (h:(Try.prog.info? T).map (fun i=>(i.zero,i.size,i.bytes))=some (z,s,b)):∃ i,Try.prog.info? T=some i∧i.zero=z∧i.size=s∧i.bytes=b:=by
 cases hx:Try.prog.info? T with
 | none=>rw [hx] at h;cases h
 | some i=>rw [hx] at h;simp at h;exact ⟨i,rfl,h.1,h.2.1,h.2.2⟩
theorem info_node:(Try.prog.info? 61).map (fun i=>(i.zero,i.size,i.bytes))=some (some (.agg #[.int .i64 0, .slice none 0 0]),2,32):=by kernel_rfl
theorem info_val:(Try.prog.info? 59).map (fun i=>(i.zero,i.size,i.bytes))=some (some (.agg #[.int .i64 0, .int .i64 0]),2,16):=by kernel_rfl
section
variable {h:WH} {O:Wo} {q b:Nat} {rv:Value}
def ValOk (h:WH) (O:Wo) (q b:Nat) (rv:Value) (n:Nat):Prop:=∀ (x:Int) (nv:Value) (F:Nat→Prop) (s:VS) (w:World),VwAt w q h O b rv nv F s→R64 x→(x%4=1→x/4 ∈ O.univ)→unM O.univ s.1≤n→s.1.length+unM O.univ s.1≤5000 →
 Calls Try.prog 22 #[.pointer (some ⟨q,0,none⟩), .int .i64 x] w fun e w'=>ValRet w q h O b rv nv F (valM O.gr n (valO x) s) e w'
def NS (G:Gr) (n:Nat) (x:Int) (s:VS) (j:Nat):List Vl × VS:=fldM (valM G n) ((G x).2.take j) (s.1 ++ [x],s.2 ++ [((G x).1,[])])
theorem NS_zero (G:Gr) (n:Nat) (x:Int) (s:VS):NS G n x s 0=([],(s.1 ++ [x],s.2 ++ [((G x).1,[])])):=rfl
theorem NS_step (G:Gr) (n:Nat) (x:Int) (s:VS) {j:Nat} {v:Vl} (h:(G x).2[j]? = some v):NS G n x s (j+1)=((NS G n x s j).1 ++ [(valM G n v (NS G n x s j).2).1],(valM G n v (NS G n x s j).2).2):=by
 unfold NS
 rw [List.take_add_one,h,Option.toList_some,fldM_app]
 rfl
theorem NS_len (G:Gr) (n:Nat) (x:Int) (s:VS) {j:Nat} (h:j≤(G x).2.length):(NS G n x s j).1.length=j:=by
 unfold NS;rw [fldM_len,List.length_take];omega
theorem NS_un {O:Wo} (hO:O.ok) {n:Nat} {x:Int} {s:VS} (hx:x ∈ O.univ) (j:Nat) (h:unM O.univ (s.1 ++ [x])≤n) (hc:(s.1 ++ [x]).length+unM O.univ (s.1 ++ [x])≤5000) :
  unM O.univ (NS O.gr n x s j).2.1≤n∧(NS O.gr n x s j).2.1.length+unM O.univ (NS O.gr n x s j).2.1≤5000:=by
 have I:=Wo.inU hO
 unfold NS
 obtain ⟨m,hm⟩:=fldM_pre (valM_pre O.gr n) ((O.gr x).2.take j) (s.1 ++ [x],s.2 ++ [((O.gr x).1,[])])
 have h1:=unM_app O.univ (s.1 ++ [x]) m
 have h2:=fldM_count (f:=valM O.gr n) (U:=O.univ) (valM_count I n) ((O.gr x).2.take j) (s.1 ++ [x],s.2 ++ [((O.gr x).1,[])]) (fun v hv=>I.shut x hx v (List.mem_of_mem_take hv))
 rw [hm] at h2 ⊢
 dsimp only at h2 ⊢
 exact ⟨by omega,by omega⟩
theorem gr_field {O:Wo} {x:Int} {j:Nat} (h:j<(O.ar.thing x).2.1.toNat):(O.gr x).2[j]? = some (valO (O.ar.load (x+1+j))):=by
 unfold Wo.gr
 dsimp only
 rw [List.getElem?_append_left (by simp [Ar.fields];omega),List.getElem?_map]
 unfold Ar.fields
 rw [List.getElem?_map,List.getElem?_range h]
 rfl
theorem gr_wait {O:Wo} {x:Int} {j:Nat} (hk:(O.ar.thing x).1=5) (h:j<(waitO O.wt (4*x+1)).length):(O.gr x).2[(O.ar.thing x).2.1.toNat+j]? = some (valO ((waitO O.wt (4*x+1)).getD j 0)):=by
 have e:((O.ar.fields x).map valO).length=(O.ar.thing x).2.1.toNat:=by simp [Ar.fields]
 unfold Wo.gr
 dsimp only
 rw [if_pos hk,List.getElem?_append_right (by rw [e];omega),e,show (O.ar.thing x).2.1.toNat+j-(O.ar.thing x).2.1.toNat=j by omega,List.getElem?_map,List.getElem?_eq_getElem h]
 simp [List.getD,h]
theorem gr_len {O:Wo} {x:Int}:(O.gr x).2.length=(O.ar.thing x).2.1.toNat+if (O.ar.thing x).1=5 then (waitO O.wt (4*x+1)).length else 0:=by
 unfold Wo.gr
 simp only [List.length_append,List.length_map,Ar.fields,List.length_range]
 split <;> simp
theorem NS_keep (G:Gr) (n:Nat) (x:Int) (s:VS) (j:Nat) (hl:s.2.length=s.1.length):(NS G n x s j).2.2[s.1.length]? = some ((G x).1,[]):=by
 unfold NS
 rw [fldM_keepN (valM_nodes G n) (valM_pre G n) (valM_keepN G n) _ _ (by simp [hl]) s.1.length (by simp)]
 simp [←hl]
theorem thing_guard {A:Ar} {x:Int} (h:(A.thing x).1=5):(A.thing x).2.1=0∧(A.thing x).2.2=0:=by
 unfold Ar.thing partsW at *
 split at h
 ·rename_i hf
  rw [if_pos hf]
  dsimp only at h ⊢
  rw [h] at hf
  simp [fitsW] at hf
  exact ⟨hf,rfl⟩
 ·cases h
theorem node_c (n:Nat) (ih:ValOk h O q b rv n) (x:Int) (nv:Value) (F:Nat→Prop) (s:VS) (w:World) (V:VwAt w q h O b rv nv F s) (x0:-2305843009213693952≤x) (x1:x≤2305843009213693951) (hx:x ∈ O.univ) (hm:¬ x ∈ s.1)
  (hu:unM O.univ s.1≤n+1) (hc:s.1.length+unM O.univ s.1≤5000) :
  Calls Try.prog 41 #[.pointer (some ⟨q,0,none⟩), .int .i64 x] w fun e w'=>NodeRet w q h O b rv nv F s.1.length (valM O.gr (n+1) (3,x) s).2 e w':=by
 have HV:=Hz V
 have HNEW:=Hz (valM_new O.gr n (v:=(3,x)) rfl hm)
 have HM:=Hz hm;have HX:=Hz hx
 have hp:=unM_push hx hm
 have HU:=Hz (show unM O.univ (s.1 ++ [x])≤n by omega)
 have HC:=Hz (show (s.1 ++ [x]).length+unM O.univ (s.1 ++ [x])≤5000 by rw [List.length_append];simp;omega)
 have hl5:s.1.length≤5000:=by omega
 obtain ⟨ni,hi,hz0,hz1,hz2⟩:=info_parts1 info_node
 have Ni:=Hz hi;have Nz0:=Hz hz0;have Nz1:=Hz hz1;have Nz2:=Hz hz2;clear hi hz0 hz1 hz2
 obtain ⟨vi,hi,hz0,hz1,hz2⟩:=info_parts1 info_val
 have Vi:=Hz hi;have Vz0:=Hz hz0;have Vz1:=Hz hz1;have Vz2:=Hz hz2;clear hi hz0 hz1 hz2
 obtain ⟨cs,hsl,hcs⟩:=V.hn
 obtain ⟨no,nc,rfl,-,hnm,-⟩:=hsl.rd
 have HSL:=Hz hsl;have HCS:=Hz hcs
 have HLL:=Hz V.hl
 have hs5:s.2.length≤5000:=by rw [V.hl];exact hl5
 obtain ⟨n0,D,hown,hn0,hD⟩:=V.hm
 have c3:=V.hq.cell 3;have cl:=V.hq.lt;have c1:=V.hq.cell 1;have c0:=V.hq.cell 0
 simp only [List.getElem?_cons_zero,List.getElem?_cons_succ] at c3 c1 c0
 have HD:=Hz hD
 clear V hm hp hu hc hsl hcs hD hnm
 go_enter Try.func41,Try.ntmps41
 go_wp2_with (at_mapUpdate;refine wpList_mapUpdate_own _ rfl _ _ _ 72 rfl 3 3 key_int Try.underlying72 _ b n0 D rfl hown (by unfold maxLen;omega) _ _ _ rfl rfl (keyOf_int_mk Try.underlying3 (WalkArith.wf_i64 (by constructor <;> omega))) _ [] (plainElem_int Try.underlying3 (WalkArith.wf_i64 (by constructor <;> omega))) ?_)
 intro wm hown1 hgrow
 have hsee:=SeenAt.push (w:=w) (w':=wm) hown hn0 HD.out HM.out (by rw [←HLL.out];exact hown1)
 have KM:=Hz (grown_keeps hgrow);have HSEE:=Hz hsee
 have Wm:=HV.out.hw.keep KM.out (fun j hj e=>HV.out.wood_apart hj (.inr (.inl e)))
 have HWM:=Hz Wm
 have hqm:=KM.out.blk HV.out.hq (HV.out.hm.ne HV.out.hq)
 have HQM:=Hz hqm
 have c3:=hqm.cell 3;have cl:=hqm.lt;have c0:=hqm.cell 0
 simp only [List.getElem?_cons_zero,List.getElem?_cons_succ] at c3 c0
 obtain ⟨d0,-,d2,-⟩:=Wm.ptrs
 have dl:=Wm.hp.lt
 clear hown hown1 hgrow hn0 hsee Wm hqm c1
 go_wp2_with fail
 refine (Thing_c x _ HWM.out.ha).mono ?_
 rintro e w2 ⟨rfl,rfl⟩
 obtain ⟨⟨kd,nf,kc⟩,hT⟩:∃ t,O.ar.thing x=t:=⟨_,rfl⟩
 have HT:=Hz hT
 have hnf:=O.ar.thing_fields x
 rw [hT] at hnf ⊢
 dsimp only at hnf ⊢
 clear hT
 go_wp2_with (at_builtin;refine wpList_app rfl (.tmp 43) (.tmp 46) 45 rfl 61 ni (.agg #[.int .i64 0, .slice none 0 0]) 2 32 Try.underlying45 Ni.out Nz0.out Nz1.out Nz2.out rfl (by decide) _ s.2.length cs rfl ((HSL.out.keep KM.out (fun j hj e=>by subst e;obtain ⟨_,c,hc⟩:=HSL.out.own hj;exact HV.out.hm.ne hc rfl)).keep ((Kz wm).alloc _) (fun _ _ h=>h)) ⟨wm.heap.size,0,none⟩ 1 1 [.int .i64 kd, .slice none 0 0] rfl rfl (news_at wm 61 #[.int .i64 kd, .slice none 0 0]) (by intro u hu;simp at hu;rcases hu with rfl | rfl <;> rfl) (by unfold maxLen;omega) (by omega) ?_)
 intro v2 w2 hs2 hk2 ho2
 have hka:=(Kz wm).alloc (.cells #[.int .i64 kd, .slice none 0 0] 61)
 have HT2:=Hz (HV.out.push (x:=x) (kd:=kd) HSEE.out KM.out hka cs HCS.out hs2 hk2 (by simpa using ho2))
 have nq:¬ ownB (.slice no s.2.length nc) q:=fun hq=>by obtain ⟨_,c,hc⟩:=HSL.out.own hq;exact HV.out.hq.ne hc (by decide) rfl
 have hq2:=hk2.blk (hka.blk HQM.out (fun h=>h)) nq
 have x3:=hq2.cell 3;have xl:=hq2.lt;have xf:=hq2.free 3
 simp only [List.getElem?_cons_zero,List.getElem?_cons_succ] at x3
 obtain ⟨vo2,vc2,rfl,-,-,-⟩:=hs2.rd
 clear hs2 hk2 ho2 hka nq hq2 c3 c0 cl d0 d2 dl
 go_wp2_with fail
 have HI:=Hz (show ∃ nv1 F1,InNode w q h O b rv (.slice no s.2.length nc) F (s.1 ++ [x],s.2 ++ [(kd,[])]) (.slice none 0 0) [] (w2.setCell ⟨q,3,none⟩ (.slice vo2 (s.2.length+1) vc2)) nv1 F1 by
  obtain ⟨nv1,F1,V1,k1,p1,p2⟩:=HT2.out
  exact ⟨nv1,F1,V1,k1,p1,p2,Sl.nil _ _ _,fun k hk=>(nil_own hk).elim⟩)
 clear HT2 x3 xl xf
 generalize w2.setCell ⟨q,3,none⟩ (.slice vo2 (s.2.length+1) vc2)=w3 at *
 have hkd:(O.gr x).1=kd:=by show (O.ar.thing x).1=kd;rw [HT.out]
 have HNF:=Hz (show ∀ j:Nat,(j:Int)<nf→(O.gr x).2[j]? = some (valO (O.ar.load (x+1+j))) from fun j hj=>gr_field (by rw [HT.out];dsimp only;omega))
 have HLEN:=Hz (show (O.gr x).2.length=nf.toNat+if kd=5 then (waitO O.wt (4*x+1)).length else 0 by rw [gr_len,HT.out])
 have HKP:=Hz (fun j=>NS_keep O.gr n x s j HLL.out)
 have HUN:=Hz (fun j=>NS_un HV.out.hw.ok HX.out j HU.out HC.out)
 obtain ⟨f,rfl⟩:∃ f:Nat,nf=f:=⟨nf.toNat,by omega⟩
 have HI0:=Hz (show ∃ nv1 F1,InNode w q h O b rv (.slice no s.2.length nc) F (NS O.gr n x s 0).2 (.slice none 0 0) (NS O.gr n x s 0).1 w3 nv1 F1 by rw [NS_zero,hkd];exact HI.out)
 have HKD:=Hz hkd
 clear HI hkd
 have ih':=Hz ih
 go_loopw [9,52] (fun lv i wr=>∃ (j:Nat) (nv1:Value) (F1:Nat→Prop),j≤f∧i=.int .i64 j∧InNode w q h O b rv (.slice no s.2.length nc) F (NS O.gr n x s j).2 lv (NS O.gr n x s j).1 wr nv1 F1) (fun _ i _=>f-(intOf i).toNat)
 case atStart=>
  obtain ⟨nv1,F1,hI⟩:=HI0.out
  exact ⟨0,nv1,F1,Nat.zero_le _,rfl,hI⟩
 case round=>
  clear HI0
  obtain ⟨j,nv1,F1,hj,rfl,hI⟩:=hrel
  have HI:=Hz hI
  by_cases hlt:j<f
  ·have HST:=Hz (NS_step O.gr n x s (HNF.out j (by omega)))
   have hjl:=NS_len O.gr n x s (j:=j) (by rw [HLEN.out];omega)
   have HJL:=Hz hjl
   have c0:=hI.V.hq.cell 0;have cl:=hI.V.hq.lt
   obtain ⟨d0,-,-,-⟩:=hI.V.hw.ptrs
   have dl:=hI.V.hw.hp.lt
   simp only [List.getElem?_cons_zero,List.getElem?_cons_succ] at c0
   obtain ⟨lo,lc,rfl,-,-,-⟩:=hI.L.rd
   rw [hjl] at HI ⊢
   clear hI hjl
   go_wp2_with fail
   refine (Load_c (x+1+j) _ HI.out.V.hw.ha).mono ?_
   rintro e w4 ⟨rfl,rfl⟩
   have HLR:=Hz (HV.out.hw.ok.ha.load (x+1+j))
   have HLU:=Hz (Wo.univ_load HV.out.hw.ok (x+1+j))
   generalize O.ar.load (x+1+j)=y at *
   go_wp2_with fail
   refine (ih'.out y nv1 F1 _ _ HI.out.V HLR.out (fun _=>HLU.out) (HUN.out j).1 (HUN.out j).2).mono ?_
   rintro e w4 ⟨rfl,ht⟩
   obtain ⟨nv2,F2,hI2⟩:=HI.out.told ht
   obtain ⟨⟨⟨r1,r2⟩,sr⟩,hr⟩:∃ t,valM O.gr n (valO y) (NS O.gr n x s j).2=t:=⟨_,rfl⟩
   rw [hr] at hI2 HST ⊢
   dsimp only at hI2 HST ⊢
   have HI2:=Hz hI2
   have HL2:=Hz (show Sl w4 59 2 (.slice lo j lc) j (entV (NS O.gr n x s j).1) by have:=hI2.L;rw [HJL.out] at this;exact this)
   clear hI2 ht c0 cl d0 dl hr
   go_wp2_with (at_builtin;refine wpList_app rfl (.tmp 55) (.tmp 70) 44 rfl 59 vi (.agg #[.int .i64 0, .int .i64 0]) 2 16 Try.underlying44 Vi.out Vz0.out Vz1.out Vz2.out rfl (by decide) _ j (entV (NS O.gr n x s j).1) rfl (HL2.out.keep ((Kz w4).alloc _) (fun _ _ h=>h)) ⟨w4.heap.size,0,none⟩ 1 1 [.int .i64 r1, .int .i64 r2] rfl rfl (news_at w4 59 #[.int .i64 r1, .int .i64 r2]) (by intro u hu;simp at hu;rcases hu with rfl | rfl <;> rfl) (by unfold maxLen;omega) (by omega) ?_)
   intro v5 w5 hs5 hk5 ho5
   have HI5:=Hz (HI2.out.app (v:=(r1,r2)) ((Kz w4).alloc _) (by rw [HJL.out];exact hs5) hk5 (by simpa using ho5))
   clear hs5 hk5 ho5
   go_wp2_with fail
   go_roundw
   case rel=>exact ⟨j+1,nv2,F2,by omega,by go_num,by rw [HST.out];exact HI5.out⟩
   case measure=>simp [intOf];omega
  ·obtain rfl:j=f:=by omega
   clear hlt hj
   by_cases hk5:kd=5
   ·subst hk5
    have hg:=thing_guard (A:=O.ar) (x:=x) (by rw [HT.out])
    rw [HT.out] at hg
    dsimp only at hg
    obtain rfl:j=0:=by omega
    obtain rfl:kc=0:=hg.2
    have hux:=HV.out.hw.ok.ha.use_lt (O.ar.thing_use (i:=x) (by rw [HT.out]))
    have h4:=HV.out.hw.ok.ha.h4
    rw [if_pos rfl] at HLEN
    have HGW:=Hz (fun (j:Nat) (hj:j<(waitO O.wt (4*x+1)).length)=>by have:=gr_wait (O:=O) (x:=x) (by rw [HT.out]) hj;rw [HT.out] at this;exact this)
    have hwl:(waitO O.wt (4*x+1)).length≤24:=by have h1:=atG_le (4*x+1) O.wt;have h2:=HV.out.hw.ok.hq;unfold waitO;unfold atG at h1;omega
    have hgl:O.rg.length≤1000000:=by have h2:=HV.out.hw.ok.hq;omega
    have hwl2:O.wt.length≤1000000:=by have h2:=HV.out.hw.ok.hq;omega
    have c0:=hI.V.hq.cell 0;have cl:=hI.V.hq.lt
    obtain ⟨-,-,d2,-⟩:=hI.V.hw.ptrs
    have dl:=hI.V.hw.hp.lt
    simp only [List.getElem?_cons_zero,List.getElem?_cons_succ] at c0
    clear hg hI
    go_wp2_with fail
    refine wp_region_ro (.free 0 (.free 1 (.free 2 (.free 7 (.free 11 (.pure 3 (.free 4 (.free 5 (.pure 6 (.run 8 (.run 9 (.swi [] (.free 10 (.fin)))))))))))))) [9,10] (fun w'=>w'.cell? ⟨q,0,none⟩=some (.pointer (some ⟨h.p,0,none⟩))∧w'.cell? ⟨h.p,2,none⟩=some (.pointer (some ⟨h.ps,0,none⟩))) (by kernel_rfl) (by kernel_rfl) ⟨c0,d2⟩ ?_
    iterate 9 first | (refine wpRO_free rfl rfl _ (fun w'=>by go_simp;exact Gives.mk _ _) (fun K hK=>?_);go_simp;refine hK _ ?_;clear hK K) | (refine wpRO_skipF rfl rfl (fun K hK=>?_);go_simp;refine hK _ ?_;clear hK K) | (refine wpRO_pure rfl rfl _ (fun w' hG=>by obtain ⟨g0,g2⟩:=hG;exact gives_agg2 rfl (by decide +kernel) rfl (by assumption) (by assumption)) (fun K hK=>?_);go_simp;refine hK _ ?_;clear hK K) | (refine wpRO_pure rfl rfl _ (fun w' hG=>by obtain ⟨g0,g2⟩:=hG;go_simp;exact Gives.mk _ _) (fun K hK=>?_);go_simp;refine hK _ ?_;clear hK K) | (refine wpRO_skip rfl rfl (fun K hK=>?_);go_simp;refine hK _ ?_;clear hK K)
    refine wpRO_run rfl rfl (fun K hK=>?_);unfold gRun;go_simp
    refine (Ref_c x _ (by omega) (by omega)).mono ?_
    rintro e w4 ⟨rfl,rfl⟩
    refine hK _ _ (fun h=>h) ?_
    clear hK K
    refine wpRO_chg rfl rfl rfl (fun K hK=>?_);unfold gRun;go_simp
    refine (At_c h.ps _ _ _ _ (4*x+1) _ (HI.out.same (Kz wr).drew).V.hw.hs hwl2).mono ?_
    rintro e w4 ⟨ao,ac,rfl,hs4,hk4,ho4⟩
    have hI4:=HI.out.same ((Kz wr).drew.trans hk4)
    have HI4:=Hz hI4;have HS4:=Hz hs4
    have HO4:Hid (∀ k,ownB (.slice ao (atG (4*x+1) O.wt).length ac) k→wr.heap.size≤k):=fun k hk=>ho4 k hk
    refine hK _ _ ?_
    clear hK K hs4 hk4 ho4 hI4 c0 cl d2 dl
    refine wpRO_swi (fun _=>True) trivial ?_
    iterate 1 first | (refine wpRO_free rfl rfl _ (fun w'=>by go_simp;exact Gives.mk _ _) (fun K hK=>?_);go_simp;refine hK _ ?_;clear hK K) | (refine wpRO_skipF rfl rfl (fun K hK=>?_);go_simp;refine hK _ ?_;clear hK K)
    refine wpRO_fin ?_
    have hLW:atG (4*x+1) O.wt=waitO O.wt (4*x+1):=rfl
    rw [hLW] at HS4 HO4 ⊢
    have HRW:=Hz (show ∀ y ∈ waitO O.wt (4*x+1),R64 y from fun y hy=>by
     unfold waitO at hy
     obtain ⟨e,he,rfl⟩:=List.mem_map.1 hy
     exact (HV.out.hw.ok.hw e (List.mem_filter.1 he).1).2)
    have HRU:=Hz (show ∀ y ∈ waitO O.wt (4*x+1),y/4 ∈ O.univ from fun y hy=>Wo.univ_wait hy)
    clear hLW
    generalize waitO O.wt (4*x+1)=L at *
    simp only [Int.toNat_natCast,Nat.zero_add] at HLEN HGW
    go_wp2_with fail
    go_loopw [9,86] (fun lv i wx=>∃ (j:Nat) (nv1:Value) (F1:Nat→Prop),j≤L.length∧i=.int .i64 j∧InNode w q h O b rv (.slice no s.2.length nc) F (NS O.gr n x s j).2 lv (NS O.gr n x s j).1 wx nv1 F1∧Sl wx 2 1 (.slice ao L.length ac) L.length (L.map (Value.int .i64))) (fun _ i _=>L.length-(intOf i).toNat)
    case atStart=>
     exact ⟨0,nv1,F1,Nat.zero_le _,rfl,HI4.out,HS4.out⟩
    case round=>
     clear HI HI4 HS4 HO4
     rename_i nv0 F0 _ _ _
     obtain ⟨j,nv1,F1,hj,rfl,hI,hsr⟩:=hrel
     have HI:=Hz hI;have HSR:=Hz hsr
     obtain ⟨_,_,e',hrd,-,-⟩:=hsr.rd
     cases e'
     clear hsr
     by_cases hlt:j<L.length
     ·have HST:=Hz (NS_step O.gr n x s (HGW.out j hlt))
      have hjl:=NS_len O.gr n x s (j:=j) (by rw [HLEN.out];omega)
      have HJL:=Hz hjl
      obtain ⟨lo,lc,rfl,-,-,-⟩:=hI.L.rd
      rw [hjl] at HI ⊢
      obtain ⟨gg,go,rfl,ggl,g0⟩:=hrd.int64 j hlt
      have HLR:=Hz (HRW.out (L.getD j 0) (by rw [List.getD_eq_getElem?_getD,List.getElem?_eq_getElem hlt];exact List.getElem_mem hlt))
      have HLU:=Hz (HRU.out (L.getD j 0) (by rw [List.getD_eq_getElem?_getD,List.getElem?_eq_getElem hlt];exact List.getElem_mem hlt))
      clear hI hjl hrd
      generalize L.getD j 0=y at *
      go_wp2_with fail
      refine (ih'.out y nv1 F1 _ _ HI.out.V HLR.out (fun _=>HLU.out) (HUN.out j).1 (HUN.out j).2).mono ?_
      rintro e w5 ⟨rfl,ht⟩
      have HSR5:=Hz (HSR.out.keep ht.choose_spec.choose_spec.2.1 (fun k hk=>by obtain ⟨_,c,hc⟩:=HSR.out.own hk;exact HI.out.V.fp_ne hc (by decide) (by decide)))
      obtain ⟨nv2,F2,hI2⟩:=HI.out.told ht
      obtain ⟨⟨⟨r1,r2⟩,sr⟩,hr⟩:∃ t,valM O.gr n (valO y) (NS O.gr n x s j).2=t:=⟨_,rfl⟩
      rw [hr] at hI2 HST ⊢
      dsimp only at hI2 HST ⊢
      have HI2:=Hz hI2
      have HL2:=Hz (show Sl w5 59 2 (.slice lo j lc) j (entV (NS O.gr n x s j).1) by have:=hI2.L;rw [HJL.out] at this;exact this)
      clear hI2 ht g0 ggl hr
      go_wp2_with (at_builtin;refine wpList_app rfl (.tmp 90) (.tmp 94) 44 rfl 59 vi (.agg #[.int .i64 0, .int .i64 0]) 2 16 Try.underlying44 Vi.out Vz0.out Vz1.out Vz2.out rfl (by decide) _ j (entV (NS O.gr n x s j).1) rfl (HL2.out.keep ((Kz w5).alloc _) (fun _ _ h=>h)) ⟨w5.heap.size,0,none⟩ 1 1 [.int .i64 r1, .int .i64 r2] rfl rfl (news_at w5 59 #[.int .i64 r1, .int .i64 r2]) (by intro u hu;simp at hu;rcases hu with rfl | rfl <;> rfl) (by unfold maxLen;omega) (by omega) ?_)
      intro v6 w6 hs6 hk6 ho6
      have HI6:=Hz (HI2.out.app (v:=(r1,r2)) ((Kz w5).alloc _) (by rw [HJL.out];exact hs6) hk6 (by simpa using ho6))
      have hka6:=(Kz w5).alloc (.cells #[.int .i64 r1, .int .i64 r2] 59)
      have HSR6:=Hz ((HSR5.out.keep hka6 (fun _ _ h=>h)).keep hk6 (fun k hk hk2=>by
       obtain ⟨_,c,hc⟩:=(HSR5.out.keep hka6 (fun _ _ h=>h)).own hk
       obtain ⟨_,c',hc'⟩:=(HL2.out.keep hka6 (fun _ _ h=>h)).own hk2
       exact hc.ne hc' (by decide) rfl))
      clear hs6 hk6 ho6 hka6
      go_wp2_with fail
      go_roundw
      case rel=>exact ⟨j+1,nv2,F2,by omega,by go_num,by rw [HST.out];exact HI6.out,HSR6.out⟩
      case measure=>simp [intOf];omega
     ·obtain rfl:j=L.length:=by omega
      clear hlt hj
      have HI9:=Hz hI
      obtain ⟨cs9,hs9,hr9⟩:=hI.V.hn
      have hlt9:s.1.length<(NS O.gr n x s L.length).2.2.length:=(List.getElem?_eq_some_iff.1 (HKP.out L.length)).1
      obtain ⟨g,o,cap9,cur,rfl,hb9,h91,h92,h93,h94⟩:=hs9.laid (by omega)
      have c3:=hI.V.hq.cell 3;have cl:=hI.V.hq.lt
      have g1:=hb9.cell (o+s.2.length*2+1);have gl:=hb9.lt;have gf:=hb9.free (o+s.2.length*2+1)
      have hs9l:s.2.length<(NS O.gr n x s L.length).2.2.length:=by rw [HLL.out];exact hlt9
      obtain ⟨u9,hu9⟩:∃ u,cur[o+s.2.length*2+1]? = some u:=⟨_,List.getElem?_eq_getElem (by omega)⟩
      simp only [List.getElem?_cons_zero,List.getElem?_cons_succ] at c3
      rw [hu9] at g1
      obtain ⟨lo9,lc9,rfl,-,-,-⟩:=hI.L.rd
      have hs9m:(NS O.gr n x s L.length).2.2.length≤cap9:=h91
      clear hI hr9 hs9 hb9 h92 h93 h94 hlt9 h91 hu9
      go_wp2_with fail
      go_ret
      have hd:=InNode.done (kd:=5) (n:=s.1.length) rfl HI9.out rfl (by have hkp:=HKP.out L.length;rw [HKD.out] at hkp;exact hkp)
      refine ⟨ret_int (by rw [HLL.out]),?_⟩
      rw [HNEW.out]
      have hfull:NS O.gr n x s L.length=fldM (valM O.gr n) (O.gr x).2 (s.1 ++ [x],s.2 ++ [((O.gr x).1,[])]):=by
       unfold NS;rw [List.take_of_length_le (by rw [HLEN.out];simp)]
      rw [←hfull,HKD.out]
      rw [←HLL.out] at hd ⊢
      exact hd
   ·have hkb:(kd == 5)=false:=by simpa using hk5
    rw [if_neg hk5] at HLEN
    clear hk5
    have HI9:=Hz hI
    obtain ⟨cs9,hs9,hr9⟩:=hI.V.hn
    have hlt9:s.1.length<(NS O.gr n x s j).2.2.length:=(List.getElem?_eq_some_iff.1 (HKP.out j)).1
    obtain ⟨g,o,cap9,cur,rfl,hb9,h91,h92,h93,h94⟩:=hs9.laid (by omega)
    have c3:=hI.V.hq.cell 3;have cl:=hI.V.hq.lt
    have g1:=hb9.cell (o+s.2.length*2+1);have gl:=hb9.lt;have gf:=hb9.free (o+s.2.length*2+1)
    have hs9l:s.2.length<(NS O.gr n x s j).2.2.length:=by rw [HLL.out];exact hlt9
    obtain ⟨u9,hu9⟩:∃ u,cur[o+s.2.length*2+1]? = some u:=⟨_,List.getElem?_eq_getElem (by omega)⟩
    rw [hu9] at g1
    simp only [List.getElem?_cons_zero,List.getElem?_cons_succ] at c3
    obtain ⟨lo9,lc9,rfl,-,-,-⟩:=hI.L.rd
    have hs9m:(NS O.gr n x s j).2.2.length≤cap9:=h91
    clear hI hr9 hs9 hb9 h92 h93 h94 hlt9 h91 hu9
    go_wp2_with fail
    go_ret
    have hd:=InNode.done (kd:=kd) (n:=s.1.length) rfl HI9.out rfl (by have hkp:=HKP.out j;rw [HKD.out] at hkp;exact hkp)
    refine ⟨ret_int (by rw [HLL.out]),?_⟩
    rw [HNEW.out]
    have hfull:NS O.gr n x s j=fldM (valM O.gr n) (O.gr x).2 (s.1 ++ [x],s.2 ++ [((O.gr x).1,[])]):=by
     unfold NS;rw [List.take_of_length_le (by rw [HLEN.out];simp)]
    rw [←hfull,HKD.out]
    rw [←HLL.out] at hd ⊢
    exact hd
end
end
section
open Go.RowKit Go.Maps
section
variable {h:WH} {O:Wo} {q b:Nat} {rv:Value}
theorem value_new (n:Nat) (ih:ValOk h O q b rv n) (x:Int) (nv:Value) (F:Nat→Prop) (s:VS) (w:World) (V:VwAt w q h O b rv nv F s) (hx:R64 x) (h1:x%4=1) (hxu:x/4 ∈ O.univ) (hm:¬ x/4 ∈ s.1)
  (hu:unM O.univ s.1≤n+1) (hc:s.1.length+unM O.univ s.1≤5000) :
  Calls Try.prog 22 #[.pointer (some ⟨q,0,none⟩), .int .i64 x] w fun e w'=>ValRet w q h O b rv nv F (valM O.gr (n+1) (valO x) s) e w':=by
 have HV:=Hz V
 have HE:=Hz (show (valM O.gr (n+1) (valO x) s).1=refV s.1.length by rw [valO_ref h1,valM_new O.gr n rfl hm])
 have HVO:=Hz (valO_ref h1)
 have H1:=Hz h1;have HM:=Hz hm;have HU:=Hz hu;have HC:=Hz hc;have HXU:=Hz hxu;have HIH:=Hz ih
 have r0:-2305843009213693952≤x/4:=by have:=hx.1;omega
 have r2:x/4≤2305843009213693951:=by have:=hx.2;omega
 clear V h1 hm hu hc hxu ih
 go_enter Try.func22,Try.ntmps22
 go_wp2_with fail
 refine (At_yes x _ H1.out).mono ?_
 rintro e w1 ⟨rfl,rfl⟩
 have hka:=(Kz w).alloc (.cells #[.int .i64 0, .int .i64 0] 59)
 have V1:=Hz (HV.out.same hka)
 have hal:Blk (w.alloc (.cells #[.int .i64 0, .int .i64 0] 59)) w.heap.size [.int .i64 0, .int .i64 0] 59:=Blk.newAt _ rfl rfl
 have HAL:=Hz hal;have HKA:=Hz hka
 have c1:=V1.out.hq.cell 1;have cl:=V1.out.hq.lt
 simp only [List.getElem?_cons_zero,List.getElem?_cons_succ] at c1
 obtain ⟨n0,D,hown,hn0,hD⟩:=V1.out.hm
 have HD:=Hz (hD (x/4) (by omega) (by omega))
 clear hD hka hal
 go_wp2_with (at_lookup;refine wpList_lookup_own_ok_int _ rfl _ _ 72 rfl 3 3 .i64 key_int Try.underlying72 Try.underlying3 (zero_int _) b n0 D rfl hown _ _ rfl (keyOf_int_mk Try.underlying3 (WalkArith.wf_i64 (by constructor <;> omega))) ?_)
 intro c hat hwc
 rw [HD.out.1,decide_eq_false HM.out]
 clear hat hwc hown hn0 c1 cl
 go_wp2_with fail
 refine (node_c n HIH.out (x/4) nv F s _ V1.out r0 r2 HXU.out HM.out HU.out HC.out).mono ?_
 rintro e w2 ⟨rfl,ht⟩
 have hb2:=ht.choose_spec.choose_spec.2.1.blk HAL.out (by
  intro hf
  have:=HV.out.lt hf
  omega)
 have l0:=hb2.cell 0;have l1:=hb2.cell 1;have ll:=hb2.lt;have f0:=hb2.free 0;have f1:=hb2.free 1
 simp only [List.getElem?_cons_zero,List.getElem?_cons_succ] at l0 l1
 have HB2:=Hz hb2;have HT:=Hz ht
 clear hb2 ht
 go_wp2_with fail
 have hb3:=(HB2.out.setSame 0 (.int .i64 3)).setSame 1 (.int .i64 s.1.length)
 have x0':=hb3.cell 0;have x1':=hb3.cell 1
 simp only [List.set_cons_zero,List.set_cons_succ,List.getElem?_cons_zero,List.getElem?_cons_succ] at x0' x1'
 refine bodyPost_ret (v:=.agg #[.int .i64 3, .int .i64 s.1.length]) (by simp [results,Try.results22,go_sem,x0',x1']) rfl ?_
 refine ⟨by rw [HE.out];rfl,?_⟩
 rw [HVO.out]
 have hsz:=HKA.out.size
 have hsz1:(w.alloc (.cells #[.int .i64 0, .int .i64 0] 59)).heap.size=w.heap.size+1:=by simp
 obtain ⟨nv1,F1,V2,k2,p1,p2⟩:=HT.out
 have ke:=((Keeps.refl (·=w.heap.size) w2).setCell (p:=⟨w.heap.size,0,none⟩) (.inl rfl) (.int .i64 3)).setCell (p:=⟨w.heap.size,1,none⟩) (.inl rfl) (.int .i64 s.1.length)
 refine ⟨nv1,F1,V2.keep ke (fun j hj e=>?_) (fun j hj e=>?_) (fun j hj e=>?_),(((HKA.out.mono (fun _ _ h=>h.elim)).trans k2).setCell (p:=⟨w.heap.size,0,none⟩) (.inr (Nat.le_refl _)) _).setCell (p:=⟨w.heap.size,1,none⟩) (.inr (Nat.le_refl _)) _,fun j hj=>?_,fun j hj=>?_⟩
 ·subst e;exact V2.fp_ne HB2.out (by decide) (by decide) hj
 ·subst e
  obtain ⟨c',T,hc',hT⟩:=V2.hw.own_type hj
  rcases hT with rfl | rfl | rfl | rfl | rfl | rfl | rfl <;> exact HB2.out.ne hc' (by decide) rfl
 ·subst e
  rcases p2 _ hj with h1 | h1
  ·have:=(HV.out.hF _ h1).1;omega
  ·omega
 ·rcases p1 j hj with h1 | h1
  ·exact .inl h1
  ·exact .inr (by omega)
 ·rcases p2 j hj with h1 | h1
  ·exact .inl h1
  ·exact .inr (by omega)
theorem value_c:∀ n:Nat,n≤5000→ValOk h O q b rv n:=by
 intro n
 induction n with
 | zero=>
  intro _ x nv F s w V hx hxu hu hc
  exact value_met x 0 V hx (fun h1=>unM_zero (Nat.le_zero.1 hu) (hxu h1)) (by omega)
 | succ n ih=>
  intro hn x nv F s w V hx hxu hu hc
  by_cases hm:x%4=1→x/4 ∈ s.1
  ·exact value_met x (n+1) V hx hm (by omega)
  ·obtain ⟨h1,h2⟩:=Classical.not_imp.1 hm
   exact value_new n (ih (by omega)) x nv F s w V hx h1 (hxu h1) h2 hu hc
def ViewV (w:World) (lo:Nat) (v:Value) (V:List Vl × List Nd):Prop:=
 ∃ ro rc no nc F,v=.agg #[.slice ro V.1.length rc, .slice no V.2.length nc]∧Sl w 59 2 (.slice ro V.1.length rc) V.1.length (entV V.1)∧NodesAt w (.slice no V.2.length nc) F V.2 ∧
  ∀ k,(F k∨ownB (.slice ro V.1.length rc) k∨ownB (.slice no V.2.length nc) k)→lo≤k∧k<w.heap.size
theorem ViewV.keep {w w':World} {S:Nat→Prop} {lo:Nat} {v:Value} {V:List Vl × List Nd} (H:ViewV w lo v V) (k:Keeps S w w') (hn:∀ j,lo≤j→j<w.heap.size→¬ S j):ViewV w' lo v V:=by
 obtain ⟨ro,rc,no,nc,F,e,h1,h2,h3⟩:=H
 refine ⟨ro,rc,no,nc,F,e,h1.keep k (fun j hj=>?_),h2.keep k (fun j hj _=>?_) (fun j hj=>?_),fun j hj=>⟨(h3 j hj).1,Nat.lt_of_lt_of_le (h3 j hj).2 k.size⟩⟩
 ·have:=h3 j (.inr (.inl hj));exact hn j this.1 this.2
 ·have:=h3 j (.inl hj);exact hn j this.1 this.2
 ·have:=h3 j (.inr (.inr hj));exact hn j this.1 this.2
structure TopIn (w:World) (q:Nat) (h:WH) (O:Wo) (b:Nat) (wr:World) (rv nv:Value) (F:Nat→Prop) (s:VS) (l:List Vl):Prop where
 V:VwAt wr q h O b rv nv F s
 K:Keeps (fun _=>False) w wr
 o1:∀ k,ownB nv k→w.heap.size≤k
 o2:∀ k,F k→w.heap.size<k
 L:Sl wr 59 2 rv l.length (entV l)
 o3:∀ k,ownB rv k→w.heap.size≤k∧¬ F k
 oq:w.heap.size≤q
 ob:w.heap.size≤b
 B:Blk wr w.heap.size [.slice none 0 0, .slice none 0 0] 47
theorem TopIn.rv_ne {w wr:World} {rv nv:Value} {F:Nat→Prop} {s:VS} {l:List Vl} (I:TopIn w q h O b wr rv nv F s l) {k:Nat} (hk:ownB rv k):¬ VwFp q b nv k∧¬ h.Own k:=by
 obtain ⟨_,c,hc⟩:=I.L.own hk
 refine ⟨I.V.fp_ne hc (by decide) (by decide),fun h1=>?_⟩
 obtain ⟨c',T,hc',hT⟩:=I.V.hw.own_type h1
 rcases hT with rfl | rfl | rfl | rfl | rfl | rfl | rfl <;> exact hc.ne hc' (by decide) rfl
theorem TopIn.told {w wr w2:World} {rv nv:Value} {F:Nat→Prop} {s s2:VS} {l:List Vl} (I:TopIn w q h O b wr rv nv F s l) (t:VwTo wr q h O b rv nv F s2 w2):∃ nv2 F2,TopIn w q h O b w2 rv nv2 F2 s2 l:=by
 obtain ⟨nv2,F2,V2,k2,p1,p2⟩:=t
 have hz:=I.K.size
 refine ⟨nv2,F2,V2,I.K.then k2 (fun j hj=>?_),fun j hj=>?_,fun j hj=>?_,I.L.keep k2 (fun j hj=>(I.rv_ne hj).1),fun j hj=>⟨(I.o3 j hj).1,fun hf=>?_⟩,I.oq,I.ob,k2.blk I.B (I.V.fp_ne I.B (by decide) (by decide))⟩
 ·rcases hj with rfl | rfl | hj
  ·exact .inr I.oq
  ·exact .inr I.ob
  ·exact .inr (I.o1 j hj)
 ·rcases p1 j hj with h | h
  ·exact I.o1 j h
  ·omega
 ·have hbl:=I.B.lt
  rcases p2 j hj with h | h
  ·exact I.o2 j h
  ·omega
 ·rcases p2 j hf with h | h
  ·exact (I.o3 j hj).2 h
  ·have:=(I.L.own hj).1;omega
theorem TopIn.same {w wr w2:World} {rv nv:Value} {F:Nat→Prop} {s:VS} {l:List Vl} (I:TopIn w q h O b wr rv nv F s l) (k:Keeps (fun _=>False) wr w2):TopIn w q h O b w2 rv nv F s l:=
 ⟨I.V.same k,I.K.trans k,I.o1,I.o2,I.L.keep k (fun _ _ h=>h),I.o3,I.oq,I.ob,k.blk I.B (fun h=>h)⟩
theorem TopIn.app {w wr wa w2:World} {rv nv v2:Value} {F:Nat→Prop} {s:VS} {l:List Vl} {v:Vl} (I:TopIn w q h O b wr rv nv F s l) (ka:Keeps (fun _=>False) wr wa)
  (hs:Sl w2 59 2 v2 (l.length+1) (entV l ++ [.int .i64 v.1, .int .i64 v.2])) (hk:Keeps (ownB rv) wa w2) (ho:∀ k,ownB v2 k→ownB rv k∨wa.heap.size≤k):TopIn w q h O b (w2.setCell ⟨q,2,none⟩ v2) v2 nv F s (l ++ [v]):=by
 have k2:=(ka.mono (T:=ownB rv) (fun _ _ h=>h.elim)).trans hk
 have hz:=ka.size;have hz2:=I.K.size
 have nq:∀ {v:Value} {wx:World} {n:Nat} {xs:List Value},Sl wx 59 2 v n xs→Blk wx q [.pointer (some ⟨h.p,0,none⟩), .map (some b),rv,nv] 74→¬ ownB v q:=fun hs hq h=>by
  obtain ⟨_,c,hc⟩:=hs.own h
  exact hc.ne hq (by decide) rfl
 have hq2:=k2.blk I.V.hq (nq I.L I.V.hq)
 have set:=(Keeps.refl (·=q) w2).setCell (p:=⟨q,2,none⟩) (.inl rfl) v2
 have V2:=I.V.keep k2 (fun j hj hl=>(I.rv_ne hl).1 hj) (fun j hj hl=>(I.rv_ne hl).2 hj) (fun j hj hl=>(I.o3 j hl).2 hj)
 have sq:∀ j,ownB v2 j→¬ j=q:=fun j hj e=>nq hs hq2 (e ▸ hj)
 have B2:=k2.blk I.B (fun hl=>by obtain ⟨_,c,hc⟩:=I.L.own hl;exact hc.ne I.B (by decide) rfl)
 refine ⟨⟨by simpa using hq2.setSame 2 v2,V2.hw.keep set (fun j hj e=>by subst e;exact V2.wood_apart hj (.inl rfl)),V2.hm.keep set (fun e=>V2.hm.ne V2.hq e.symm),V2.hn.keep set (fun j hj _ e=>(V2.hF j hj).2 (.inl e)) (fun j hj e=>?_),V2.hl,fun j hj=>⟨?_,(V2.hF j hj).2⟩⟩,
  (I.K.then k2 (fun j hj=>.inr (I.o3 j hj).1)).setCell (p:=⟨q,2,none⟩) (.inr I.oq) _,I.o1,I.o2,?_,fun j hj=>?_,I.oq,I.ob,set.blk B2 (B2.ne hq2 (by decide))⟩
 ·obtain ⟨_,c,hc⟩:=V2.hn.own hj
  exact hc.ne hq2 (by decide) e
 ·have:=(V2.hF j hj).1;have:=set.size;omega
 ·have e:entV (l ++ [v])=entV l ++ [.int .i64 v.1, .int .i64 v.2]:=by simp [entV]
  rw [e,List.length_append]
  exact hs.keep set sq
 ·rcases ho j hj with h1 | h1
  ·exact I.o3 j h1
  ·exact ⟨by omega,fun hf=>by have:=(I.V.hF j hf).1;omega⟩
def TS (O:Wo) (k:Nat):List Vl × VS:=fldM (valM O.gr 5000) ((O.rt.map valO).take k) ([],[])
theorem TS_step {O:Wo} {k:Nat} (h:k<O.rt.length):TS O (k+1)=((TS O k).1 ++ [(valM O.gr 5000 (valO (O.rt.getD k 0)) (TS O k).2).1],(valM O.gr 5000 (valO (O.rt.getD k 0)) (TS O k).2).2):=by
 unfold TS
 have e:(O.rt.map valO)[k]? = some (valO (O.rt.getD k 0)):=by rw [List.getElem?_map,List.getElem?_eq_getElem h];simp [List.getD,h]
 rw [List.take_add_one,e,Option.toList_some,fldM_app]
 rfl
theorem TS_len {O:Wo} {k:Nat} (h:k≤O.rt.length):(TS O k).1.length=k:=by
 unfold TS;rw [fldM_len,List.length_take,List.length_map];omega
theorem TS_un {O:Wo} (hO:O.ok) (k:Nat):unM O.univ (TS O k).2.1≤5000∧(TS O k).2.1.length+unM O.univ (TS O k).2.1≤5000:=by
 have I:=Wo.inU hO
 unfold TS
 have h1:=Wo.univ_le hO
 have h2:=unM_nil O.univ
 have h3:=fldM_count (f:=valM O.gr 5000) (U:=O.univ) (valM_count I 5000) ((O.rt.map valO).take k) ([],[]) (fun v hv h3=>by
  obtain ⟨x,hx,rfl⟩:=List.mem_map.1 (List.mem_of_mem_take hv)
  rw [(valO_three h3).2];exact Wo.univ_root hx)
 simp only [List.length_nil] at h3
 exact ⟨by omega,by omega⟩
def ViewRet (w:World) (V:List Vl × List Nd) (e:Ending) (w':World):Prop:=∃ v,e=.returned v∧ViewV w' w.heap.size v V∧Keeps (fun _=>False) w w'
theorem View_c (w:World) (H:WoodAt w h O) :
  Calls Try.prog 13 #[.pointer (some ⟨h.p,0,none⟩)] w fun e w'=>ViewRet w O.view e w':=by
 have HH:=Hz H
 obtain ⟨vi,hi,hz0,hz1,hz2⟩:=info_parts1 info_val
 have Vi:=Hz hi;have Vz0:=Hz hz0;have Vz1:=Hz hz1;have Vz2:=Hz hz2;clear hi hz0 hz1 hz2
 have hmm:=@run_makeMap Try.prog
 have HMM:=Hz hmm
 have h12:=H.ok.h12
 obtain ⟨ro,rc,hro,-,-,-⟩:=H.hr.rd
 have HRO:=Hz hro
 have c3:=H.ptrs.2.2.2;have pl:=H.hp.lt
 rw [hro,h12] at c3
 have HRR:=Hz H.hr
 rw [hro,h12] at HRR
 clear H h12 hro
 go_enter Try.func13,Try.ntmps13
 go_upto_region 2 with fail
 have k1:=(((Kz w).alloc (.cells #[.slice none 0 0, .slice none 0 0] 47)).alloc (.map #[] 0)).alloc (.cells #[.pointer (some ⟨h.p,0,none⟩), .map (some (w.heap.size+1)), .slice none 0 0, .slice none 0 0] 74)
 have hb:Blk (((w.alloc (.cells #[.slice none 0 0, .slice none 0 0] 47)).alloc (.map #[] 0)).alloc (.cells #[.pointer (some ⟨h.p,0,none⟩), .map (some (w.heap.size+1)), .slice none 0 0, .slice none 0 0] 74)) w.heap.size [.slice none 0 0, .slice none 0 0] 47:=((Blk.newAt _ rfl rfl).alloc _).alloc _
 have hsn:SeenAt (((w.alloc (.cells #[.slice none 0 0, .slice none 0 0] 47)).alloc (.map #[] 0)).alloc (.cells #[.pointer (some ⟨h.p,0,none⟩), .map (some (w.heap.size+1)), .slice none 0 0, .slice none 0 0] 74)) (w.heap.size+1) []:=by
  have:=SeenAt.made (w.alloc (.cells #[.slice none 0 0, .slice none 0 0] 47))
  simp only [World.size_alloc] at this
  exact this.keep ((Kz _).alloc _) (fun h=>h)
 have hv:VwAt (((w.alloc (.cells #[.slice none 0 0, .slice none 0 0] 47)).alloc (.map #[] 0)).alloc (.cells #[.pointer (some ⟨h.p,0,none⟩), .map (some (w.heap.size+1)), .slice none 0 0, .slice none 0 0] 74)) (w.heap.size+1+1) h O (w.heap.size+1) (.slice none 0 0) (.slice none 0 0) (fun _=>False) ([],[]):=
  ⟨Blk.newAt _ (by simp) rfl,HH.out.keep k1 (fun _ _ h=>h),hsn,NodesAt.nil _ _,rfl,fun _ h=>h.elim⟩
 have HK1:=Hz k1;have HB:=Hz hb;have HVW:=Hz hv
 have HSZ:=Hz (show w.heap.size+3≤(((w.alloc (.cells #[.slice none 0 0, .slice none 0 0] 47)).alloc (.map #[] 0)).alloc (.cells #[.pointer (some ⟨h.p,0,none⟩), .map (some (w.heap.size+1)), .slice none 0 0, .slice none 0 0] 74)).heap.size by simp)
 have c3:=hv.hw.ptrs.2.2.2;have pl:=hv.hw.hp.lt
 rw [HRO.out,HH.out.ok.h12] at c3
 clear k1 hb hsn hv hmm
 generalize ((w.alloc (.cells #[.slice none 0 0, .slice none 0 0] 47)).alloc (.map #[] 0)).alloc (.cells #[.pointer (some ⟨h.p,0,none⟩), .map (some (w.heap.size+1)), .slice none 0 0, .slice none 0 0] 74)=w1 at *
 go_wp2_with fail
 have HI0:=Hz (show TopIn w (w.heap.size+1+1) h O (w.heap.size+1) w1 (.slice none 0 0) (.slice none 0 0) (fun _=>False) (TS O 0).2 (TS O 0).1 from
  ⟨HVW.out,HK1.out,fun _ h=>(nil_own h).elim,fun _ h=>h.elim,Sl.nil _ _ _,fun _ h=>(nil_own h).elim,by omega,by omega,HB.out⟩)
 clear HVW HB HSZ HK1 c3 pl
 go_loopw [16] (fun i wr=>∃ (k:Nat) (rv nv:Value) (F:Nat→Prop),k≤12∧i=.int .i64 k∧TopIn w (w.heap.size+1+1) h O (w.heap.size+1) wr rv nv F (TS O k).2 (TS O k).1) (fun i _=>12-(intOf i).toNat)
 case atStart=>exact ⟨0,_,_,_,Nat.zero_le _,rfl,HI0.out⟩
 case round=>
  clear HI0
  obtain ⟨k,rv,nv,F,hk,rfl,hI⟩:=hrel
  have HI:=Hz hI
  have hkl:=TS_len (O:=O) (k:=k) (by rw [HH.out.ok.h12];exact hk)
  have HKL:=Hz hkl
  by_cases hlt:k<12
  ·have HST:=Hz (TS_step (O:=O) (k:=k) (by rw [HH.out.ok.h12];exact hlt))
   have hm:O.rt.getD k 0 ∈ O.rt:=by rw [List.getD_eq_getElem?_getD,List.getElem?_eq_getElem (by rw [HH.out.ok.h12];exact hlt)];exact List.getElem_mem _
   have HLR:=Hz (HH.out.ok.hR _ hm);have HLU:=Hz (Wo.univ_root hm)
   have hrd:=(HRR.keep hI.K (fun _ _ h=>h))
   obtain ⟨_,_,e',hrr,-,-⟩:=hrd.rd
   cases e'
   obtain ⟨gg,go,rfl,ggl,g0⟩:=hrr.int64 k (by rw [HH.out.ok.h12];exact hlt)
   clear hI hkl hm hrd hrr
   generalize O.rt.getD k 0=y at *
   go_wp2_with fail
   refine (value_c 5000 (Nat.le_refl _) y nv F _ _ HI.out.V HLR.out (fun _=>HLU.out) (TS_un HH.out.ok k).1 (TS_un HH.out.ok k).2).mono ?_
   rintro e w2 ⟨rfl,ht⟩
   obtain ⟨nv2,F2,hI2⟩:=HI.out.told ht
   obtain ⟨⟨⟨r1,r2⟩,sr⟩,hr⟩:∃ t,valM O.gr 5000 (valO y) (TS O k).2=t:=⟨_,rfl⟩
   rw [hr] at hI2 HST ⊢
   dsimp only at hI2 HST ⊢
   clear hr ht g0 ggl
   go_upto_region 6 with fail
   have hka:=(Kz w2).alloc (.cells #[.int .i64 r1, .int .i64 r2] 59)
   have hI3:=hI2.same hka
   have hvb:Blk (w2.alloc (.cells #[.int .i64 r1, .int .i64 r2] 59)) w2.heap.size [.int .i64 r1, .int .i64 r2] 59:=Blk.newAt _ rfl rfl
   have HI3:=Hz hI3
   obtain ⟨lo,lc,rfl,-,-,-⟩:=hI3.L.rd
   rw [HKL.out] at HI3
   have c2:=hI3.V.hq.cell 2;have cl:=hI3.V.hq.lt
   have v0:=hvb.cell 0;have v1:=hvb.cell 1;have vl:=hvb.lt
   simp only [List.getElem?_cons_zero,List.getElem?_cons_succ] at c2 v0 v1
   rw [HKL.out] at c2
   have HL3:=Hz (show Sl (w2.alloc (.cells #[.int .i64 r1, .int .i64 r2] 59)) 59 2 (.slice lo k lc) k (entV (TS O k).1) by have:=HI3.out.L;rw [HKL.out] at this;exact this)
   clear hka hI3 hI2 hvb HI
   generalize w2.alloc (.cells #[.int .i64 r1, .int .i64 r2] 59)=wb at *
   generalize w2.heap.size=bv at *
   refine wp_region_ro (.free 0 (.free 1 (.free 2 (.free 3 (.free 4 (.pure 5 (.pure 6 (.run 7 (.run 8 (.swi [12] (.free 9 (.free 10 (.free 11 (.run 12 (.swi [] (.fin)))))))))))))))) [8,9,10,11,12] (fun w'=>w'.cell? ⟨w.heap.size+1+1,2,none⟩=some (.slice lo k lc)∧w'.cell? ⟨bv,0,none⟩=some (.int .i64 r1)∧w'.cell? ⟨bv,1,none⟩=some (.int .i64 r2)) (by kernel_rfl) (by kernel_rfl) ⟨c2,v0,v1⟩ ?_
   iterate 7 first | (refine wpRO_free rfl rfl _ (fun w'=>by go_simp;exact Gives.mk _ _) (fun K hK=>?_);go_simp;refine hK _ ?_;clear hK K) | (refine wpRO_skipF rfl rfl (fun K hK=>?_);go_simp;refine hK _ ?_;clear hK K) | (refine wpRO_pure rfl rfl _ (fun w' hG=>by obtain ⟨g2,g0,g1⟩:=hG;exact gives_agg2 rfl (by decide +kernel) rfl (by assumption) (by assumption)) (fun K hK=>?_);go_simp;refine hK _ ?_;clear hK K) | (refine wpRO_pure rfl rfl _ (fun w' hG=>by obtain ⟨g2,g0,g1⟩:=hG;go_simp;exact Gives.mk _ _) (fun K hK=>?_);go_simp;refine hK _ ?_;clear hK K) | (refine wpRO_skip rfl rfl (fun K hK=>?_);go_simp;refine hK _ ?_;clear hK K)
   refine wpRO_run rfl rfl (fun K hK=>?_);unfold gRun;go_simp
   have hkb:Keeps (fun _=>False) wb ((wb.drew).alloc (.cells #[.int .i64 r1, .int .i64 r2] 59)):=(Kz wb).drew.alloc (.cells #[.int .i64 r1, .int .i64 r2] 59)
   refine hK _ _ (fun hg=>?_) ?_
   ·refine ⟨?_,?_,?_⟩
    ·exact (World.cell?_of_block (w:=wb) (a:=⟨w.heap.size+1+1,2,none⟩) (hkb.block _ cl (fun h=>h))).trans c2
    ·exact (World.cell?_of_block (w:=wb) (a:=⟨bv,0,none⟩) (hkb.block _ vl (fun h=>h))).trans v0
    ·exact (World.cell?_of_block (w:=wb) (a:=⟨bv,1,none⟩) (hkb.block _ vl (fun h=>h))).trans v1
   clear hK K
   refine wpRO_chg rfl rfl rfl (fun K hK=>?_)
   refine gRun_app (.tmp 28) (.tmp 30) 44 rfl 59 vi (.agg #[.int .i64 0, .int .i64 0]) 2 16 Try.underlying44 Vi.out Vz0.out Vz1.out Vz2.out rfl (by decide) _ k (entV (TS O k).1) rfl (HL3.out.keep hkb (fun _ _ h=>h)) ⟨wb.heap.size,0,none⟩ 1 1 [.int .i64 r1, .int .i64 r2] rfl rfl (news_at wb.drew 59 #[.int .i64 r1, .int .i64 r2]) (by intro u hu;simp at hu;rcases hu with rfl | rfl <;> rfl) (by unfold maxLen;omega) (by omega) ?_
   intro v3 w3 hs3 hk3 ho3
   have HI4:=Hz (HI3.out.app (v:=(r1,r2)) hkb (by rw [HKL.out];exact hs3) hk3 ho3)
   have hp3:=hk3.blk (hkb.blk HI3.out.V.hq (fun h=>h)) (fun hv=>by obtain ⟨_,c',hc⟩:=(HL3.out.keep hkb (fun _ _ h=>h)).own hv;exact (hkb.blk HI3.out.V.hq (fun h=>h)).ne hc (by decide) rfl)
   have x0:=hp3.cell 2;have xf:=hp3.free 2;have xl:=hp3.lt
   simp only [List.getElem?_cons_zero,List.getElem?_cons_succ] at x0
   obtain ⟨lo3,lc3,rfl,-,-,-⟩:=hs3.rd
   refine hK _ _ ?_
   clear hK K hkb hs3 hk3 ho3 hp3 c2 cl v0 v1 vl
   refine wpRO_swi (fun _=>True) trivial ?_
   iterate 3 first | (refine wpRO_free rfl rfl _ (fun w'=>by go_simp;exact Gives.mk _ _) (fun K hK=>?_);go_simp;refine hK _ ?_;clear hK K) | (refine wpRO_skipF rfl rfl (fun K hK=>?_);go_simp;refine hK _ ?_;clear hK K)
   refine wpRO_chg rfl rfl rfl (fun K hK=>?_);unfold gRun;go_simp
   refine hK _ _ ?_
   clear hK K
   refine wpRO_swi (fun _=>True) trivial (wpRO_fin ?_)
   clear x0 xf xl
   go_wp2_with fail
   go_roundw
   case rel=>exact ⟨k+1,_,nv2,F2,by omega,by go_num,by rw [HST.out];exact HI4.out⟩
   case measure=>simp [intOf];omega
  ·obtain rfl:k=12:=by omega
   obtain ⟨lo,lc,rfl,hrr,-,-⟩:=hI.L.rd
   obtain ⟨cs,hns,hnr⟩:=hI.V.hn
   obtain ⟨no,nc,rfl,-,-,-⟩:=hns.rd
   have c2:=hI.V.hq.cell 2;have c3:=hI.V.hq.cell 3;have cl:=hI.V.hq.lt
   have b0:=hI.B.cell 0;have b1:=hI.B.cell 1;have bl:=hI.B.lt;have f0:=hI.B.free 0;have f1:=hI.B.free 1
   simp only [List.getElem?_cons_zero,List.getElem?_cons_succ] at c2 c3 b0 b1
   have HVE:=Hz (show O.view=((TS O 12).1,(TS O 12).2.2) by
    unfold Wo.view viewM TS deep
    rw [List.take_of_length_le (by rw [List.length_map,HH.out.ok.h12];exact Nat.le_refl _)])
   clear hI hrr hns hnr hlt hk hkl
   go_wp2_with (refine wpList_agg2 rfl 47 (.tmp 38) rfl (by kernel_rfl) (w.heap.size+1+1) 2 rfl _ _ c2 c3 ?_)
   have hb3:=(HI.out.B.setSame 0 (.slice lo (TS O 12).1.length lc)).setSame 1 (.slice no (TS O 12).2.2.length nc)
   have x0:=hb3.cell 0;have x1:=hb3.cell 1
   simp only [List.set_cons_zero,List.set_cons_succ,List.getElem?_cons_zero,List.getElem?_cons_succ] at x0 x1
   refine bodyPost_ret (v:=.agg #[.slice lo (TS O 12).1.length lc, .slice no (TS O 12).2.2.length nc]) (by simp [results,Try.results13,go_sem,x0,x1]) rfl ?_
   refine ⟨_,rfl,?_,(HI.out.K.setCell (p:=⟨w.heap.size,0,none⟩) (.inr (Nat.le_refl _)) _).setCell (p:=⟨w.heap.size,1,none⟩) (.inr (Nat.le_refl _)) _⟩
   rw [HVE.out]
   have ke:=((Keeps.refl (·=w.heap.size) wr).setCell (p:=⟨w.heap.size,0,none⟩) (.inl rfl) (.slice lo (TS O 12).1.length lc)).setCell (p:=⟨w.heap.size,1,none⟩) (.inl rfl) (.slice no (TS O 12).2.2.length nc)
   have nF:∀ j,F j→¬ j=w.heap.size:=fun j hj e=>by
    have:=HI.out.o2 j hj;omega
   refine ⟨lo,lc,no,nc,F,rfl,HI.out.L.keep ke (fun j hj e=>?_),HI.out.V.hn.keep ke (fun j hj _=>nF j hj) (fun j hj e=>?_),fun j hj=>?_⟩
   ·subst e;obtain ⟨_,c,hc⟩:=HI.out.L.own hj;exact hc.ne HI.out.B (by decide) rfl
   ·subst e;obtain ⟨_,c,hc⟩:=HI.out.V.hn.own hj;exact hc.ne HI.out.B (by decide) rfl
   ·have hks:=ke.size
    rcases hj with hj | hj | hj
    ·exact ⟨Nat.le_of_lt (HI.out.o2 j hj),by have:=(HI.out.V.hF j hj).1;omega⟩
    ·exact ⟨(HI.out.o3 j hj).1,by have:=(HI.out.L.own hj).1;omega⟩
    ·exact ⟨HI.out.o1 j hj,by have:=(HI.out.V.hn.own hj).1;omega⟩
end
end
section
open Go.RowKit
theorem Rd.val {w:World} {ao:Option Addr} {l:List Vl} (h:Rd w ao (entV l)) (i:Nat) (hi:i<l.length) :
  ∃ g o,ao=some ⟨g,o,none⟩∧g<w.heap.size∧w.cell? ⟨g,o+i*2,none⟩=some (.int .i64 (l.getD i (0,0)).1)∧w.cell? ⟨g,o+i*2+1,none⟩=some (.int .i64 (l.getD i (0,0)).2):=by
 have hlen:(entV l).length=l.length*2:=entV_length l
 obtain ⟨g,o,rfl,hg,hc⟩:=h (by intro e;rw [e] at hlen;simp at hlen;omega)
 have h1:=entV_get l i hi
 refine ⟨g,o,rfl,hg,?_,?_⟩
 ·rw [hc (i*2) (by rw [hlen];omega)];exact h1.1
 ·rw [Nat.add_assoc,hc (i*2+1) (by rw [hlen];omega)];exact h1.2
theorem SameVals_yes (a b:Option Addr) (ca cb:Nat) (l:List Vl) (w:World) (h1:Rd w a (entV l)) (h2:Rd w b (entV l)) (hl:l.length≤1000000) :
  Calls Try.prog 36 #[.slice a l.length ca, .slice b l.length cb] w fun e w'=>e=.returned (.bool true)∧Keeps (fun _=>False) w w':=by
 have H1:=Hz h1;have H2:=Hz h2
 clear h1 h2
 go_enter Try.func36,Try.ntmps36
 go_wp2_with fail
 go_loopw [5] (fun i wr=>∃ k:Nat,k≤l.length∧i=.int .i64 k∧Keeps (fun _=>False) w wr) (fun i _=>l.length-(intOf i).toNat)
 case atStart=>exact ⟨0,Nat.zero_le _,rfl,Keeps.refl _ _⟩
 case round=>
  obtain ⟨k,hk,rfl,hkk⟩:=hrel
  have HK:=Hz hkk;clear hkk
  by_cases hlt:k<l.length
  ·obtain ⟨g,o,rfl,hgl,d0,d1⟩:=(H1.out.keep HK.out (fun _ _ _ h=>h)).val k hlt
   obtain ⟨g',o',rfl,hgl',e0,e1⟩:=(H2.out.keep HK.out (fun _ _ _ h=>h)).val k hlt
   generalize l.getD k (0,0)=v at *
   go_wp2_with fail
   refine wp_region_ro (.free 0 (.free 1 (.free 2 (.free 4 (.free 5 (.free 6 (.pure 3 (.pure 7 (.free 8 (.fin)))))))))) [] (fun w'=>w'.cell? ⟨g,o+k*2,none⟩=some (.int .i64 v.1)∧w'.cell? ⟨g,o+k*2+1,none⟩=some (.int .i64 v.2)∧w'.cell? ⟨g',o' + k*2,none⟩=some (.int .i64 v.1)∧w'.cell? ⟨g',o' + k*2+1,none⟩=some (.int .i64 v.2)) (by kernel_rfl) (by kernel_rfl) ⟨d0,d1,e0,e1⟩ ?_
   iterate 9 first | (refine wpRO_free rfl rfl _ (fun w'=>by go_simp;exact Gives.mk _ _) (fun K hK=>?_);go_simp;refine hK _ ?_;clear hK K) | (refine wpRO_skipF rfl rfl (fun K hK=>?_);go_simp;refine hK _ ?_;clear hK K) | (refine wpRO_pure rfl rfl _ (fun w' hG=>by obtain ⟨g0,g1,g2,g3⟩:=hG;exact gives_agg2 rfl (by decide +kernel) rfl (by assumption) (by assumption)) (fun K hK=>?_);go_simp;refine hK _ ?_;clear hK K) | (refine wpRO_pure rfl rfl _ (fun w' hG=>by obtain ⟨g0,g1,g2,g3⟩:=hG;go_simp;exact Gives.mk _ _) (fun K hK=>?_);go_simp;refine hK _ ?_;clear hK K) | (refine wpRO_skip rfl rfl (fun K hK=>?_);go_simp;refine hK _ ?_;clear hK K)
   refine wpRO_fin ?_
   go_wp2_with fail
   go_roundw
   case rel=>exact ⟨k+1,by omega,by go_num,HK.out.drew⟩
   case measure=>simp [intOf];omega
  ·obtain rfl:k=l.length:=by omega
   go_wp2_with fail
   go_ret
   exact ⟨rfl,HK.out⟩
theorem NodesAt.nth {w:World} {nv:Value} {F:Nat→Prop} {l:List Nd} (h:NodesAt w nv F l):∃ no nc,nv=.slice no l.length nc∧∀ i,i<l.length→∃ g o ao cap,no=some ⟨g,o,none⟩∧g<w.heap.size∧w.cell? ⟨g,o+i*2,none⟩=some (.int .i64 (l.getD i (0,[])).1) ∧
  w.cell? ⟨g,o+i*2+1,none⟩=some (.slice ao (l.getD i (0,[])).2.length cap)∧Rd w ao (entV (l.getD i (0,[])).2)∧(l.getD i (0,[])).2.length≤maxLen:=by
 obtain ⟨cs,hs,hr⟩:=h
 obtain ⟨no,nc,rfl,hrd,-,-⟩:=hs.rd
 refine ⟨no,nc,rfl,fun i hi=>?_⟩
 obtain ⟨r,h1,⟨ao,cap,rfl,h2,-,h3⟩,h4⟩:=hr.cell hi
 have hlen:=hr.length
 have hne:cs≠[]:=by intro e;subst e;simp at hlen;omega
 obtain ⟨g,o,rfl,hg,hc⟩:=hrd hne
 have e:l.getD i (0,[])=l[i]:=by rw [List.getD_eq_getElem?_getD,List.getElem?_eq_getElem hi];rfl
 rw [e]
 refine ⟨g,o,ao,cap,rfl,hg,?_,?_,h2,h3⟩
 ·have:=h4 0 (by decide)
  rw [hc (i*2) (by rw [hlen];omega)]
  exact this
 ·have:=h4 1 (by decide)
  rw [Nat.add_assoc,hc (i*2+1) (by rw [hlen];omega)]
  exact this
def ViewR (w:World) (v:Value) (V:List Vl × List Nd):Prop:=
 ∃ ro rc nv F,v=.agg #[.slice ro V.1.length rc,nv]∧Rd w ro (entV V.1)∧NodesAt w nv F V.2∧V.1.length≤1000000∧V.2.length≤1000000∧∀ n ∈ V.2,n.2.length≤1000000
theorem ViewV.r {w:World} {lo:Nat} {v:Value} {V:List Vl × List Nd} (H:ViewV w lo v V) (h1:V.1.length≤1000000) (h2:V.2.length≤1000000) (h3:∀ n ∈ V.2,n.2.length≤1000000):ViewR w v V:=by
 obtain ⟨ro,rc,no,nc,F,e,a,b,c⟩:=H
 obtain ⟨_,_,e',hr,-,-⟩:=a.rd
 cases e'
 exact ⟨ro,rc,_,F,e,hr,b,h1,h2,h3⟩
theorem SameView_yes (x y:Value) (V:List Vl × List Nd) (w:World) (h1:ViewR w x V) (h2:ViewR w y V) :
  Calls Try.prog 17 #[x,y] w fun e w'=>e=.returned (.bool true)∧Keeps (fun _=>False) w w':=by
 obtain ⟨ro,rc,nv,F,rfl,r1,n1,l1,l2,l3⟩:=h1
 obtain ⟨so,sc,mv,E,rfl,r2,n2,-,-,-⟩:=h2
 obtain ⟨no,nc,rfl,N1⟩:=n1.nth
 obtain ⟨mo,mc,rfl,N2⟩:=n2.nth
 have R1:=Hz r1;have R2:=Hz r2
 have M1:=Hz n1;have M2:=Hz n2;have L3:=Hz l3
 clear r1 r2 n1 n2 N1 N2 l3
 go_enter Try.func17,Try.ntmps17
 go_wp2_with fail
 have hka:=(Kz w).alloc (.cells #[.slice ro V.1.length rc, .slice no V.2.length nc] 47)
 have hkb:=hka.alloc (.cells #[.slice so V.1.length sc, .slice mo V.2.length mc] 47)
 obtain ⟨wa,ea⟩:∃ x,x=w.alloc (.cells #[.slice ro V.1.length rc, .slice no V.2.length nc] 47):=⟨_,rfl⟩
 have hba:Blk wa w.heap.size [.slice ro V.1.length rc, .slice no V.2.length nc] 47:=by rw [ea];exact Blk.newAt _ rfl rfl
 have hsz:wa.heap.size=w.heap.size+1:=by rw [ea];simp
 rw [←ea] at hka hkb ⊢
 have hb1:=((Kz wa).alloc (.cells #[.slice so V.1.length sc, .slice mo V.2.length mc] 47)).blk hba (fun h=>h)
 have hb2:Blk (wa.alloc (.cells #[.slice so V.1.length sc, .slice mo V.2.length mc] 47)) wa.heap.size [.slice so V.1.length sc, .slice mo V.2.length mc] 47:=Blk.newAt _ rfl rfl
 rw [hsz] at hb2
 generalize wa.alloc (.cells #[.slice so V.1.length sc, .slice mo V.2.length mc] 47)=wb at *
 obtain ⟨b,hb⟩:∃ b,w.heap.size=b:=⟨_,rfl⟩
 rw [hb] at hb1 hb2 hsz ⊢
 clear hba ea hka hb
 refine (SameVals_yes ro so rc sc V.1 _ (R1.out.keep hkb (fun _ _ _ h=>h)) (R2.out.keep hkb (fun _ _ _ h=>h)) l1).mono ?_
 rintro e w1 ⟨rfl,hk1⟩
 have HK1:=Hz (hkb.trans hk1)
 have HB1:=Hz (hk1.blk hb1 (fun h=>h));have HB2:=Hz (hk1.blk hb2 (fun h=>h))
 clear hk1 hb1 hb2 hkb
 have c0:=HB1.out.cell 0;have c1:=HB1.out.cell 1;have cl:=HB1.out.lt;have d0:=HB2.out.cell 0;have d1:=HB2.out.cell 1;have dl:=HB2.out.lt
 simp only [List.getElem?_cons_zero,List.getElem?_cons_succ] at c0 c1 d0 d1
 go_wp2_with fail
 clear c0 c1 cl d0 d1 dl
 go_loopw [5] (fun i wr=>∃ k:Nat,k≤V.2.length∧i=.int .i64 k∧Keeps (fun _=>False) w wr∧Blk wr b [.slice ro V.1.length rc, .slice no V.2.length nc] 47∧Blk wr (b+1) [.slice so V.1.length sc, .slice mo V.2.length mc] 47) (fun i _=>V.2.length-(intOf i).toNat)
 case atStart=>exact ⟨0,Nat.zero_le _,rfl,HK1.out,HB1.out,HB2.out⟩
 case round=>
  obtain ⟨k,hk,rfl,hkk,hb1,hb2⟩:=hrel
  have HK:=Hz hkk;have HX1:=Hz hb1;have HX2:=Hz hb2
  clear HK1 HB1 HB2 hkk hb1 hb2
  have c1:=HX1.out.cell 1;have cl:=HX1.out.lt;have d1:=HX2.out.cell 1;have dl:=HX2.out.lt
  simp only [List.getElem?_cons_zero,List.getElem?_cons_succ] at c1 d1
  by_cases hlt:k<V.2.length
  ·obtain ⟨no',nc',e',N1⟩:=(M1.out.keep HK.out (fun _ _ _ h=>h) (fun _ _ h=>h)).nth
   cases e'
   obtain ⟨mo',mc',e',N2⟩:=(M2.out.keep HK.out (fun _ _ _ h=>h) (fun _ _ h=>h)).nth
   cases e'
   obtain ⟨g,o,ao,ac,rfl,hgl,x0,x1,rd1,-⟩:=N1 k hlt
   obtain ⟨g',o',ao',ac',rfl,hgl',y0,y1,rd2,-⟩:=N2 k hlt
   have hnl:(V.2.getD k (0,[])).2.length≤1000000:=by
    rw [List.getD_eq_getElem?_getD,List.getElem?_eq_getElem hlt];exact L3.out _ (List.getElem_mem _)
   generalize V.2.getD k (0,[])=nd at *
   have RD1:=Hz rd1;have RD2:=Hz rd2
   clear N1 N2 rd1 rd2
   go_wp2_with fail
   refine wp_region_ro (.free 0 (.free 2 (.free 6 (.free 8 (.pure 1 (.free 3 (.free 4 (.pure 5 (.pure 7 (.free 9 (.free 10 (.pure 11 (.free 12 (.free 13 (.free 14 (.free 16 (.free 20 (.free 22 (.pure 15 (.free 17 (.free 18 (.pure 19 (.pure 21 (.free 23 (.free 24 (.pure 25 (.run 26 (.swi [] (.free 27 (.free 28 (.fin))))))))))))))))))))))))))))))) [26,27,28] (fun w'=>w'.cell? ⟨b,1,none⟩=some (.slice (some ⟨g,o,none⟩) V.2.length nc)∧w'.cell? ⟨b+1,1,none⟩=some (.slice (some ⟨g',o',none⟩) V.2.length mc)∧w'.cell? ⟨g,o+k*2,none⟩=some (.int .i64 nd.1)∧w'.cell? ⟨g,o+k*2+1,none⟩=some (.slice ao nd.2.length ac)∧w'.cell? ⟨g',o' + k*2,none⟩=some (.int .i64 nd.1)∧w'.cell? ⟨g',o' + k*2+1,none⟩=some (.slice ao' nd.2.length ac')) (by kernel_rfl) (by kernel_rfl) ⟨c1,d1,x0,x1,y0,y1⟩ ?_
   iterate 26 first | (refine wpRO_free rfl rfl _ (fun w'=>by go_simp;exact Gives.mk _ _) (fun K hK=>?_);go_simp;refine hK _ ?_;clear hK K) | (refine wpRO_skipF rfl rfl (fun K hK=>?_);go_simp;refine hK _ ?_;clear hK K) | (refine wpRO_pure rfl rfl _ (fun w' hG=>by obtain ⟨g0,g1,g2,g3,g4,g5⟩:=hG;exact gives_agg2 rfl (by decide +kernel) rfl (by assumption) (by assumption)) (fun K hK=>?_);go_simp;refine hK _ ?_;clear hK K) | (refine wpRO_pure rfl rfl _ (fun w' hG=>by obtain ⟨g0,g1,g2,g3,g4,g5⟩:=hG;go_simp;exact Gives.mk _ _) (fun K hK=>?_);go_simp;refine hK _ ?_;clear hK K) | (refine wpRO_skip rfl rfl (fun K hK=>?_);go_simp;refine hK _ ?_;clear hK K)
   refine wpRO_chg rfl rfl rfl (fun K hK=>?_);unfold gRun;go_simp
   refine (SameVals_yes ao ao' ac ac' nd.2 _ (RD1.out.keep ((Kz wr).drew) (fun _ _ _ h=>h)) (RD2.out.keep ((Kz wr).drew) (fun _ _ _ h=>h)) hnl).mono ?_
   rintro e w2 ⟨rfl,hk2⟩
   refine hK _ _ ?_
   clear hK K
   have HK2:=Hz (HK.out.drew.trans hk2);have HY1:=Hz (hk2.blk HX1.out.drew (fun h=>h));have HY2:=Hz (hk2.blk HX2.out.drew (fun h=>h))
   refine wpRO_swi (fun _=>True) trivial ?_
   iterate 2 first | (refine wpRO_free rfl rfl _ (fun w'=>by go_simp;exact Gives.mk _ _) (fun K hK=>?_);go_simp;refine hK _ ?_;clear hK K) | (refine wpRO_skipF rfl rfl (fun K hK=>?_);go_simp;refine hK _ ?_;clear hK K)
   refine wpRO_fin ?_
   go_wp2_with fail
   go_roundw
   case rel=>exact ⟨k+1,by omega,by go_num,HK2.out,HY1.out,HY2.out⟩
   case measure=>simp [intOf];omega
  ·obtain rfl:k=V.2.length:=by omega
   go_wp2_with fail
   go_ret
   exact ⟨rfl,HK.out⟩
end
section
open Go.RowKit
def overL (p:Nat→Bool) (u:Nat→Value):Nat→List Value→List Value
 | _,[]=>[]
 | i,v :: l=>(bif p i then u i else v) :: overL p u (i+1) l
def overA (a:Act) (p:Nat→Bool) (u:Nat→Value):Act:={ a with tmps:=(overL p u 0 a.tmps.toList).toArray }
def slotsOf (a:Act) (i:Nat):Value:=a.tmps.toList.getD i undef
def Meets (a:Act) (p:Nat→Bool) (R:(Nat→Value)→World→Prop) (a':Act) (w':World):Prop:=a'=overA a p (slotsOf a')∧R (slotsOf a') w'
def Again (a:Act) (p:Nat→Bool) (R:(Nat→Value)→World→Prop) (mu:(Nat→Value)→World→Nat) (n:Nat) (a':Act) (w':World):Prop:=Meets a p R a' w'∧mu (slotsOf a') w' < n
variable {P:Program} {a:Act} {w:World} {c:Code} {Q:Exit→Act→World→Prop}
theorem overL_self (p:Nat→Bool) (u:Nat→Value):∀ (l:List Value) (i:Nat),(∀ j,j<l.length→u (i+j)=l.getD j undef)→overL p u i l=l
 | [],i,_=>rfl
 | v :: l,i,h=>by
  have h0:=h 0 (by simp)
  simp only [Nat.add_zero,List.getD_cons_zero] at h0
  have ih:=overL_self p u l (i+1) (fun j hj=>by
   have:=h (j+1) (by simp;omega)
   rw [show i+(j+1)=i+1+j by omega,List.getD_cons_succ] at this
   exact this)
  simp only [overL,ih,h0]
  cases p i <;> rfl
theorem overA_self (a:Act) (p:Nat→Bool):a=overA a p (slotsOf a):=by
 cases a with
 | mk t d=>
  unfold overA slotsOf
  dsimp only
  rw [overL_self p _ t.toList 0 (fun j hj=>by rw [Nat.zero_add])]
theorem wp_loop_over (p:Nat→Bool) (R:(Nat→Value)→World→Prop) (mu:(Nat→Value)→World→Nat) (h0:R (slotsOf a) w)
  (round:∀ (u:Nat→Value) (w':World),R (slotsOf (overA a p u)) w'→∀ K:Act→World→Prop,(∀ a'' w'',Again a p R mu (mu (slotsOf (overA a p u)) w') a'' w''→K a'' w'')→c.wp P (Exit.then K Q) (overA a p u) w') :
  (Code.loop c).wp P Q a w:=by
 refine wp_loop (Meets a p R) (fun a' w'=>mu (slotsOf a') w') ⟨overA_self a p,h0⟩ ?_
 rintro a' w' ⟨e,hR⟩
 obtain ⟨u,hu⟩:∃ u,u=slotsOf a':=⟨_,rfl⟩
 rw [←hu] at e
 subst e
 exact round u w' hR _ (fun a'' w'' h=>h)
theorem wp_cut_over {K:Act→World→Prop} (p:Nat→Bool) (R:(Nat→Value)→World→Prop)
  (first:∀ K':Act→World→Prop,(∀ a'' w'',Meets a p R a'' w''→K' a'' w'')→c.wp P (Exit.then K' Q) a w)
  (rest:∀ (u:Nat→Value) (w':World),R (slotsOf (overA a p u)) w'→K (overA a p u) w'):c.wp P (Exit.then K Q) a w:=by
 refine wp_mono (first (Meets a p R) (fun _ _ h=>h)) ?_
 intro e a' w' hq
 cases e with
 | normal=>
  obtain ⟨e,hR⟩:=hq
  obtain ⟨u,hu⟩:∃ u,u=slotsOf a':=⟨_,rfl⟩
  rw [←hu] at e
  subst e
  exact rest u w' hR
 | exit id=>exact hq
 | goto l=>exact hq
 | ret=>exact hq
 | panic ch=>exact hq
 | outgrown=>exact hq
end
end Go.Proofs.Ytjifdalflepcoac
