/-
  Parts of the proof, merged: what the functions do, and plain laws.
-/
import Derived.Test.YtjifdalflepcoabGGBP8
import Derived.Test.YtjifdalflepcoabGGBP6
import Derived.Test.YtjifdalflepcoabGGBP7
import Derived.Test.YtjifdalflepcoabGGBP0
import Derived.Test.YtjifdalflepcoabGGBP1
import Derived.Test.YtjifdalflepcoabGGBP4
import Derived.Test.YtjifdalflepcoabGGBP3
set_option maxHeartbeats 16000000
set_option maxRecDepth 100000
set_option linter.unusedVariables false
set_option linter.unusedSimpArgs false

namespace Go.Proofs.Ytjifdalflepcoab
section
open Go.RowKit
section
variable {w:World} {h:RW} {W:Wd}
theorem Wd.eC (W:Wd) (x:St):(W.do x).2.T.length≤W.T.length+1:=by
 have hnew:∀ (r k:Int) (l:List Int),(W.aW r k l).2.T.length≤W.T.length+1:=fun r k l=>by
  unfold Wd.aW;split
  ·show ((W.room (1+(l.length:Int))).2.T ++ [_]).length≤_
   rw [List.length_append,Wd.mI];simp
  ·dsimp only;omega
 have hcut:∀ g,(W.cut g).2.T.length≤W.T.length+1:=fun g=>by rw [Wd.ri];omega
 have hreg:(W.gP x).2.T.length≤W.T.length+1:=by
  unfold Wd.gP;split
  ·dsimp only;omega
  ·split <;> (dsimp only;omega)
 have hpop:(W.pop x).2.T.length≤W.T.length+1:=by
  unfold Wd.pop;split
  ·dsimp only;omega
  ·split <;> (dsimp only;omega)
 have hget:(W.get x).2.T.length≤W.T.length+1:=by
  unfold Wd.get;split
  ·show (W.aP _ _).T.length≤_;rw [jY];omega
  ·dsimp only;omega
 have hset:(W.set x).2.T.length≤W.T.length+1:=by
  unfold Wd.set;split
  ·show (W.cm _ _).T.length≤_;rw [pX];omega
  ·dsimp only;omega
 have hlen:(W.len x).2.T.length≤W.T.length+1:=by
  unfold Wd.len;split
  ·dsimp only;omega
  ·show (W.aP _ _).T.length≤_;rw [jY];omega
 have hR:∀ (r:Int) (v:Vl),((0,W.aP r v):Int × Wd).2.T.length≤W.T.length+1:=fun r v=>by show (W.aP _ _).T.length≤_;rw [jY];omega
 unfold Wd.do
 by_cases hc:bZ x=0
 ·rw [if_pos hc];unfold Wd.step;by_cases h1:x.k=1;· rw [if_pos h1];exact hR _ _
  rw [if_neg h1];by_cases h2:x.k=2;· rw [if_pos h2];exact hR _ _
  rw [if_neg h2];by_cases h3:x.k=3;· rw [if_pos h3];exact hR _ _
  rw [if_neg h3];by_cases h4:x.k=4;· rw [if_pos h4];exact hnew _ _ _
  rw [if_neg h4];by_cases h5:x.k=5;· rw [if_pos h5];exact hnew _ _ _
  rw [if_neg h5];by_cases h6:x.k=6;· rw [if_pos h6];exact hnew _ _ _
  rw [if_neg h6];by_cases h7:x.k=7;· rw [if_pos h7];exact hnew _ _ _
  rw [if_neg h7];by_cases h8:x.k=8;· rw [if_pos h8];exact hnew _ _ _
  rw [if_neg h8];by_cases h9:x.k=9;· rw [if_pos h9];exact hreg
  rw [if_neg h9];by_cases h10:x.k=10;· rw [if_pos h10];exact hpop
  rw [if_neg h10];by_cases h11:x.k=11;· rw [if_pos h11];exact hget
  rw [if_neg h11];by_cases h12:x.k=12;· rw [if_pos h12];exact hset
  rw [if_neg h12];by_cases h13:x.k=13;· rw [if_pos h13];exact hlen
  rw [if_neg h13];by_cases h14:x.k=14;· rw [if_pos h14];exact hR _ _
  rw [if_neg h14];by_cases h15:x.k=15;· rw [if_pos h15];exact hcut _
  rw [if_neg h15];exact hcut _
 ·rw [if_neg hc];dsimp only;omega
end
end
section
open Go.RowKit
noncomputable def qM:Wd:=((Wd.new 16 8).do ⟨4,0,0,0,0,0⟩).2
noncomputable def qN:Wd:=(qM.do ⟨6,1,0,0,0,0⟩).2
noncomputable def nJ:Wd:=(qN.do ⟨2,0,0,0,0,0⟩).2
theorem tC:((Wd.new 16 8).do ⟨4,0,0,0,0,0⟩).1=0:=by decide +kernel
theorem tD:(qM.do ⟨6,1,0,0,0,0⟩).1=0:=by decide +kernel
theorem tE:(qN.do ⟨2,0,0,0,0,0⟩).1=0:=by decide +kernel
theorem tt:qM.T.length≤90000:=by decide +kernel
theorem tu:qN.T.length≤90000:=by decide +kernel
theorem tw:nJ.T.length≤90000:=by decide +kernel
theorem tF:nJ.aL=6:=by decide +kernel
theorem tG:nJ.bq=0:=by decide +kernel
theorem tH:nJ.view.2.length=2:=by decide +kernel
theorem gY.mO {w:World} {lo:Nat} {v:Value} {W:Wd} (H:gY w lo v W.view) (h:W.ok):gZ w v W.view:=by
 obtain ⟨h1,h2,h3⟩:=(Wd.seen h).lens h;exact H.r (by omega) (by omega) (fun n hn=>Nat.le_trans (h3 n hn) (by decide))
section
variable {w w':World}
structure dH (w0 w:World) (p:Nat) (h:bT) (W:Wd):Prop where
 B:aG w h W
 e:h.p=p
 K:aa (fun _=>False) w0 w
 own:∀ k,h.Own k→w0.heap.size≤k
theorem dH.to {w0:World} {p:Nat} {h:bT} {W W':Wd} (M:dH w0 w p h W) (t:aI w h w' W'):∃ h',dH w0 w' p h' W':=by
 obtain ⟨h',H',e',k',o'⟩:=t;refine ⟨h',H',e'.trans M.e,M.K.then k' (fun b hb=>.inr (M.own b hb)),fun b hb=>?_⟩;rcases o' b hb with h1 | h1
 ·exact M.own b h1
 ·have:=M.K.size;omega
theorem dH.same {w0:World} {p:Nat} {h:bT} {W:Wd} (M:dH w0 w p h W) (k:aa (fun _=>False) w w'):dH w0 w' p h W:=⟨M.B.same k,M.e,M.K.trans k,M.own⟩
theorem dH.db {w0:World} {p:Nat} {h:bT} {W:Wd} (M:dH w0 w p h W) (hT:W.T.length≤90000) (x:St) :
  Calls Try.prog 59 #[.pointer (some ⟨p,0,none⟩), .agg #[.int .i64 x.k, .int .i64 x.r, .int .i64 x.a, .int .i64 x.b, .int .i64 x.i, .int .i64 x.n]] w (bH w h (W.do x)):=by
 have:=sy x.k x.r x.a x.b x.i x.n M.B hT;rw [M.e] at this;exact this
theorem dH.pE {w0:World} {p:Nat} {h:bT} {W:Wd} (M:dH w0 w p h W) :
  Calls Try.prog 61 #[.pointer (some ⟨p,0,none⟩)] w fun e w'=>e=.returned (.tuple #[.int .i64 W.aL, .int .i64 W.bq])∧aa (fun _=>False) w w':=by
 have:=rF M.B;rw [M.e] at this;exact this
theorem dH.gm {w0:World} {p:Nat} {h:bT} {W:Wd} (M:dH w0 w p h W) (hT:W.T.length≤90000) :
  Calls Try.prog 63 #[.pointer (some ⟨p,0,none⟩)] w fun e w'=>iq w W.view e w':=by
 have:=rK w M.B (by omega);rw [M.e] at this;exact this
section
variable {w0:World} {p q:Nat} {h:bT} {b:RW} {W V W' V':Wd}
end
theorem gT (w:World):Calls Try.prog 56 #[] w fun e w'=>e=.returned (.bool true)∧aa (fun _=>False) w w':=by
 have hfit:Ar.fits 16 8=true:=by decide
 go_enter Try.func56,Try.ntmps56;go_wp2_with fail;refine (iV 16 8 w hfit).mono ?_;rintro e w1 ⟨h,rfl,B1,k1,o1⟩;have ka:=(Kz w1).alloc (.cells #[.int .i64 0, .int .i64 0] 26);have M1:=Hz (show dH w (w1.alloc (.cells #[.int .i64 0, .int .i64 0] 26)) h.p h _ from ⟨B1.same ka,rfl,k1.trans ka,o1⟩);have d0:(w1.alloc (.cells #[.int .i64 0, .int .i64 0] 26)).cell? ⟨w1.heap.size,0,none⟩=some (.int .i64 0):=(ah.new w1 [.int .i64 0, .int .i64 0] 26).cell 0;have dl:w1.heap.size<(w1.alloc (.cells #[.int .i64 0, .int .i64 0] 26)).heap.size:=by simp
 clear B1 k1 o1 hfit ka;go_upto_region 2 with (fail)
 generalize w1.alloc (.cells #[.int .i64 0, .int .i64 0] 26)=w2 at *;generalize w1.heap.size=fb at *;generalize h.p=p at *;have c1:=M1.out.db (by simp [Wd.new]) ⟨4,0,0,0,0,0⟩;unfold bH at c1;rw [tC] at c1;have C1:=Hz c1;clear c1;go_wp2_with fail;refine C1.out.mono ?_;rintro e w3 ⟨rfl,ht⟩;obtain ⟨h2,hM2⟩:=M1.out.to ht;have M2:=Hz (show dH w w3 p h2 qM from hM2);clear ht hM2 M1 C1 d0 dl;have c2:=M2.out.db tt ⟨6,1,0,0,0,0⟩;unfold bH at c2;rw [tD] at c2;have C2:=Hz c2;clear c2;go_wp2_with fail;refine C2.out.mono ?_;rintro e w4 ⟨rfl,ht⟩;obtain ⟨h3,hM3⟩:=M2.out.to ht;have M3:=Hz (show dH w w4 p h3 qN from hM3);clear ht hM3 M2 C2;have c3:=M3.out.db tu ⟨2,0,0,0,0,0⟩;unfold bH at c3;rw [tE] at c3;have C3:=Hz c3;clear c3;go_wp2_with fail;refine C3.out.mono ?_;rintro e w5 ⟨rfl,ht⟩;obtain ⟨h4,hM4⟩:=M3.out.to ht;have M4:=Hz (show dH w w5 p h4 nJ from hM4);clear ht hM4 M3 C3;have c4:=M4.out.pE;rw [tF,tG] at c4;have C4:=Hz c4;clear c4;go_wp2_with fail;refine C4.out.mono ?_;rintro e w6 ⟨rfl,hk⟩;have M5:=Hz (M4.out.same hk);clear hk M4 C4;go_wp2_with fail;refine (M5.out.gm tw).mono ?_;rintro e w7 ⟨v,rfl,⟨ro,rc,no,nc,F,rfl,-,-,-⟩,hk⟩;have K7:=Hz (M5.out.K.trans hk);rw [tH];generalize nJ.view.1.length=vl at *;have d1:(w7.alloc (.cells #[.slice ro vl rc, .slice no 2 nc] 72)).cell? ⟨w7.heap.size,0+1,none⟩=some (.slice no 2 nc):=(ah.new w7 [.slice ro vl rc, .slice no 2 nc] 72).cell 1;have dl:w7.heap.size<(w7.alloc (.cells #[.slice ro vl rc, .slice no 2 nc] 72)).heap.size:=by simp
 have K8:=Hz (K7.out.alloc (.cells #[.slice ro vl rc, .slice no 2 nc] 72));clear hk M5 K7;go_upto_region 6 with (fail)
 generalize w7.alloc (.cells #[.slice ro vl rc, .slice no 2 nc] 72)=w8 at *;generalize w7.heap.size=vb at *;go_wp2_with fail;go_ret;exact ⟨rfl,K8.out⟩
end
end
section
open Go.RowKit
section
variable {w0 w w' wr w2 wa:World} {is:List Bool}
theorem qt (v:Vl) {ib bb:Nat} (hI:ah w ib [.slice (some ⟨bb,0,none⟩) is.length is.length] 76) (hB:ah w bb (is.map Value.bool) 4) (hv:jn is.length v) (hl:is.length≤1000000) :
  Calls Try.prog 66 #[.agg #[.int .i64 v.1, .int .i64 v.2], .pointer (some ⟨ib,0,none⟩)] w fun e w'=>e=.returned (.bool (!aO is v))∧aa (fun _=>False) w w':=by
 obtain ⟨k,n⟩:=v;have ka:=(Kz w).alloc (.cells #[.int .i64 k, .int .i64 n] 78);have hx:=ah.new w [.int .i64 k, .int .i64 n] 78;have i0:=(ka.ai hI (fun h=>h)).cell 0;have il:=(ka.ai hI (fun h=>h)).lt;have b1:=ka.ai hB (fun h=>h);have x0:=hx.cell 0;have x1:=hx.cell 1;have xl:=hx.lt;simp only [Lz,Ls] at i0 x0 x1;have HB:=Hz b1;have HK:=Hz ka;clear hI hB hx ka b1;dsimp only;go_enter Try.func66,Try.ntmps66;go_upto_region 1 with (fail)
 generalize w.alloc (.cells #[.int .i64 k, .int .i64 n] 78)=w1 at *;generalize w.heap.size=xb at *;by_cases h3:k=3
 ·subst h3;obtain ⟨h0,h1⟩:=hv rfl;dsimp only at h0 h1;obtain ⟨m,rfl⟩:=Int.eq_ofNat_of_zero_le h0;have hm:m<is.length:=by omega
  have c0:w1.cell? ⟨bb,m,none⟩=some (.bool (is.getD m false)):=by
   rw [HB.out.cell,List.getElem?_map,Ld,Le hm];rfl
  have bl:=HB.out.lt;have HE:=Hz (show aO is (3,(m:Int))=is.getD m false by simp [aO,av]);clear hv h0;generalize is.getD m false=q at *;go_wp2_with fail;go_ret;rw [HE.out];exact ⟨rfl,HK.out⟩
 ·have hkb:(k == 3)=false:=by simpa using h3
  have HE:=Hz (show aO is (k,n)=true by have:(k != 3)=true:=(by simpa using h3);simp [aO,this])
  clear hv h3;go_wp2_with fail;go_ret;rw [HE.out];exact ⟨rfl,HK.out⟩
def iW (is:List Bool) (bk:Bool) (v:Vl):Vl:=if (bk || !aO is v)=true then (2,0) else v
theorem rL (is:List Bool) (n:Nd) {bk:Bool} (h:decide (n.1=4∧aO is (n.2.getD 0 (0,0))=false)=bk):eV is n=(n.1,n.2.map (iW is bk)):=by
 unfold eV;congr 1;refine List.map_congr_left fun v _=>?_;unfold iW;subst h;by_cases h1:n.1=4∧aO is (n.2.getD 0 (0,0))=false
 ·rw [if_pos (.inl h1),decide_eq_true h1];rfl
 ·rw [decide_eq_false h1,Bool.false_or];cases hi:aO is v
  ·rw [if_pos (.inr rfl)];rfl
  ·rw [if_neg (fun h=>h.elim h1 (fun h=>by cases h))];rfl
structure eS (w0 w:World) (cb ib bb:Nat) (rv nv:Value) (F:Nat→Prop) (is:List Bool) (L:List Nd):Prop where
 K:aa (fun _=>False) w0 w
 C:ah w cb [rv,nv] 72
 I:ah w ib [.slice (some ⟨bb,0,none⟩) is.length is.length] 76
 B:ah w bb (is.map Value.bool) 4
 N:bQ w nv F L
 hF:∀ k,F k→w0.heap.size≤k∧k<w.heap.size∧∃ c,ah w k c 78
 on:∀ k,ag nv k→w0.heap.size≤k
 lc:w0.heap.size≤cb
structure eh (w0 w:World) (cb ib bb:Nat) (rv nv:Value) (F:Nat→Prop) (is:List Bool) (L:List Nd) (nb:Nat) (kd:Int) (lv:Value) (l:List Vl):Prop where
 C:eS w0 w cb ib bb rv nv F is L
 N:ah w nb [.int .i64 kd,lv] 83
 S:Sl w 78 2 lv l.length (aC l)
 nn:¬ ag nv nb
 ln:w0.heap.size≤nb
 sF:∀ k,ag lv k→w0.heap.size≤k∧¬ F k
variable {cb ib bb nb:Nat} {rv nv lv:Value} {F:Nat→Prop} {L:List Nd} {kd:Int} {l:List Vl}
theorem eS.ae {S:Nat→Prop} (c:eS w0 w cb ib bb rv nv F is L) (k:aa S w w') (h1:¬ S cb) (h2:¬ S ib) (h3:¬ S bb) (h4:∀ j,ag nv j→¬ S j) (h5:∀ j,F j→¬ S j) (h6:∀ j,S j→w0.heap.size≤j):eS w0 w' cb ib bb rv nv F is L:=
 ⟨c.K.then k (fun b hb=>.inr (h6 b hb)),k.ai c.C h1,k.ai c.I h2,k.ai c.B h3,c.N.ae k (fun j hj _=>h5 j hj) h4,fun j hj=>by obtain ⟨a,b,c',hc⟩:=c.hF j hj;exact ⟨a,Nat.lt_of_lt_of_le b k.size,c',k.ai hc (h5 j hj)⟩,c.on,c.lc⟩
theorem eS.same (c:eS w0 w cb ib bb rv nv F is L) (k:aa (fun _=>False) w w'):eS w0 w' cb ib bb rv nv F is L:=c.ae k (fun h=>h) (fun h=>h) (fun h=>h) (fun _ _ h=>h) (fun _ _ h=>h) (fun _ h=>h.elim)
theorem eh.same (c:eh w0 w cb ib bb rv nv F is L nb kd lv l) (k:aa (fun _=>False) w w'):eh w0 w' cb ib bb rv nv F is L nb kd lv l:=
 ⟨c.C.same k,k.ai c.N (fun h=>h),c.S.ae k (fun _ _ h=>h),c.nn,c.ln,c.sF⟩
theorem eh.box {b:Nat} {d:List Value} (c:eh w0 w cb ib bb rv nv F is L nb kd lv l) (k:aa (·=b) w w') (hb:ah w b d 78) (h1:¬ F b) (h2:¬ ag lv b) (h3:w0.heap.size≤b):eh w0 w' cb ib bb rv nv F is L nb kd lv l:=
 ⟨c.C.ae k (fun e=>c.C.C.ne hb (by decide) e) (fun e=>c.C.I.ne hb (by decide) e) (fun e=>c.C.B.ne hb (by decide) e) (fun j hj e=>by obtain ⟨_,c',hc⟩:=c.C.N.own hj;exact hc.ne hb (by decide) e) (fun j hj e=>h1 (e ▸ hj)) (fun j e=>by rw [e];exact h3),
  k.ai c.N (fun e=>c.N.ne hb (by decide) e),c.S.ae k (fun j hj e=>h2 (e ▸ hj)),c.nn,c.ln,c.sF⟩
theorem eh.app {v:Vl} {v2:Value} (c:eh w0 wr cb ib bb rv nv F is L nb kd lv l) (ka:aa (fun _=>False) wr wa) (hs:Sl w2 78 2 v2 (l.length+1) (aC l ++ [.int .i64 v.1, .int .i64 v.2])) (hk:aa (ag lv) wa w2)
  (ho:∀ k,ag v2 k→ag lv k∨wa.heap.size≤k):eh w0 (w2.setCell ⟨nb,1,none⟩ v2) cb ib bb rv nv F is L nb kd v2 (l ++ [v]):=by
 have k2:=(ka.mono (T:=ag lv) (fun _ _ h=>h.elim)).trans hk;have hz:=ka.size;have hz2:=c.C.K.size;have nr:∀ {b:Nat} {d:List Value} {T:TypeId},ah wr b d T→T≠78→¬ ag lv b:=fun hb hT e=>by obtain ⟨_,c',hc'⟩:=c.S.own e;exact hb.ne hc' hT rfl
 have hn2:=k2.ai c.N (nr c.N (by decide));have set:=(aa.refl (·=nb) w2).setCell (p:=⟨nb,1,none⟩) (.inl rfl) v2;have kk:aa (fun k=>ag lv k∨k=nb) wr (w2.setCell ⟨nb,1,none⟩ v2):=(k2.mono (fun _ _ h=>.inl h)).then set (fun b hb=>.inl (.inr hb));have nb2:∀ {b:Nat} {d:List Value} {T:TypeId},ah wr b d T→T≠78→T≠83→¬ (ag lv b∨b=nb):=fun hb h1 h2 e=>by
  rcases e with e | e
  ·exact nr hb h1 e
  ·exact hb.ne c.N h2 e
 refine ⟨c.C.ae kk (nb2 c.C.C (by decide) (by decide)) (nb2 c.C.I (by decide) (by decide)) (nb2 c.C.B (by decide) (by decide)) (fun j hj e=>?_) (fun j hj e=>?_) (fun j hj=>?_),by simpa using hn2.aF 1 v2,?_,c.nn,c.ln,fun j hj=>?_⟩
 ·rcases e with e | e
  ·obtain ⟨_,d,hd⟩:=c.C.N.own hj;exact nr hd (by decide) e
  ·exact c.nn (e ▸ hj)
 ·rcases e with e | e
  ·exact (c.sF j e).2 hj
  ·obtain ⟨_,_,d,hd⟩:=c.C.hF j hj;exact hd.ne c.N (by decide) e
 ·rcases hj with hj | hj
  ·exact (c.sF j hj).1
  ·rw [hj];exact c.ln
 ·have e:aC (l ++ [v])=aC l ++ [.int .i64 v.1, .int .i64 v.2]:=by simp [aC]
  rw [e,List.length_append];exact hs.ae set (fun b hb e=>by obtain ⟨_,d,hd⟩:=hs.own hb;exact hd.ne hn2 (by decide) e)
 ·rcases ho j hj with h1 | h1
  ·exact c.sF j h1
  ·exact ⟨by omega,fun hf=>by have:=(c.C.hF j hf).2.1;omega⟩
theorem eh.push {nv2:Value} {ao:Option Addr} {lc:Nat} (hlv:lv=.slice ao l.length lc) (c:eh w0 wr cb ib bb rv nv F is L nb kd lv l) (ka:aa (fun _=>False) wr wa) {cs:List Value} (hcs:bg 2 (dn wr F) L cs)
  (hs:Sl w2 83 2 nv2 (L.length+1) (cs ++ [.int .i64 kd,lv])) (hk:aa (ag nv) wa w2) (ho:∀ k,ag nv2 k→ag nv k∨wa.heap.size≤k) :
  eS w0 (w2.setCell ⟨cb,1,none⟩ nv2) cb ib bb rv nv2 (fun k=>F k∨ag lv k) is (L ++ [(kd,l)]):=by
 subst hlv;have k2:=(ka.mono (T:=ag nv) (fun _ _ h=>h.elim)).trans hk;have hz:=ka.size;have hz2:=c.C.K.size;have nr:∀ {b:Nat} {d:List Value} {T:TypeId},ah wr b d T→T≠83→¬ ag nv b:=fun hb hT e=>by obtain ⟨_,c',hc'⟩:=c.C.N.own e;exact hb.ne hc' hT rfl
 have hc2:=k2.ai c.C.C (nr c.C.C (by decide));have set:=(aa.refl (·=cb) w2).setCell (p:=⟨cb,1,none⟩) (.inl rfl) nv2;have kk:aa (fun k=>ag nv k∨k=cb) wr (w2.setCell ⟨cb,1,none⟩ nv2):=(k2.mono (fun _ _ h=>.inl h)).then set (fun b hb=>.inl (.inr hb));have nb2:∀ {b:Nat} {d:List Value} {T:TypeId},ah wr b d T→T≠83→T≠72→¬ (ag nv b∨b=cb):=fun hb h1 h2 e=>by
  rcases e with e | e
  ·exact nr hb h1 e
  ·exact hb.ne c.C.C h2 e
 have nF:∀ b,F b→¬ (ag nv b∨b=cb):=fun b hb=>by obtain ⟨_,_,d,hd⟩:=c.C.hF b hb;exact nb2 hd (by decide) (by decide)
 obtain ⟨ao',cap',e1,hrd,hcm,-⟩:=c.S.rd;cases e1;have nL:∀ b,ag (.slice ao l.length lc) b→¬ (ag nv b∨b=cb):=fun b hb=>by obtain ⟨_,d,hd⟩:=c.S.own hb;exact nb2 hd (by decide) (by decide)
 refine ⟨c.C.K.then kk (fun j hj=>?_),by simpa using hc2.aF 1 nv2,kk.ai c.C.I (nb2 c.C.I (by decide) (by decide)),kk.ai c.C.B (nb2 c.C.B (by decide) (by decide)),⟨_,by rw [List.length_append];exact hs.ae set (fun b hb e=>by obtain ⟨_,d,hd⟩:=hs.own hb;exact hd.ne hc2 (by decide) e),?_⟩,fun j hj=>?_,fun j hj=>?_,c.C.lc⟩
 ·rcases hj with hj | hj
  ·exact .inr (c.C.on j hj)
  ·exact .inr (by rw [hj];exact c.C.lc)
 ·refine bg.app (hcs.mono (fun a _ r hr=>(hr.ae kk (fun j hj _=>nF j hj)).more (fun j hj=>.inl hj))) rfl ?_;exact ⟨ao,lc,rfl,hrd.ae kk (fun a ha _=>by subst ha;exact nL a.block rfl),fun a ha=>by subst ha;exact .inr rfl,hcm⟩
 ·rcases hj with hj | hj
  ·obtain ⟨a,b,d,hd⟩:=c.C.hF j hj;exact ⟨a,Nat.lt_of_lt_of_le b kk.size,d,kk.ai hd (nF j hj)⟩
  ·obtain ⟨b,d,hd⟩:=c.S.own hj;exact ⟨(c.sF j hj).1,Nat.lt_of_lt_of_le b kk.size,d,kk.ai hd (nL j hj)⟩
 ·rcases ho j hj with h1 | h1
  ·exact c.C.on j h1
  ·omega
end
end
section
open Go.RowKit
noncomputable def bL (r:Bool × Wd) (x:St):Bool × Wd:=if r.1 then ((r.2.do x).1 == 0,(r.2.do x).2) else (false,r.2)
theorem cQ (r:Bool × Wd) (x:St):(bL r x).2.T.length≤r.2.T.length+1:=by
 unfold bL;split
 ·exact Wd.eC r.2 x
 ·exact Nat.le_succ _
theorem dc {r:Bool × Wd} {x:St} {V:Wd} (h:bL r x=(true,V)):r.1=true∧r.2.do x=(0,V):=by
 unfold bL at h;split at h
 ·rename_i h1;injection h with h2 h3
  refine ⟨h1,Prod.ext ?_ h3⟩;simpa using h2
 ·cases h
theorem mP {W:Wd} {kept:Bool} {r1 r2 r3 r4 r5 r6 r7 r8:Bool × Wd} (h:W.ok) (e1:bL (true,W) ⟨1,0,0,0,0,5⟩=r1) (e2:bL r1 ⟨4,1,0,0,0,0⟩=r2) (e3:bL r2 ⟨1,0,0,0,0,6⟩=r3) (e4:bL r3 ⟨4,2,0,0,0,0⟩=r4)
  (e5:bL r4 ⟨6,3,1,2,0,0⟩=r5) (e6:(if kept then r5 else bL r5 ⟨2,1,0,0,0,0⟩)=r6) (e7:bL r6 ⟨2,2,0,0,0,0⟩=r7) (e8:bL r7 ⟨16,0,0,0,0,0⟩=r8) (ht:r8.1=true):∃ x y z,r8.2.ok∧o8 r8.2.view kept x y z:=by
 have et:∀ {r:Bool × Wd},r.1=true→r=(true,r.2):=fun h=>Prod.ext h rfl;have a8:=dc (e8.trans (et ht));have a7:=dc (e7.trans (et a8.1));have a6:r5.1=true∧r6.2=if kept then r5.2 else (r5.2.do ⟨2,1,0,0,0,0⟩).2:=by
  cases kept
  ·have:=dc (Eq.trans e6 (et a7.1));exact ⟨this.1,by rw [if_neg (by decide),this.2]⟩
  ·have e6:r5=r6:=e6;rw [e6];exact ⟨a7.1,rfl⟩
 have a5:=dc (e5.trans (et a6.1));have a4:=dc (e4.trans (et a5.1));have a3:=dc (e3.trans (et a4.1));have a2:=dc (e2.trans (et a3.1));have a1:=dc (e1.trans (et a2.1));obtain ⟨i,K⟩:=rk h a1.2 a2.2 a3.2 a4.2 a5.2 a6.2 a7.2 a8.2;obtain ⟨x,y,z,hv⟩:=K.view;exact ⟨x,y,z,K.ok,hv⟩
structure hH (w0 w:World) (p ob gb:Nat) (r:Bool × Wd):Prop where
 M:∃ h,dH w0 w p h r.2
 O:ah w ob [.bool r.1] 4
 G:ah w gb [.pointer (some ⟨p,0,none⟩)] 91
 on:w0.heap.size≤ob
 gn:w0.heap.size≤gb
section
variable {w0 w w':World} {p ob gb:Nat} {r:Bool × Wd}
theorem hH.same (S:hH w0 w p ob gb r) (k:aa (fun _=>False) w w'):hH w0 w' p ob gb r:=by
 obtain ⟨⟨h,M⟩,O,G,on,gn⟩:=S;exact ⟨⟨h,M.same k⟩,k.ai O (fun h=>h),k.ai G (fun h=>h),on,gn⟩
theorem hH.K (S:hH w0 w p ob gb r):aa (fun _=>False) w0 w:=by obtain ⟨⟨h,M⟩,-⟩:=S;exact M.K
theorem dH.box {b:Nat} {c:List Value} {T:TypeId} {h:bT} {W:Wd} (M:dH w0 w p h W) (B:ah w b c T) (h1:T≠146) (h2:T≠188) (h3:T≠78) (h4:T≠170):¬ h.Own b:=fun hb=>by
 obtain ⟨_,c',T',hc,hT⟩:=M.B.cO hb;rcases hT with rfl | rfl | rfl | rfl
 ·exact B.ne hc h1 rfl
 ·exact B.ne hc h2 rfl
 ·exact B.ne hc h3 rfl
 ·exact B.ne hc h4 rfl
theorem hH.set (S:hH w0 w p ob gb r) (b:Bool):hH w0 (w.setCell ⟨ob,0,none⟩ (.bool b)) p ob gb (b,r.2):=by
 obtain ⟨⟨h,M⟩,O,G,on,gn⟩:=S;have k:=(aa.refl (·=ob) w).setCell (p:=⟨ob,0,none⟩) (.inl rfl) (.bool b);have hn:=M.box O (by decide) (by decide) (by decide) (by decide);exact ⟨⟨h,M.B.ae k (fun j hj e=>hn (e ▸ hj)),M.e,M.K.then k (fun j hj=>.inr (by rw [hj];exact on)),M.own⟩,O.aF 0 (.bool b),k.ai G (fun e=>O.ne G (by decide) e.symm),on,gn⟩
theorem hH.fC {h:bT} {W':Wd} (S:hH w0 w p ob gb r) (M:dH w0 w p h r.2) (t:aI w h w' W'):hH w0 w' p ob gb (r.1,W'):=by
 obtain ⟨-,O,G,on,gn⟩:=S;have hm:=M.to t;obtain ⟨_,_,_,k,_⟩:=t;exact ⟨hm,k.ai O (M.box O (by decide) (by decide) (by decide) (by decide)),k.ai G (M.box G (by decide) (by decide) (by decide) (by decide)),on,gn⟩
structure bN (w0 w:World) (p gb:Nat) (W:Wd):Prop where
 M:∃ h,dH w0 w p h W
 G:ah w gb [.pointer (some ⟨p,0,none⟩)] 91
 gn:w0.heap.size≤gb
theorem bN.same {W:Wd} (S:bN w0 w p gb W) (k:aa (fun _=>False) w w'):bN w0 w' p gb W:=by
 obtain ⟨⟨h,M⟩,G,gn⟩:=S;exact ⟨⟨h,M.same k⟩,k.ai G (fun h=>h),gn⟩
theorem bN.K {W:Wd} (S:bN w0 w p gb W):aa (fun _=>False) w0 w:=by obtain ⟨⟨h,M⟩,-⟩:=S;exact M.K
theorem bN.fC {h:bT} {W W':Wd} (S:bN w0 w p gb W) (M:dH w0 w p h W) (t:aI w h w' W'):bN w0 w' p gb W':=by
 obtain ⟨-,G,gn⟩:=S;have hm:=M.to t;obtain ⟨_,_,_,k,_⟩:=t;exact ⟨hm,k.ai G (M.box G (by decide) (by decide) (by decide) (by decide)),gn⟩
theorem bN.start {W:Wd} (S:bN w0 w p gb W):hH w0 (w.alloc (.cells #[.bool true] 4)) p w.heap.size gb (true,W):=by
 have ka:=(Kz w).alloc (.cells #[.bool true] 4);obtain ⟨M,G,gn⟩:=S.same ka;exact ⟨M,ah.newAt _ rfl rfl,G,S.K.size,gn⟩
theorem bN.db {W:Wd} (S:bN w0 w p gb W) (hT:W.T.length≤90000) (x:St) :
  Calls Try.prog 59 #[.pointer (some ⟨p,0,none⟩), .agg #[.int .i64 x.k, .int .i64 x.r, .int .i64 x.a, .int .i64 x.b, .int .i64 x.i, .int .i64 x.n]] w fun e w'=>e=.returned (.int .i64 (W.do x).1)∧bN w0 w' p gb (W.do x).2:=by
 obtain ⟨h,M⟩:=S.M;refine (M.db hT x).mono ?_;rintro e w' ⟨he,ht⟩;exact ⟨he,S.fC M ht⟩
theorem eR (S:hH w0 w p ob gb r) (hT:r.2.T.length≤90000) (x:St) :
  Calls Try.prog 71 #[.agg #[.int .i64 x.k, .int .i64 x.r, .int .i64 x.a, .int .i64 x.b, .int .i64 x.i, .int .i64 x.n], .pointer (some ⟨ob,0,none⟩), .pointer (some ⟨gb,0,none⟩)] w
   fun e w'=>e=.returned (.tuple #[])∧hH w0 w' p ob gb (bL r x):=by
 obtain ⟨xk,xr,xa,xb,xi,xn⟩:=x;have ka:=(Kz w).alloc (.cells #[.int .i64 xk, .int .i64 xr, .int .i64 xa, .int .i64 xb, .int .i64 xi, .int .i64 xn] 98);have hb:=ah.new w [.int .i64 xk, .int .i64 xr, .int .i64 xa, .int .i64 xb, .int .i64 xi, .int .i64 xn] 98;have HS:=Hz (S.same ka);have d0:=hb.cell 0;have d1:=hb.cell 1;have d2:=hb.cell 2;have d3:=hb.cell 3;have d4:=hb.cell 4;have d5:=hb.cell 5;have dl:=hb.lt;simp only [Lz,Ls] at d0 d1 d2 d3 d4 d5;clear S ka hb;dsimp only;go_enter Try.func71,Try.ntmps71;go_upto_region 1 with (fail)
 generalize w.alloc (.cells #[.int .i64 xk, .int .i64 xr, .int .i64 xa, .int .i64 xb, .int .i64 xi, .int .i64 xn] 98)=w1 at *;generalize w.heap.size=sb at *;have o0:=HS.out.O.cell 0;have ol:=HS.out.O.lt;have of:=HS.out.O.free 0;have g0:=HS.out.G.cell 0;have gl:=HS.out.G.lt;simp only [Lz] at o0 g0;obtain ⟨ok,W⟩:=r;dsimp only at hT o0;cases ok
 ·go_wp2_with fail;go_end0;exact ⟨rfl,HS.out.set false⟩
 ·obtain ⟨h,M⟩:=HS.out.M;have hdo:=M.db hT ⟨xk,xr,xa,xb,xi,xn⟩;unfold bH at hdo;have HD:=Hz hdo;have HM:=Hz M;clear hdo M;go_wp2_with fail;refine HD.out.mono ?_;rintro e w2 ⟨rfl,ht⟩;have HS2:=Hz (HS.out.fC HM.out ht);clear ht HS HM HD o0 ol of g0 gl d0 d1 d2 d3 d4 d5 dl;obtain ⟨⟨c,V⟩,hV⟩:∃ t,W.do ⟨xk,xr,xa,xb,xi,xn⟩=t:=⟨_,rfl⟩
  have HW:=Hz (show bL (true,W) ⟨xk,xr,xa,xb,xi,xn⟩=(c == 0,V) by unfold bL;rw [if_pos rfl];dsimp only;rw [hV]);rw [hV] at HS2 ⊢;clear hV;have of:=HS2.out.O.free 0;have ol:=HS2.out.O.lt;have o0:=HS2.out.O.cell 0;simp only [Lz] at o0;dsimp only;go_wp2_with fail;go_end0;refine ⟨rfl,?_⟩;rw [HW.out];exact HS2.out.set _
end
end
section
section
variable {W V:Wd} {n:Nat}
theorem sA {is:List Bool} {i:Int} (k:Nat) (h:av is i=true):av (is.set k true) i=true:=by
 unfold av at h ⊢;simp only [Bool.and_eq_true,decide_eq_true_eq,Ld,List.getElem?_set] at h ⊢;refine ⟨h.1,?_⟩;split
 ·split
  ·rfl
  ·rename_i e hn;rw [List.getElem?_eq_none (by omega)] at h;exact h.2
 ·exact h.2
theorem qu {is:List Bool} {q:List (Int × Int)} {x i:Int} (h:av is i=true):av (W.bh is q x).1 i=true:=by
 have h1:=sA x.toNat h;exact bC.2 ⟨(ev h1).1,(ev h1).2,aU.base h1⟩
theorem mQ:∀ (k:Nat) (is:List Bool) (q:List (Int × Int)),av is 0=true →
  ∃ is',scanM av W.bh is q (List.replicate k ((0,1),true,false))=(is',q ++ List.replicate k (0,1),List.replicate k ((0,1),true,true),decide (0<k))∧av is' 0=true
 | 0,is,q,h=>⟨is,by simp [scanM],h⟩
 | k+1,is,q,h=>by
  obtain ⟨is',e,h'⟩:=mQ k (W.bh is q 1).1 (q ++ [(0,1)]) (qu h);refine ⟨is',?_,h'⟩;rw [List.replicate_succ];simp only [scanM,h,Bool.not_false,Bool.and_self,if_true];have e2:(W.bh is q 1).2.1=q:=rfl;have e3:(W.bh is q 1).2.2=1:=rfl;rw [e2,e3,e];simp [List.replicate_succ]
theorem lE:∀ (k:Nat) (is:List Bool) (q:List (Int × Int)),scanM av W.bh is q (List.replicate k ((0,1),true,true))=(is,q,List.replicate k ((0,1),true,true),false)
 | 0,is,q=>by simp [scanM]
 | k+1,is,q=>by
  rw [List.replicate_succ];simp only [scanM,Bool.not_true,Bool.and_false,Bool.false_and];rw [lE k is q];simp
structure Wd.Gd (W:Wd) (n:Nat):Prop where
 ok:W.ok
 len:2≤W.T.length
 r0:W.rt 0=(3,0)
 g:W.Is 0 5 []
 v:0<n→W.Is 1 2 [(1,77),(1,77),(1,77)]
 rt:((3,1):Vl) ∉ W.roots
 fs:∀ x,W.live x→((3,1):Vl) ∉ (W.th x).fs
 st:(W.regs=List.replicate n (0,1)∧W.wait=[]∧(W.th 1).aV=false)∨(W.regs=[]∧W.wait=List.replicate n (0,1))
theorem Wd.Gd.qO (G:W.Gd n) (s:Int):W.rt s≠(3,1):=fun e=>by
 unfold Wd.rt at e;rw [Ld] at e;cases hx:W.roots[s.toNat]? with
 | none=>rw [hx] at e;cases e
 | some v=>rw [hx] at e;exact G.rt (by rw [←e];exact List.mem_of_getElem? hx)
theorem Wd.Gd.aP (G:W.Gd n) {r:Int} {v:Vl} (hv:W.dp v) (h1:v≠(3,1)) (hr:2<r):(W.aP r v).Gd n:=by
 refine ⟨G.ok.aP hv r,G.len,?_,G.g,G.v,fun hm=>?_,G.fs,G.st⟩
 ·rw [←G.r0];unfold Wd.rt Wd.aP;simp only [Ld,List.getElem?_set];rw [if_neg (by omega)]
 ·rcases List.mem_or_eq_of_mem_set hm with h | h
  ·exact G.rt h
  ·exact h1 h.symm
theorem Wd.Gd.put (G:W.Gd n) {r k:Int} {l:List Vl} (ho:(W.put r k l).ok) (hr:2<r) (hl:((3,1):Vl) ∉ l):(W.put r k l).Gd n:=by
 have hlen:=G.len;refine ⟨ho,by simp [Wd.put];omega,?_,G.g.put,fun h=>(G.v h).put,fun hm=>?_,fun x hx hm=>?_,?_⟩
 ·rw [←G.r0];unfold Wd.rt Wd.put;simp only [Ld,List.getElem?_set];rw [if_neg (by omega)]
 ·rcases List.mem_or_eq_of_mem_set hm with h | h
  ·exact G.rt h
  ·unfold eu at h;injection h with _ h
   omega
 ·rcases Wd.iO hx with h1 | rfl
  ·rw [Wd.eQ h1.1 h1.2.1] at hm;exact G.fs x h1 hm
  ·rw [Wd.c6] at hm;exact hl hm
 ·rcases G.st with ⟨h1,h2,h3⟩ | h
  ·exact .inl ⟨h1,h2,by rw [Wd.eQ (by decide) (by omega)];exact h3⟩
  ·exact .inr h
theorem Wd.Gd.pass (G:W.Gd n) (b:Bool):av (W.pass b).1 0=true∧(W.pass b).2.1=List.replicate n (0,1)∧∀ i ∈ (W.pass b).2.2,i.2.1=true:=by
 have hf:av (W.first b) 0=true:=Wd.cL.2 ⟨by decide,by have:=G.len;omega, .inr (by rw [←G.r0];exact Wd.jk G.ok (by decide) (by decide))⟩;have h0:av (W.b8 W.wait (W.first b)) 0=true:=bC.2 ⟨by decide,by rw [Wd.dg];have:=G.len;omega,aU.base hf⟩;unfold Wd.pass ec;rcases G.st with ⟨h1,h2,h3⟩ | ⟨h1,h2⟩
 ·have hd:av (W.b8 W.wait (W.first b)) 1=false:=by
   rw [Bool.eq_false_iff];intro ha;have S:=(bC.1 ha).2.2.least (S:=fun x=>W.live x∧x≠1) (fun k hk=>?_) (fun a c hS hl=>?_)
   ·exact S.2 rfl
   ·refine ⟨Wd.iP G.ok hk,?_⟩;rintro rfl;obtain ⟨-,-,h | h⟩:=Wd.cL.1 hk
    ·rw [h3] at h;cases h.1
    ·exact G.rt h
   ·refine ⟨Wd.dM G.ok G.ok.wv a c hS.1 (hl.mono (fun k hk=>hk.1) (fun _ h=>h)),?_⟩;rintro rfl;rcases hl with ⟨_,h⟩ | ⟨_,h⟩ | ⟨_,h,_⟩ | ⟨_,h⟩
    ·exact G.fs a hS.1 h
    ·exact G.fs a hS.1 (List.mem_of_getElem? h)
    ·exact G.fs a hS.1 (List.mem_of_getElem? h)
    ·rw [h2] at h;cases h
  have hi:bY av (W.b8 W.wait (W.first b)) W.regs=List.replicate n ((0,1),true,false):=by
   rw [h1];unfold bY;rw [List.map_replicate,hd];rfl
  rw [hi,h1,h2];rw [h2] at h0;generalize W.b8 [] (W.first b)=is at *;obtain ⟨is',e,h'⟩:=mQ (W:=W) n is [] h0;rw [List.length_replicate];cases n with
  | zero=>
   simp only [roundsM,List.replicate_zero,scanM];exact ⟨h0,rfl,fun i hi=>by cases hi⟩
  | succ m=>
   rw [roundsM,e];dsimp only;rw [if_pos (by simp),roundsM,lE];dsimp only;rw [if_neg (by decide)];exact ⟨h',by simp,fun i hi=>by rw [List.eq_of_mem_replicate hi]⟩
 ·rw [h1,h2];rw [h2] at h0;simp only [bY,List.map_nil,List.length_nil,roundsM,scanM];exact ⟨h0,rfl,fun i hi=>by cases hi⟩
theorem Wd.Gd.after (G:W.Gd n) (b:Bool) (ho:(W.after b).ok):(W.after b).Gd n∧(W.after b).regs=[]∧(W.after b).wait=List.replicate n (0,1):=by
 have C:=W.fM G.ok b;obtain ⟨m,-⟩:=Wd.dh G.ok b;obtain ⟨p0,p1,p2⟩:=G.pass b;have hr:(W.after b).regs=[]:=by
  show bR av fq (W.pass b).1 (W.pass b).2.2=[]
  unfold bR;rw [List.filter_eq_nil_iff.2 (fun i hi=>by rw [p2 i hi];simp)]
  rfl
 have hw:(W.after b).wait=List.replicate n (0,1):=by
  show bG av fq (W.pass b).1 (W.pass b).2.1=_
  unfold bG;rw [p1,List.filter_eq_self.2 (fun e he=>by rw [List.eq_of_mem_replicate he];exact p0),List.map_replicate]
  rfl
 refine ⟨⟨ho,by rw [C.T];exact G.len,by rw [C.rt];exact G.r0,G.g.cut C ((Wd.bB G.ok).2 p0) (by decide) (by decide),fun h=>?_,by rw [C.roots];exact G.rt,fun x hx hm=>?_, .inr ⟨hr,hw⟩⟩,hr,hw⟩
 ·refine (G.v h).cut C ((Wd.bB G.ok).2 (m.shut 0 1 p0 (.inr (.inr (.inr ⟨G.g.2.1,?_⟩))))) (by decide) (by decide);rw [p1];exact List.mem_replicate.2 ⟨by omega,rfl⟩
 ·rcases C.fs x hx _ hm with h1 | h1
  ·cases h1
  ·exact G.fs x (C.live x hx) h1
theorem Wd.Gd.cut (G:W.Gd n) (b:Bool):(W.cut b).2.Gd n∧((W.cut b).1=0→(W.cut b).2.regs=[]∧(W.cut b).2.wait=List.replicate n (0,1)):=by
 have hc:=G.ok.cut b;unfold Wd.cut at hc ⊢;split
 ·exact ⟨G,fun h=>by cases h⟩
 ·split
  ·exact ⟨G,fun h=>by cases h⟩
  ·rename_i h1 h2;rw [if_neg h1,if_neg h2] at hc;have:=G.after b hc;exact ⟨this.1,fun _=>this.2⟩
theorem Wd.Gd.room (G:W.Gd n) (k:Int):(W.room k).2.Gd n:=by
 unfold Wd.room;split
 ·exact (G.cut _).1
 ·exact G
theorem Wd.Gd.aW (G:W.Gd n) {r k:Int} {l:List Int} (hf:aQ k l.length=true) (hr:2<r):(W.aW r k l).2.Gd n:=by
 have ho:=G.ok.aW (r:=r) (k:=k) (l:=l) hf;unfold Wd.aW at ho ⊢;split
 ·rename_i hz;rw [if_pos hz] at ho;have R:=G.room (1+l.length);refine R.put ho hr (fun hm=>?_);obtain ⟨a,-,ha⟩:=List.mem_map.1 hm;exact R.qO a ha
 ·exact G
theorem Wd.Gd.do (G:W.Gd n) {x:St} (h9:x.k≠9) (h10:x.k≠10) (hu:aJ x.k%2=1→2<x.r):(W.do x).2.Gd n:=by
 unfold Wd.do
 split
 case isFalse=>exact G
 rename_i hc;have num:∀ z:Int,((1,z):Vl)≠(3,1):=fun z e=>by injection e with e1;exact absurd e1 (by decide)
 unfold Wd.step;by_cases h:x.k=1
 ·rw [if_pos h];rw [h] at hu;have hz:-dy≤x.n∧x.n<dy:=(aN hc).2.2.2.2.1 h;exact G.aP (.inr (.inl ⟨rfl,hz⟩)) (num _) (hu (by decide))
 rw [if_neg h];clear h;by_cases h:x.k=2
 ·rw [if_pos h];rw [h] at hu;exact G.aP (.inl ⟨rfl,rfl⟩) (by decide) (hu (by decide))
 rw [if_neg h];clear h;by_cases h:x.k=3
 ·rw [if_pos h];rw [h] at hu;exact G.aP (Wd.fT G.ok _) (G.qO _) (hu (by decide))
 rw [if_neg h];clear h;by_cases h:x.k=4
 ·rw [if_pos h];rw [h] at hu;exact G.aW rfl (hu (by decide))
 rw [if_neg h];clear h;by_cases h:x.k=5
 ·rw [if_pos h];rw [h] at hu;refine G.aW ?_ (hu (by decide));have:=(aN hc).2.2.2.2.2 h;simp [aQ];omega
 rw [if_neg h];clear h;by_cases h:x.k=6
 ·rw [if_pos h];rw [h] at hu;exact G.aW rfl (hu (by decide))
 rw [if_neg h];clear h;by_cases h:x.k=7
 ·rw [if_pos h];rw [h] at hu;exact G.aW rfl (hu (by decide))
 rw [if_neg h];clear h;by_cases h:x.k=8
 ·rw [if_pos h];rw [h] at hu;exact G.aW rfl (hu (by decide))
 rw [if_neg h];clear h;rw [if_neg h9,if_neg h10];by_cases h:x.k=11
 ·rw [if_pos h];rw [h] at hu;unfold Wd.get;split
  ·rename_i hf;obtain ⟨f1,-,f3,f4⟩:=Wd.fK hf;have hl:W.live (W.au x.a):=Wd.bJ G.ok f1;have hi:x.i.toNat<(W.th (W.au x.a)).fs.length:=by omega
   refine G.aP (G.ok.tv _ hl _ ?_) (fun e=>G.fs _ hl ?_) (hu (by decide))
   ·rw [Ld,Le hi];exact List.getElem_mem _
   ·rw [←e,Ld,Le hi];exact List.getElem_mem _
  ·exact G
 rw [if_neg h];clear h;by_cases h:x.k=12
 ·rw [if_pos h];rw [h] at hu;have ho:(W.set x).2.ok:=by
   have:=G.ok.do x
   unfold Wd.do Wd.step at this
   rw [if_pos hc,if_neg (by omega),if_neg (by omega),if_neg (by omega),if_neg (by omega),if_neg (by omega),if_neg (by omega),if_neg (by omega),if_neg (by omega),if_neg (by omega),if_neg (by omega),if_neg (by omega),if_pos h] at this;exact this
  unfold Wd.set at ho ⊢;split
  ·rename_i hf;rw [if_pos hf] at ho;have hl:W.live (W.au x.a):=Wd.bJ G.ok (Wd.fK hf).1;have n1:W.au x.a≠1:=fun e=>by
    unfold Wd.au at e;split at e
    ·rename_i h3;exact G.qO x.a (Prod.ext h3 e)
    ·cases e
   have n0:W.au x.a≠0:=fun e=>by
    unfold Wd.bm at hf;rw [e,if_pos (.inr G.g.2.1)] at hf;cases hf
   have is:∀ {i k l},W.Is i k l→i≠W.au x.a→(W.cm (W.au x.a) ((W.th (W.au x.a)).fs.set x.i.toNat (W.rt x.b))).Is i k l:=fun {i k l} I ne=>
    ⟨(Wd.dK hl _).2 I.1,by rw [Wd.lh hl I.1.1];exact I.2.1,by rw [Wd.eF I.1.1 hl,if_neg ne];exact I.2.2⟩
   refine ⟨ho,by simpa [Wd.cm] using G.len,G.r0,is G.g (Ne.symm n0),fun hn=>is (G.v hn) (Ne.symm n1),G.rt,fun y hy hm=>?_,?_⟩
   ·have hy':=(Wd.dK hl _).1 hy;rw [Wd.eF hy.1 hl] at hm;split at hm
    ·rcases List.mem_or_eq_of_mem_set hm with h1 | h1
     ·exact G.fs _ hl h1
     ·exact G.qO _ h1.symm
    ·exact G.fs y hy' hm
   ·rcases G.st with ⟨h1,h2,h3⟩ | h
    ·exact .inl ⟨h1,h2,by rw [Wd.eF (by decide) hl,if_neg (Ne.symm n1)];exact h3⟩
    ·exact .inr h
  ·exact G
 rw [if_neg h];clear h;by_cases h:x.k=13
 ·rw [if_pos h];rw [h] at hu;unfold Wd.len;split
  ·exact G
  ·rename_i hn;refine G.aP (.inr (.inl ⟨rfl,?_⟩)) (num _) (hu (by decide));have:=(aX (G.ok.tk _ (Wd.bJ G.ok (fun e=>hn (.inl e))))).2.2.2;constructor <;> simp only [dy] <;> omega
 rw [if_neg h];clear h;by_cases h:x.k=14
 ·rw [if_pos h];rw [h] at hu;unfold Wd.same;refine G.aP ?_ (num _) (hu (by decide));split
  ·exact .inr (.inl ⟨rfl,by decide⟩)
  ·exact .inr (.inl ⟨rfl,by decide⟩)
 rw [if_neg h];clear h;split
 ·exact (G.cut _).1
 ·exact (G.cut _).1
structure Wd.Pd (W:Wd) (m:Nat):Prop where
 ok:W.ok
 r0:W.rt 0=(3,0)
 g:W.Is 0 5 []
 v:0<m→W.Is 1 2 [(1,77),(1,77),(1,77)]
 w:W.wait=List.replicate m (0,1)
theorem Wd.Gd.pd (G:W.Gd n) (h:W.wait=List.replicate n (0,1)):W.Pd n:=⟨G.ok,G.r0,G.g,G.v,h⟩
theorem pF (h0:W.rt 0=(3,0)) (hg:W.Is 0 5 []):W.guard 0=0:=by
 have ht:W.au 0=0:=by unfold Wd.au;rw [h0];rfl
 unfold Wd.guard;rw [ht,if_neg];rw [hg.2.1]
 decide
theorem jw (h0:W.rt 0=(3,0)) (hg:W.Is 0 5 []) (hw:W.wait=[]):W.do ⟨10,1,0,0,0,0⟩=(4,W):=by
 have e:W.do ⟨10,1,0,0,0,0⟩=W.pop ⟨10,1,0,0,0,0⟩:=by unfold Wd.do;rw [if_pos (by decide)];rfl
 rw [e];unfold Wd.pop;dsimp only;rw [pF h0 hg,if_neg (by decide),hw]
 rfl
theorem Wd.Pd.none (P:W.Pd 0):W.do ⟨10,1,0,0,0,0⟩=(4,W):=jw P.r0 P.g P.w
theorem Wd.Pd.pop {m:Nat} (P:W.Pd (m+1)):∃ V U:Wd,W.do ⟨10,1,0,0,0,0⟩=(0,V)∧V.do ⟨11,1,1,0,2,0⟩=(0,U)∧U.Pd m∧U.view.1.getD 1 (0,0)=(1,77)∧U.view.1.length=12:=by
 have e:W.do ⟨10,1,0,0,0,0⟩=(0, { W with wait:=List.replicate m (0,1),roots:=W.roots.set 1 (3,1) }):=by
  have e:W.do ⟨10,1,0,0,0,0⟩=W.pop ⟨10,1,0,0,0,0⟩:=by unfold Wd.do;rw [if_pos (by decide)];rfl
  rw [e];unfold Wd.pop;dsimp only;rw [pF P.r0 P.g,if_neg (by decide),P.w,List.replicate_succ]
  rfl
 have o1:=P.ok.do ⟨10,1,0,0,0,0⟩
 rw [e] at o1;dsimp only at o1;have hl:=P.ok.hr;generalize hV:({ W with wait:=List.replicate m (0,1),roots:=W.roots.set 1 (3,1) }:Wd)=V at *;have hT:∀ i,V.th i=W.th i:=fun i=>by rw [←hV];rfl
 have hL:∀ i,V.live i↔W.live i:=fun i=>by rw [←hV];rfl
 have r1:V.rt 1=(3,1):=by
  rw [←hV];unfold Wd.rt;simp only [Ld];rw [show Int.toNat 1=1 from rfl,List.getElem?_set,if_pos rfl,if_pos (by omega)]
  rfl
 have r0:V.rt 0=(3,0):=by
  rw [←P.r0,←hV];unfold Wd.rt;simp only [Ld];rw [show Int.toNat 0=0 from rfl,List.getElem?_set,if_neg (by decide)]
 have v1:=P.v (by omega);have ht:V.au 1=1:=by unfold Wd.au;rw [r1];rfl
 have hf:V.bm ⟨11,1,1,0,2,0⟩=0:=by
  unfold Wd.bm;dsimp only;rw [ht,hT,v1.2.1,v1.2.2]
  decide
 have e2:V.do ⟨11,1,1,0,2,0⟩=(0,V.aP 1 (1,77)):=by
  have e:V.do ⟨11,1,1,0,2,0⟩=V.get ⟨11,1,1,0,2,0⟩:=by unfold Wd.do;rw [if_pos (by decide)];rfl
  rw [e];unfold Wd.get;rw [if_pos hf];dsimp only;rw [ht,hT,v1.2.2]
  rfl
 have o2:=o1.do ⟨11,1,1,0,2,0⟩
 rw [e2] at o2;refine ⟨V,V.aP 1 (1,77),e,e2,⟨o2,?_,⟨(hL 0).2 P.g.1,by rw [show (V.aP 1 (1,77)).th 0=W.th 0 from hT 0];exact P.g.2.1,by rw [show (V.aP 1 (1,77)).th 0=W.th 0 from hT 0];exact P.g.2.2⟩,fun _=>⟨(hL 1).2 v1.1,by rw [show (V.aP 1 (1,77)).th 1=W.th 1 from hT 1];exact v1.2.1,by rw [show (V.aP 1 (1,77)).th 1=W.th 1 from hT 1];exact v1.2.2⟩,by rw [←hV];rfl⟩,?_,?_⟩
 ·rw [gH o1 (by decide) (by decide) (by decide),if_neg (by decide)];exact r0
 ·have:=(Wd.seen o2).n5 o2 (s:=1) (by decide);rw [this,show ((1:Nat):Int)=1 from rfl,gH o1 (by decide) (by decide) (by decide),if_pos rfl,iR (by decide)]
 ·exact ((Wd.seen o2).lens o2).1
def ei (a b:Int) (n:Nat) (z:Vl):Wd:=⟨[⟨5,[],false,false⟩,⟨2,[(1,77),(1,77),(1,77)],false,false⟩],[(3,0),z,(1,77),(0,0),(0,0),(0,0),(0,0),(0,0),(0,0),(0,0),(0,0),(0,0)],List.replicate n (0,1),[],a,b⟩
def sB (a b:Int):Wd:=⟨[⟨5,[],false,false⟩],[(3,0),(0,0),(0,0),(0,0),(0,0),(0,0),(0,0),(0,0),(0,0),(0,0),(0,0),(0,0)],[],[],a,b⟩
def lF (a b:Int):Wd:=⟨[⟨5,[],false,false⟩],[(3,0),(0,0),(1,77),(0,0),(0,0),(0,0),(0,0),(0,0),(0,0),(0,0),(0,0),(0,0)],[],[],a,b⟩
theorem sC {a b:Int} (ha:16≤a):(Wd.new a b).do ⟨8,0,0,0,0,0⟩=(0,sB a b):=by
 have e:(Wd.new a b).do ⟨8,0,0,0,0,0⟩=(Wd.new a b).aW 0 5 []:=by unfold Wd.do;rw [if_pos (by decide)];rfl
 have hr:(Wd.new a b).room (1+(([]:List Int).length:Int))=(0,Wd.new a b):=by
  unfold Wd.room;rw [if_neg];have:(Wd.new a b).aL=0:=rfl;rw [this]
  show ¬ (1+((0:Nat):Int) > a-0)
  omega
 rw [e];unfold Wd.aW;rw [hr]
 rfl
theorem sD {a b:Int}:(sB a b).do ⟨1,2,0,0,0,77⟩=(0,lF a b):=by unfold Wd.do;rw [if_pos (by decide)];rfl
theorem sE {a b:Int} (ha:16≤a):(lF a b).do ⟨5,1,2,0,0,3⟩=(0,ei a b 0 (3,1)):=by
 have e:(lF a b).do ⟨5,1,2,0,0,3⟩=(lF a b).aW 1 2 [2,2,2]:=by unfold Wd.do;rw [if_pos (by decide)];rfl
 have hr:(lF a b).room (1+(([2,2,2]:List Int).length:Int))=(0,lF a b):=by
  unfold Wd.room;rw [if_neg];have:(lF a b).aL=1:=rfl;rw [this]
  show ¬ (1+((3:Nat):Int) > a-1)
  omega
 rw [e];unfold Wd.aW;rw [hr]
 rfl
theorem sG {a b:Int} {k:Nat} (hk:k<24):(ei a b k (3,1)).do ⟨9,0,1,0,0,0⟩=(0,ei a b (k+1) (3,1)):=by
 have e:(ei a b k (3,1)).do ⟨9,0,1,0,0,0⟩=(ei a b k (3,1)).gP ⟨9,0,1,0,0,0⟩:=by unfold Wd.do;rw [if_pos (by decide)];rfl
 have h1:(ei a b k (3,1)).au 1=1:=rfl;have h2:(ei a b k (3,1)).guard 0=0:=rfl;rw [e];unfold Wd.gP;dsimp only;rw [h1,h2,if_neg (by decide),if_neg (by simp [ei];omega)];unfold ei;rw [List.replicate_succ']
theorem sH {a b:Int} {k:Nat}:(ei a b k (3,1)).do ⟨2,1,0,0,0,0⟩=(0,ei a b k (0,0)):=by unfold Wd.do;rw [if_pos (by decide)];rfl
theorem qP {a b:Int} (h:16≤a∧a≤256∧0≤b∧b≤1024):∀ k:Nat,k<24→(ei a b k (3,1)).ok
 | 0,_=>by
  have o0:=Wd.fY h.1 h.2.1 h.2.2.1 h.2.2.2;have o1:=o0.do ⟨8,0,0,0,0,0⟩
  rw [sC h.1] at o1;have o2:=o1.do ⟨1,2,0,0,0,77⟩
  dsimp only at o2;rw [sD] at o2;have o3:=o2.do ⟨5,1,2,0,0,3⟩
  dsimp only at o3;rw [sE h.1] at o3;exact o3
 | k+1,hk=>by
  have:=(qP h k (by omega)).do ⟨9,0,1,0,0,0⟩
  rw [sG (by omega)] at this;exact this
theorem qx {a b:Int} (h:16≤a∧a≤256∧0≤b∧b≤1024) {n:Nat} (hn:n<24):(ei a b n (0,0)).Gd n:=by
 have ho:=(qP h n hn).do ⟨2,1,0,0,0,0⟩
 rw [sH] at ho;refine ⟨ho,by simp [ei],rfl,⟨⟨by decide,by simp [ei],rfl⟩,rfl,rfl⟩,fun _=>⟨⟨by decide,by simp [ei],rfl⟩,rfl,rfl⟩,by simp [ei],fun x hx hm=>?_, .inl ⟨rfl,rfl,rfl⟩⟩;obtain ⟨h0,h1,-⟩:=hx;have h1:x<2:=by simpa [ei] using h1
 rcases (show x=0∨x=1 by omega) with rfl | rfl
 ·have e:((ei a b n (0,0)).th 0).fs=[]:=rfl;rw [e] at hm;cases hm
 ·have e:((ei a b n (0,0)).th 1).fs=[(1,77),(1,77),(1,77)]:=rfl;rw [e] at hm;simp at hm
end
end
section
open Go.RowKit
section
variable {w0 w:World} {p gb:Nat} {W:Wd}
theorem jx (S:bN w0 w p gb W) (hT:W.T.length≤90000) (x:St) :
  Calls Try.prog 69 #[.agg #[.int .i64 x.k, .int .i64 x.r, .int .i64 x.a, .int .i64 x.b, .int .i64 x.i, .int .i64 x.n], .pointer (some ⟨gb,0,none⟩)] w
   fun e w'=>e=.returned (.bool ((W.do x).1 == 0))∧bN w0 w' p gb (W.do x).2:=by
 obtain ⟨xk,xr,xa,xb,xi,xn⟩:=x;have ka:=(Kz w).alloc (.cells #[.int .i64 xk, .int .i64 xr, .int .i64 xa, .int .i64 xb, .int .i64 xi, .int .i64 xn] 98);have hb:=ah.new w [.int .i64 xk, .int .i64 xr, .int .i64 xa, .int .i64 xb, .int .i64 xi, .int .i64 xn] 98;have HS:=Hz (S.same ka);have d0:=hb.cell 0;have d1:=hb.cell 1;have d2:=hb.cell 2;have d3:=hb.cell 3;have d4:=hb.cell 4;have d5:=hb.cell 5;have dl:=hb.lt;simp only [Lz,Ls] at d0 d1 d2 d3 d4 d5;clear S ka hb;dsimp only;go_enter Try.func69,Try.ntmps69;go_upto_region 1 with (fail)
 generalize w.alloc (.cells #[.int .i64 xk, .int .i64 xr, .int .i64 xa, .int .i64 xb, .int .i64 xi, .int .i64 xn] 98)=w1 at *;generalize w.heap.size=sb at *;have g0:=HS.out.G.cell 0;have gl:=HS.out.G.lt;simp only [Lz] at g0;obtain ⟨h,M⟩:=HS.out.M;have hdo:=M.db hT ⟨xk,xr,xa,xb,xi,xn⟩;unfold bH at hdo;have HD:=Hz hdo;have HM:=Hz M;clear hdo M;go_wp2_with fail;refine HD.out.mono ?_;rintro e w2 ⟨rfl,ht⟩;have HS2:=Hz (HS.out.fC HM.out ht);clear ht HS HM HD g0 gl d0 d1 d2 d3 d4 d5 dl;obtain ⟨r,hr⟩:∃ r,W.do ⟨xk,xr,xa,xb,xi,xn⟩=r:=⟨_,rfl⟩
 have HR:=Hz hr;rw [hr] at HS2 ⊢;clear hr;go_wp2_with fail;go_ret;rw [HR.out];exact ⟨rfl,HS2.out⟩
end
end
section
open Go.RowKit
theorem Rd.nth {w:World} {ao:Option Addr} {l:List Int} (h:Rd w ao (l.map (Value.int .i64))) (i:Nat) (hi:i<l.length) :
  ∃ g o,ao=some ⟨g,o,none⟩∧g<w.heap.size∧w.cell? ⟨g,o+i,none⟩=some (.int .i64 (l.getD i 0)):=by
 obtain ⟨g,o,rfl,hg,hc⟩:=h (by intro e;simp at e;subst e;simp at hi);refine ⟨g,o,rfl,hg,?_⟩;rw [hc i (by simpa using hi)];simp [List.getD,hi]
def s9:Ar:=((Ar.new 16 8).make 1 2).2
def ta:Ar:=(s9.make 2 12).2
def td:Ar:=(ta.make 5 0).2
def tI:Ar:=(td.copy 0).2
theorem b1:((Ar.new 16 8).make 1 2).1=0:=by decide +kernel
theorem b2:(s9.make 2 12).1=3:=by decide +kernel
theorem b3:(ta.make 5 0).1=-1:=by decide +kernel
theorem b4:(td.copy 0).1=16:=by decide +kernel
theorem b5:tI.au 16=(1,2,0):=by decide +kernel
end
section
open Go.RowKit
theorem kH {l:List Nd} {k:Nat} (h:k<l.length):dO (l.take (k+1))=dO (l.take k)+(1+if (l.getD k (0,[])).1=5 then 0 else ((l.getD k (0,[])).2.length:Int)):=by
 rw [←List.take_append_getElem h];unfold dO;rw [List.map_append,List.sum_append];have e:l.getD k (0,[])=l[k]:=by rw [Ld,Le h];rfl
 rw [e];simp
theorem jL {l:List Nd} (hl:∀ n ∈ l,n.2.length≤1000000):∀ k:Nat,k≤l.length→0≤dO (l.take k)∧dO (l.take k)≤1000001*k
 | 0,_=>by simp [dO]
 | k+1,h=>by
  have ih:=jL hl k (by omega);have hm:(l.getD k (0,[])).2.length≤1000000:=by
   rw [Ld,Le (by omega)];exact hl _ (List.getElem_mem _)
  rw [kH (by omega)];split
  ·omega
  ·omega
theorem sI (x:Value) (V:List Vl × List Nd) (w:World) (h1:gZ w x V) :
  Calls Try.prog 68 #[x] w fun e w'=>e=.returned (.int .i64 (dO V.2))∧aa (fun _=>False) w w':=by
 obtain ⟨ro,rc,nv,F,rfl,r1,n1,l1,l2,l3⟩:=h1;obtain ⟨no,nc,rfl,N1⟩:=n1.nth;have M1:=Hz n1;have L3:=Hz l3;clear r1 n1 N1 l3;go_enter Try.func68,Try.ntmps68;go_wp2_with fail;have hka:=(Kz w).alloc (.cells #[.slice ro V.1.length rc, .slice no V.2.length nc] 72);have hba:ah (w.alloc (.cells #[.slice ro V.1.length rc, .slice no V.2.length nc] 72)) w.heap.size [.slice ro V.1.length rc, .slice no V.2.length nc] 72:=ah.newAt _ rfl rfl;generalize w.alloc (.cells #[.slice ro V.1.length rc, .slice no V.2.length nc] 72)=wa at *;generalize w.heap.size=b at *;have KA:=Hz hka;have BA:=Hz hba;clear hka hba;go_loopw [3,4] (fun nn i wr=>∃ k:Nat,k≤V.2.length∧i=.int .i64 k∧nn=.int .i64 (dO (V.2.take k))∧aa (fun _=>False) w wr∧ah wr b [.slice ro V.1.length rc, .slice no V.2.length nc] 72) (fun _ i _=>V.2.length-(intOf i).toNat)
 case atStart=>exact ⟨0,Nat.zero_le _,rfl,rfl,KA.out,BA.out⟩
 case round=>
  obtain ⟨k,hk,rfl,rfl,hkk,hb1⟩:=hrel;have HK:=Hz hkk;have HX1:=Hz hb1;clear KA BA hkk hb1;have c1:=HX1.out.cell 1;have cl:=HX1.out.lt;simp only [Lz,Ls] at c1;by_cases hlt:k<V.2.length
  ·obtain ⟨no',nc',e',N1⟩:=(M1.out.ae HK.out (fun _ _ _ h=>h) (fun _ _ h=>h)).nth;cases e';obtain ⟨g,o,ao,ac,rfl,hgl,x0,x1,-,-⟩:=N1 k hlt;have hnl:(V.2.getD k (0,[])).2.length≤1000000:=by
    rw [Ld,Le hlt];exact L3.out _ (List.getElem_mem _)
   have hst:=kH hlt;have hbd:=jL L3.out k hk;generalize dO (V.2.take k)=s at *;generalize V.2.getD k (0,[])=nd at *;have HST:=Hz hst;clear N1 hst;by_cases h5:nd.1=5
   ·have HS:=Hz (show dO (V.2.take (k+1))=s+1 by rw [HST.out,if_pos h5];omega);rw [h5] at x0;clear h5 HST;go_wp2_with fail;go_roundw
    case rel=>exact ⟨k+1,hlt,by go_num,by rw [HS.out],HK.out,HX1.out⟩
    case measure=>simp [intOf];omega
   ·have HS:=Hz (show dO (V.2.take (k+1))=s+1+nd.2.length by rw [HST.out,if_neg h5];omega);have hd:(nd.1 != 5)=true:=by simpa using h5
    clear h5 HST;go_wp2_with fail;go_roundw
    case rel=>exact ⟨k+1,hlt,by go_num,by rw [HS.out],HK.out,HX1.out⟩
    case measure=>simp [intOf];omega
  ·obtain rfl:k=V.2.length:=by omega
   rw [List.take_length];go_wp2_with fail;go_ret;exact ⟨rfl,HK.out⟩
end
end Go.Proofs.Ytjifdalflepcoab
