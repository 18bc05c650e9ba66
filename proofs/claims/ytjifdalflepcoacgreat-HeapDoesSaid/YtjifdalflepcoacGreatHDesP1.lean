/-
  Parts of the proof, merged: what the functions do, and plain laws.
-/
import Derived.Test.YtjifdalflepcoacGreatHDesP0
import Derived.Maps.Own
import Derived.Maps.OwnSet
import Derived.Deep.CutBlock
import Derived.Deep.DeepCutAuto
import Derived.Laws.Tables
import Derived.Deep.MidRow
set_option maxHeartbeats 16000000
set_option maxRecDepth 100000
set_option linter.unusedVariables false
set_option linter.unusedSimpArgs false
namespace Go.Proofs.YtjifdalflepcoacGreat
section
structure Wo where
 ar:Ar
 cd:List Bool
 rt:List Int
 rg:List (Int × Int)
 wt:List (Int × Int)
def qK (e:Int × Int):Prop:=br e.1∧br e.2
structure Wo.ok (O:Wo):Prop where
 ha:O.ar.ok
 h12:O.rt.length=12
 hR:∀ x ∈ O.rt,br x
 hg:∀ e ∈ O.rg,qK e
 hw:∀ e ∈ O.wt,qK e
 hq:O.rg.length+O.wt.length≤24
 hc:O.cd.length≤1000
def Wo.new (n o:Int):Wo:=⟨Ar.new n o,List.replicate (gj o) false,List.replicate 12 2,[],[]⟩
def Ar.a8 (A:Ar) (x:Int):Int × Int × Int × Int:=if x%4=1∧(A.aj (x/4)).2.2=0 then (x/4,(A.aj (x/4)).1,(A.aj (x/4)).2.1,0) else (0,0,0,2)
def Ar.get (A:Ar) (x i:Int):Int × Int:=
 if (A.a8 x).2.2.2≠0∨(A.a8 x).2.1=5 then (0,2) else if i<0∨(A.a8 x).2.2.1≤i then (0,1) else (A.load (x/4+1+i),0)
def Wo.set (O:Wo) (x i y:Int):Int × Wo:=
 if (O.ar.get x i).2≠0 then ((O.ar.get x i).2,O)
 else (0, { O with ar:=O.ar.store (x/4+1+i) y,cd:=if y%4=1∧(O.ar.store (x/4+1+i) y).aG (y/4)=true∧(O.ar.store (x/4+1+i) y).aP (x/4)=true then gG O.ar.nur O.cd (x/4) else O.cd })
theorem Wo.zO {O:Wo} {x i y:Int} (hc:¬ (O.ar.get x i).2=0):O.set x i y=((O.ar.get x i).2,O):=if_pos hc
theorem Wo.yd {O:Wo} {x i y:Int} (hc:(O.ar.get x i).2=0):O.set x i y=(0, { O with ar:=O.ar.store (x/4+1+i) y,cd:=if y%4=1∧(O.ar.store (x/4+1+i) y).aG (y/4)=true∧(O.ar.store (x/4+1+i) y).aP (x/4)=true then gG O.ar.nur O.cd (x/4) else O.cd }):=
 if_neg (fun h=>h hc)
def dh (x:Int):Vl:=if x%4=1 then (3,x/4) else ((eQ x).1,(eQ x).2.1)
def eZ (wt:List (Int × Int)) (g:Int):List Int:=(wt.filter fun e=>e.1 == g).map (·.2)
def Ar.fields (A:Ar) (at_:Int):List Int:=(List.range (A.aj at_).2.1.toNat).map fun (j:Nat)=>A.load (at_+1+(j:Int))
def Wo.gr (O:Wo):Gr:=fun i=>((O.ar.aj i).1,(O.ar.fields i).map dh ++ if (O.ar.aj i).1=5 then (eZ O.wt (4*i+1)).map dh else [])
def Wo.view (O:Wo):List Vl × List Nd:=j2 O.gr (O.rt.map dh)
def Wo.univ (O:Wo):List Int:=((0 :: O.ar.ws) ++ O.rt ++ O.wt.map (·.2)).map (· / 4)
theorem Ar.ye {A:Ar} (h:A.ok) (i:Int):A.load i=0∨A.load i ∈ A.ws:=by
 unfold Ar.load;split
 ·rename_i hu;have:=h.i6 hu;right;rw [Ld,Le (by omega)];exact List.getElem_mem _
 ·exact .inl rfl
theorem Wo.q9 {O:Wo} (h:O.ok) (i:Int):O.ar.load i/4 ∈ O.univ:=by
 unfold Wo.univ;rcases Ar.ye h.ha i with e | e
 ·rw [e];exact List.mem_map.2 ⟨0,by simp,rfl⟩
 ·exact List.mem_map.2 ⟨_,by simp [e],rfl⟩
theorem Wo.re {O:Wo} {x:Int} (h:x ∈ O.rt):x/4 ∈ O.univ:=List.mem_map.2 ⟨x,by simp [h],rfl⟩
theorem Wo.rf {O:Wo} {x g:Int} (h:x ∈ eZ O.wt g):x/4 ∈ O.univ:=by
 unfold eZ at h;obtain ⟨e,he,rfl⟩:=List.mem_map.1 h;exact List.mem_map.2 ⟨e.2,by simp only [List.mem_append,List.mem_map];exact .inr ⟨e,(List.mem_filter.1 he).1,rfl⟩,rfl⟩
theorem l5 {x:Int} (h:(dh x).1=3):x%4=1∧(dh x).2=x/4:=by
 unfold dh at *;by_cases h1:x%4=1
 ·rw [if_pos h1];exact ⟨h1,rfl⟩
 ·rw [if_neg h1] at h;dsimp only at h;unfold eQ at h;exfalso
  repeat' split at h
  all_goals (dsimp only at h;omega)
theorem Wo.rh {O:Wo} (h:O.ok):ux O.gr O.univ:=by
 refine ⟨fun i _ v hv h3=>?_⟩;unfold Wo.gr at hv;dsimp only at hv;rcases List.mem_append.1 hv with h1 | h1
 ·obtain ⟨x,hx,rfl⟩:=List.mem_map.1 h1;rw [(l5 h3).2];unfold Ar.fields at hx;obtain ⟨j,_,rfl⟩:=List.mem_map.1 hx;exact Wo.q9 h _
 ·split at h1
  ·obtain ⟨x,hx,rfl⟩:=List.mem_map.1 h1;rw [(l5 h3).2];exact Wo.rf hx
  ·cases h1
theorem Wo.zP {O:Wo} (h:O.ok):O.univ.length≤1400:=by
 have h1:=h.ha.h4;have h2:=h.h12;have h3:=h.hq;unfold Wo.univ;simp;omega
theorem Ar.kU (A:Ar) (i x:Int):(A.store i x).ws.length=A.ws.length:=by unfold Ar.store;split <;> simp
theorem Ar.cU (A:Ar) (i x:Int):(A.store i x).nur=A.nur:=by unfold Ar.store;split <;> rfl
theorem Ar.fg (A:Ar) (i x:Int):(A.store i x).yng=A.yng:=by unfold Ar.store;split <;> rfl
theorem Ar.dA (A:Ar) (i x:Int):(A.store i x).grn=A.grn:=by unfold Ar.store;split <;> rfl
end
section
open Go.RowKit
structure WH where
 p:Nat
 pa:Nat
 g:Nat
 pc:Nat
 cb:Nat
 ps:Nat
 rv:Value
 wv:Value
 ro:Value
def WH.Own (h:WH) (k:Nat):Prop:=k=h.p∨(k=h.pa∨k=h.g)∨(k=h.pc∨k=h.cb)∨a7 h.ps h.rv h.wv k∨ai h.ro k
structure bp (w:World) (h:WH) (O:Wo):Prop where
 hp:ah w h.p [.pointer (some ⟨h.pa,0,none⟩), .pointer (some ⟨h.pc,0,none⟩), .pointer (some ⟨h.ps,0,none⟩),h.ro] 52
 ha:bE w h.pa h.g O.ar
 hc:cO w h.pc h.cb O.ar.nur O.cd
 hs:bu w h.ps h.rv h.wv O.rg O.wt
 hr:Sl w 2 1 h.ro O.rt.length (O.rt.map (Value.int .i64))
 ap:¬ ai h.ro h.g
 ok:O.ok
section
variable {w w':World} {h:WH} {O:Wo}
theorem bp.bU (H:bp w h O) {k:Nat} (hk:h.Own k):k<w.heap.size:=by
 rcases hk with rfl | (rfl | rfl) | (rfl | rfl) | hk | hk
 ·exact H.hp.lt
 ·exact H.ha.hp.lt
 ·exact H.ha.hg.lt
 ·exact H.hc.hp.lt
 ·exact H.hc.hq.lt
 ·exact H.hs.nW hk
 ·exact (H.hr.own hk).1
theorem bp.ae {S:Nat→Prop} (H:bp w h O) (k:ab S w w') (hn:∀ b,h.Own b→¬ S b):bp w' h O:=
 ⟨k.ak H.hp (hn _ (.inl rfl)),H.ha.ae k (hn _ (.inr (.inl (.inl rfl)))) (hn _ (.inr (.inl (.inr rfl)))),H.hc.ae k (hn _ (.inr (.inr (.inl (.inl rfl))))) (hn _ (.inr (.inr (.inl (.inr rfl))))),
  H.hs.ae k (fun b hb=>hn b (.inr (.inr (.inr (.inl hb))))),H.hr.ae k (fun b hb=>hn b (.inr (.inr (.inr (.inr hb))))),H.ap,H.ok⟩
theorem bu.cG {w:World} {p b:Nat} {rv wv:Value} {av wait:List (Int × Int)} (h:bu w p rv wv av wait) (hb:a7 p rv wv b):∃ c T,ah w b c T∧(T=133∨T=101):=by
 rcases hb with rfl | hb | hb
 ·exact ⟨_,_,h.hp, .inl rfl⟩
 ·obtain ⟨_,c,hc⟩:=h.hr.own hb;exact ⟨_,_,hc, .inr rfl⟩
 ·obtain ⟨_,c,hc⟩:=h.hw.own hb;exact ⟨_,_,hc, .inr rfl⟩
theorem bp.uz (H:bp w h O) {b:Nat} {c:List Value} {T:TypeId} (hb:ah w b c T) (h1:T≠133) (h2:T≠101):¬ a7 h.ps h.rv h.wv b:=fun hf=>by
 obtain ⟨c',T',hc,hT⟩:=H.hs.cG hf;rcases hT with rfl | rfl
 ·exact hb.ne hc h1 rfl
 ·exact hb.ne hc h2 rfl
theorem bp.j6 (H:bp w h O) {b:Nat} {c:List Value} {T:TypeId} (hb:ah w b c T) (h1:T≠2):¬ ai h.ro b:=fun hf=>by
 obtain ⟨_,c',hc⟩:=H.hr.own hf;exact hb.ne hc h1 rfl
theorem bp.bZ (H:bp w h O) {A:Ar} (t:a5 w h.pa h.g w' A) (hn:A.nur=O.ar.nur):bp w' h { O with ar:=A }:=by
 have k:=t.k;have n1:∀ {b:Nat} {c:List Value} {T:TypeId},ah w b c T→T≠141→T≠2→¬ (b=h.pa∨b=h.g):=fun hb h1 h2 e=>by
  rcases e with e | e
  ·exact hb.ne H.ha.hp h1 e
  ·exact hb.ne H.ha.hg h2 e
 refine ⟨k.ak H.hp (n1 H.hp (by decide) (by decide)),t.at_,?_,H.hs.ae k (fun b hb=>?_),H.hr.ae k (fun b hb=>?_),H.ap, { H.ok with ha:=t.at_.ok }⟩
 ·show cO w' h.pc h.cb A.nur O.cd
  rw [hn];exact H.hc.ae k (n1 H.hc.hp (by decide) (by decide)) (n1 H.hc.hq (by decide) (by decide))
 ·obtain ⟨c,T,hc,hT⟩:=H.hs.cG hb;rcases hT with rfl | rfl
  ·exact n1 hc (by decide) (by decide)
  ·exact n1 hc (by decide) (by decide)
 ·rintro (rfl | rfl)
  ·exact H.j6 H.ha.hp (by decide) hb
  ·exact H.ap hb
theorem bp.cards (H:bp w h O) {l:List Bool} (t:cO w' h.pc h.cb O.ar.nur l) (hl:l.length≤1000) (k:ab (·=h.cb) w w'):bp w' h { O with cd:=l }:=by
 have n1:∀ {b:Nat} {c:List Value} {T:TypeId},ah w b c T→T≠4→¬ (b=h.cb):=fun hb h1 e=>hb.ne H.hc.hq h1 e;refine ⟨k.ak H.hp (n1 H.hp (by decide)),H.ha.ae k (n1 H.ha.hp (by decide)) (n1 H.ha.hg (by decide)),t,H.hs.ae k (fun b hb=>?_),H.hr.ae k (fun b hb=>?_),H.ap, { H.ok with hc:=hl }⟩
 ·obtain ⟨c,T,hc,hT⟩:=H.hs.cG hb;rcases hT with rfl | rfl
  ·exact n1 hc (by decide)
  ·exact n1 hc (by decide)
 ·rintro rfl;exact H.j6 H.hc.hq (by decide) hb
theorem bp.dZ (H:bp w h O):w.cell? ⟨h.p,0,none⟩=some (.pointer (some ⟨h.pa,0,none⟩))∧w.cell? ⟨h.p,1,none⟩=some (.pointer (some ⟨h.pc,0,none⟩))∧w.cell? ⟨h.p,2,none⟩=some (.pointer (some ⟨h.ps,0,none⟩))∧w.cell? ⟨h.p,3,none⟩=some h.ro:=
 ⟨H.hp.cell 0,H.hp.cell 1,H.hp.cell 2,H.hp.cell 3⟩
def fK (w:World) (h:WH) (w':World) (O:Wo):Prop:=
 ∃ h',bp w' h' O∧h'.p=h.p∧ab h.Own w w'∧∀ k,h'.Own k→h.Own k∨w.heap.size≤k
theorem bp.iR (H:bp w h O) {A:Ar} (t:a5 w h.pa h.g w' A) (hn:A.nur=O.ar.nur):fK w h w' { O with ar:=A }:=
 ⟨h,H.bZ t hn,rfl,t.k.mono (fun k _ hk=>.inr (.inl hk)),fun k hk=>.inl hk⟩
theorem fK.same (H:bp w h O) (k:ab (fun _=>False) w w'):fK w h w' O:=
 ⟨h,H.ae k (fun _ _ h=>h),rfl,k.mono (fun _ _ h=>h.elim),fun k hk=>.inl hk⟩
theorem l6 {A:Ar} {x:Int} (h:¬ (x%4=1∧(A.aj (x/4)).2.2=0)):A.a8 x=(0,0,0,2):=if_neg h
theorem lx {A:Ar} {x:Int} (h:x%4=1∧(A.aj (x/4)).2.2=0):A.a8 x=(x/4,(A.aj (x/4)).1,(A.aj (x/4)).2.1,0):=if_pos h
theorem ky {fn:Func} {t u v x:Tmp} (h:fn.results=#[.tmp t, .tmp u, .tmp v, .tmp x]) (tmps:Array Value) (P:Program) (w:World) :
  (results fn tmps).run P w=.ok (.tuple #[tmps.getD t undef,tmps.getD u undef,tmps.getD v undef,tmps.getD x undef]) w:=by
 simp [results,h]
theorem pb {a b c d:Int} {y:Int × Int × Int × Int} (h:y=(a,b,c,d)) :
  Ending.returned (.tuple #[.int .i64 a, .int .i64 b, .int .i64 c, .int .i64 d])=Ending.returned (.tuple #[.int .i64 y.1, .int .i64 y.2.1, .int .i64 y.2.2.1, .int .i64 y.2.2.2]):=by subst h;rfl
theorem uA (x:Int) (H:bp w h O) :
  Calls Tryz.prog 116 #[.pointer (some ⟨h.p,0,none⟩), .int .i64 x] w fun e w'=>
   e=.returned (.tuple #[.int .i64 (O.ar.a8 x).1, .int .i64 (O.ar.a8 x).2.1, .int .i64 (O.ar.a8 x).2.2.1, .int .i64 (O.ar.a8 x).2.2.2])∧w=w':=by
 have HH:=Hz H;obtain ⟨c0,-,-,-⟩:=H.dZ;have pl:=H.hp.lt;have HA:=Hz H.ha;clear H;by_cases hx:x%4=1
 ·by_cases hc:(O.ar.aj (x/4)).2.2=0
  ·have HE:=Hz (lx ⟨hx,hc⟩);obtain ⟨⟨k,n,c⟩,hT⟩:∃ t,O.ar.aj (x/4)=t:=⟨_,rfl⟩;rw [hT] at hc HE;dsimp only at hc HE;subst hc;have HT:=Hz hT;have HX:=Hz hx;clear hT hx;go_enter Tryz.func116,Tryz.ntmps116;go_wp2_with fail;refine (dt x _ HX.out).mono ?_;rintro e w1 ⟨rfl,rfl⟩;go_wp2_with fail;refine (gz (x/4) _ HA.out).mono ?_;rintro e w1 ⟨rfl,rfl⟩;rw [HT.out];dsimp only;go_wp2_with fail
   ((try simp only [Exit.inBlock,Exit.then]);refine bodyPost_ret (ky rfl _ _ _) rfl ?_)
   exact ⟨pb HE.out,rfl⟩
  ·have HE:=Hz (l6 (A:=O.ar) (x:=x) (fun h=>hc h.2));obtain ⟨⟨k,n,c⟩,hT⟩:∃ t,O.ar.aj (x/4)=t:=⟨_,rfl⟩;rw [hT] at hc;dsimp only at hc;have hcb:(c != 0)=true:=by simpa using hc
   have HT:=Hz hT;have HX:=Hz hx;clear hT hx hc;go_enter Tryz.func116,Tryz.ntmps116;go_wp2_with fail;refine (dt x _ HX.out).mono ?_;rintro e w1 ⟨rfl,rfl⟩;go_wp2_with fail;refine (gz (x/4) _ HA.out).mono ?_;rintro e w1 ⟨rfl,rfl⟩;rw [HT.out];dsimp only;go_wp2_with fail
   ((try simp only [Exit.inBlock,Exit.then]);refine bodyPost_ret (ky rfl _ _ _) rfl ?_)
   exact ⟨pb HE.out,rfl⟩
 ·have HE:=Hz (l6 (A:=O.ar) (x:=x) (fun h=>hx h.1));have HX:=Hz hx;clear hx;go_enter Tryz.func116,Tryz.ntmps116;go_wp2_with fail;refine (kR x _ HX.out).mono ?_;rintro e w1 ⟨rfl,rfl⟩;go_wp2_with fail
  ((try simp only [Exit.inBlock,Exit.then]);refine bodyPost_ret (ky rfl _ _ _) rfl ?_)
  exact ⟨pb HE.out,rfl⟩
theorem sf (x:Int) (H:bp w h O) :
  Calls Tryz.prog 50 #[.pointer (some ⟨h.p,0,none⟩), .int .i64 x] w fun e w'=>
   e=.returned (.tuple #[.int .i64 (O.ar.a8 x).2.1, .int .i64 (O.ar.a8 x).2.2.1, .int .i64 (O.ar.a8 x).2.2.2])∧w=w':=by
 go_enter Tryz.func50,Tryz.ntmps50;go_wp2_with fail;refine (uA x H).mono ?_;rintro e w1 ⟨rfl,rfl⟩;go_wp2_with fail
 go_ret3
 exact ⟨rfl,rfl⟩
theorem yf {A:Ar} {x i:Int} (h:(A.a8 x).2.2.2≠0∨(A.a8 x).2.1=5):A.get x i=(0,2):=if_pos h
theorem wG {A:Ar} {x i:Int} (h:¬ ((A.a8 x).2.2.2≠0∨(A.a8 x).2.1=5)) (h2:i<0∨(A.a8 x).2.2.1≤i):A.get x i=(0,1):=by unfold Ar.get;rw [if_neg h,if_pos h2]
theorem AS {A:Ar} {x i:Int} (h:¬ ((A.a8 x).2.2.2≠0∨(A.a8 x).2.1=5)) (h2:¬ (i<0∨(A.a8 x).2.2.1≤i)):A.get x i=(A.load (x/4+1+i),0):=by unfold Ar.get;rw [if_neg h,if_neg h2]
theorem qL (A:Ar) (x:Int):0≤(A.a8 x).2.2.1∧(A.a8 x).2.2.1≤12:=by
 unfold Ar.a8;split
 ·exact A.aU _
 ·decide
theorem mO {A:Ar} (hk:A.ok) {x:Int} (h:(A.a8 x).2.2.2=0):x%4=1∧(A.aj (x/4)).2.2=0∧0≤x/4∧x/4<A.ws.length∧(A.a8 x).1=x/4:=by
 by_cases hc:x%4=1∧(A.aj (x/4)).2.2=0
 ·have:=hk.i6 (A.mV hc.2);refine ⟨hc.1,hc.2,this.1,this.2,?_⟩;rw [lx hc]
 ·rw [l6 hc] at h;simp at h
theorem pN (x i:Int) (H:bp w h O) :
  Calls Tryz.prog 48 #[.pointer (some ⟨h.p,0,none⟩), .int .i64 x, .int .i64 i] w fun e w'=>
   e=.returned (.tuple #[.int .i64 (O.ar.get x i).1, .int .i64 (O.ar.get x i).2])∧w=w':=by
 have HH:=Hz H;obtain ⟨c0,-,-,-⟩:=H.dZ;have pl:=H.hp.lt;have HA:=Hz H.ha;have hb:=qL O.ar x;have hpl:=fun e=>mO H.ok.ha (x:=x) e;have h4:=H.ok.ha.h4;have gk:=fun e=>yf (A:=O.ar) (x:=x) (i:=i) e;have gr:=fun e1 e2=>wG (A:=O.ar) (x:=x) (i:=i) e1 e2;have go:=fun e1 e2=>AS (A:=O.ar) (x:=x) (i:=i) e1 e2;have HTc:=Hz (uA x H);obtain ⟨⟨p,k,n,c⟩,hT⟩:∃ t,O.ar.a8 x=t:=⟨_,rfl⟩;rw [hT] at hb hpl gk gr go HTc;dsimp only at hb hpl gk gr go HTc;clear H hT;by_cases hc:c=0
 ·obtain ⟨-,-,p0,p1,rfl⟩:=hpl hc;subst hc;by_cases hk:k=5
  ·have HG:=Hz (gk (.inr hk));subst hk;clear gk gr go hpl;go_enter Tryz.func48,Tryz.ntmps48;go_wp2_with fail;refine HTc.out.mono ?_;rintro e w1 ⟨rfl,rfl⟩;go_wp2_with fail;go_ret2;exact ⟨by rw [HG.out];rfl,rfl⟩
  ·have h1:¬ ((0:Int)≠0∨k=5):=fun h=>by rcases h with h | h;exact h rfl;exact hk h
   have hkb:(k == 5)=false:=by simpa using hk
   by_cases hi:i<0∨n≤i
   ·have HG:=Hz (gr h1 hi);clear gk gr go hpl h1 hk;by_cases hi0:i<0
    ·have hd:decide (i<0)=true:=by simpa using hi0
     clear hi;go_enter Tryz.func48,Tryz.ntmps48;go_wp2_with fail;refine HTc.out.mono ?_;rintro e w1 ⟨rfl,rfl⟩;go_wp2_with fail;go_ret2;exact ⟨by rw [HG.out];rfl,rfl⟩
    ·have hd:decide (i<0)=false:=by simpa using hi0
     have hd2:decide (n≤i)=true:=by simp;omega
     clear hi;go_enter Tryz.func48,Tryz.ntmps48;go_wp2_with fail;refine HTc.out.mono ?_;rintro e w1 ⟨rfl,rfl⟩;go_wp2_with fail;go_ret2;exact ⟨by rw [HG.out];rfl,rfl⟩
   ·have HG:=Hz (go h1 hi);have hd:decide (i<0)=false:=by simp;omega
    have hd2:decide (n≤i)=false:=by simp;omega
    have hi0:0≤i:=by omega
    have hi1:i<n:=by omega
    clear gk gr go hpl h1 hk hi;go_enter Tryz.func48,Tryz.ntmps48;go_wp2_with fail;refine HTc.out.mono ?_;rintro e w1 ⟨rfl,rfl⟩;go_wp2_with fail;refine (eD (x/4+1+i) _ HA.out).mono ?_;rintro e w1 ⟨rfl,rfl⟩;go_wp2_with fail;go_ret2;exact ⟨by rw [HG.out];rfl,rfl⟩
 ·have HG:=Hz (gk (.inl hc));have hcb:(c != 0)=true:=by simpa using hc
  clear gk gr go hpl hc;go_enter Tryz.func48,Tryz.ntmps48;go_wp2_with fail;refine HTc.out.mono ?_;rintro e w1 ⟨rfl,rfl⟩;go_wp2_with fail;go_ret2;exact ⟨by rw [HG.out];rfl,rfl⟩
end
end
section
open Go.RowKit
section
variable {w w':World} {h:WH} {O:Wo}
theorem Wo.wH {x i y:Int} (hc:(O.ar.get x i).2≠0):O.set x i y=((O.ar.get x i).2,O):=if_pos hc
theorem Wo.uB {x i y:Int} (hc:(O.ar.get x i).2=0):O.set x i y=(0, { O with ar:=O.ar.store (x/4+1+i) y,cd:=if y%4=1∧(O.ar.store (x/4+1+i) y).aG (y/4)=true∧(O.ar.store (x/4+1+i) y).aP (x/4)=true then gG O.ar.nur O.cd (x/4) else O.cd }):=
 if_neg (fun h=>h hc)
theorem ri {A:Ar} (hk:A.ok) {x i:Int} (h:(A.get x i).2=0):x%4=1∧(A.aj (x/4)).2.2=0∧0≤x/4∧x/4<A.ws.length∧0≤i∧i<(A.aj (x/4)).2.1∧(A.aj (x/4)).1≠5:=by
 unfold Ar.get at h;split at h
 ·simp at h
 ·rename_i h1;split at h
  ·simp at h
  ·rename_i h2;have hc:(A.a8 x).2.2.2=0:=Classical.not_not.1 fun e=>h1 (.inl e);obtain ⟨p1,p2,p3,p4,p5⟩:=mO hk hc;rw [lx ⟨p1,p2⟩] at h1 h2;exact ⟨p1,p2,p3,p4,by omega,by dsimp only at h2;omega,fun e=>h1 (.inr e)⟩
theorem CI (x i y:Int) (H:bp w h O) (hy:br y) :
  Calls Tryz.prog 47 #[.pointer (some ⟨h.p,0,none⟩), .int .i64 x, .int .i64 i, .int .i64 y] w fun e w'=>
   e=.returned (.int .i64 (O.set x i y).1)∧fK w h w' (O.set x i y).2:=by
 have HH:=Hz H;have HY:=Hz hy;have pl:=H.hp.lt;have h4:=H.ok.ha.h4;have HN:=Hz (show 0≤(O.ar.nur:Int)∧(O.ar.nur:Int)≤1000000 by have:=H.ok.ha.h1;have:=H.ok.ha.h2;have:=H.ok.ha.h3;omega);by_cases hc:(O.ar.get x i).2=0
 ·have HE:=Hz (Wo.uB (y:=y) hc);obtain ⟨p1,-,p2,p3,p4,p5,-⟩:=ri H.ok.ha hc;have p6:=(O.ar.aU (x/4)).2;have p7:i<12:=by omega
  have P1:=Hz p1;have HC:=Hz hc;clear H hy hc p1 p5 p6;go_enter Tryz.func47,Tryz.ntmps47;go_wp2_with fail;refine (pN x i HH.out).mono ?_;rintro e w1 ⟨rfl,rfl⟩;rw [HC.out];go_wp2_with fail;refine (dt x _ P1.out).mono ?_;rintro e w1 ⟨rfl,rfl⟩;obtain ⟨c0,-,-,-⟩:=HH.out.dZ;go_wp2_with fail;refine (gy (x/4+1+i) y _ HH.out.ha HY.out).mono ?_;rintro e w1 ⟨rfl,ht⟩;have HT:=Hz ht.k;have HW:=Hz (HH.out.bZ ht (O.ar.cU _ _));have HTO:=Hz (HH.out.iR ht (O.ar.cU _ _));clear c0 pl ht;generalize hA:O.ar.store (x/4+1+i) y=A at *;have HA:=Hz hA;clear hA;obtain ⟨c0,c1,-,-⟩:=HW.out.dZ;have pl:=HW.out.hp.lt;by_cases hy4:y%4=1
  ·have HY4:=Hz hy4;cases hyo:A.aG (y/4)
   ·have HF:=Hz (show ¬ (y%4=1∧A.aG (y/4)=true∧A.aP (x/4)=true) by rw [hyo];exact fun h=>by cases h.2.1);clear hy4;go_wp2_with fail;refine (dt y _ HY4.out).mono ?_;rintro e w2 ⟨rfl,rfl⟩;go_wp2_with fail;refine (cN (y/4) _ HW.out.ha).mono ?_;rintro e w2 ⟨rfl,rfl⟩;rw [hyo];go_wp2_with fail;go_ret;refine ⟨by rw [HE.out];rfl,?_⟩;rw [HE.out,if_neg HF.out];exact HTO.out
   ·cases hol:A.aP (x/4)
    ·have HF:=Hz (show ¬ (y%4=1∧A.aG (y/4)=true∧A.aP (x/4)=true) by rw [hol];exact fun h=>by cases h.2.2);clear hy4;go_wp2_with fail;refine (dt y _ HY4.out).mono ?_;rintro e w2 ⟨rfl,rfl⟩;go_wp2_with fail;refine (cN (y/4) _ HW.out.ha).mono ?_;rintro e w2 ⟨rfl,rfl⟩;rw [hyo];go_wp2_with fail;refine (iA (x/4) _ HW.out.ha).mono ?_;rintro e w2 ⟨rfl,rfl⟩;rw [hol];go_wp2_with fail;go_ret;refine ⟨by rw [HE.out];rfl,?_⟩;rw [HE.out,if_neg HF.out];exact HTO.out
    ·have HF:=Hz (show (y%4=1∧A.aG (y/4)=true∧A.aP (x/4)=true) from ⟨hy4,hyo,hol⟩);clear hy4;go_wp2_with fail;refine (dt y _ HY4.out).mono ?_;rintro e w2 ⟨rfl,rfl⟩;go_wp2_with fail;refine (cN (y/4) _ HW.out.ha).mono ?_;rintro e w2 ⟨rfl,rfl⟩;rw [hyo];go_wp2_with fail;refine (iA (x/4) _ HW.out.ha).mono ?_;rintro e w2 ⟨rfl,rfl⟩;rw [hol];go_wp2_with fail;have hcc:=HW.out.hc;have hcl:=HW.out.ok.hc;have hnn:A.nur=O.ar.nur:=by rw [←HA.out];exact O.ar.cU _ _
     refine (wB h.pc h.cb A.nur (x/4) O.cd _ hcc (by rw [hnn];exact HN.out.1) (by rw [hnn];exact HN.out.2) (by omega) (by omega) (by simpa using Nat.le_trans hcl (by decide))).mono ?_;rintro e w2 ⟨rfl,hc2,hk2⟩;have HTO2:=Hz (show fK w h w2 { O with ar:=A,cd:=gG O.ar.nur O.cd (x/4) } by
      have:=HW.out.cards hc2 (by rw [gO];exact hcl) hk2;refine ⟨h,?_,rfl,(HT.out.mono (fun k _ hk=>.inr (.inl hk))).then hk2 (fun k hk=>.inl (by subst hk;exact .inr (.inr (.inl (.inr rfl))))),fun k hk=>.inl hk⟩;rw [hnn] at this
      exact this)
     clear hcc hcl hnn hc2 hk2;go_wp2_with fail;go_ret;refine ⟨by rw [HE.out];rfl,?_⟩;rw [HE.out,if_pos HF.out];exact HTO2.out
  ·have HY4:=Hz hy4;have HF:=Hz (show ¬ (y%4=1∧A.aG (y/4)=true∧A.aP (x/4)=true) from fun h=>hy4 h.1);clear hy4;go_wp2_with fail;refine (kR y _ HY4.out).mono ?_;rintro e w2 ⟨rfl,rfl⟩;go_wp2_with fail;go_ret;refine ⟨by rw [HE.out];rfl,?_⟩;rw [HE.out,if_neg HF.out];exact HTO.out
 ·have HE:=Hz (Wo.wH (y:=y) hc);have HTC:=Hz (pN x i H);obtain ⟨⟨a,c⟩,hT⟩:∃ t,O.ar.get x i=t:=⟨_,rfl⟩;rw [hT] at hc HE HTC;dsimp only at hc HE HTC;have hcb:(c != 0)=true:=by simpa using hc
  clear H hc hT;go_enter Tryz.func47,Tryz.ntmps47;go_wp2_with fail;refine HTC.out.mono ?_;rintro e w1 ⟨rfl,rfl⟩;go_wp2_with fail;go_ret;refine ⟨by rw [HE.out];rfl,?_⟩;rw [HE.out];exact fK.same HH.out (ab.refl _ _)
end
def zQ (w:World) (n o:Int) (e:Ending) (w':World):Prop:=
 ∃ h,e=.returned (.tuple #[.pointer (some ⟨h.p,0,none⟩), .agg #[.int .i64 0, .int .i64 0]])∧bp w' h (Wo.new n o)∧ab (fun _=>False) w w'∧∀ k,h.Own k→w.heap.size≤k
theorem Wo.jJ {n o:Int} (h:Ar.fits n o=true):(Wo.new n o).ok:=by
 have h':=h;simp [Ar.fits] at h';refine ⟨Ar.jJ h,by simp [Wo.new],fun x hx=>?_,fun e he=>by simp [Wo.new] at he,fun e he=>by simp [Wo.new] at he,by simp [Wo.new],?_⟩
 ·simp [Wo.new] at hx;subst hx;unfold br;omega
 ·simp [Wo.new,gj];omega
structure l7 (w:World) (h:WH) (n o:Int) (wr:World) (k:Nat) (v:Value):Prop where
 hp:ah wr h.p [.pointer (some ⟨h.pa,0,none⟩), .pointer (some ⟨h.pc,0,none⟩), .pointer (some ⟨h.ps,0,none⟩),v] 52
 ha:bE wr h.pa h.g (Ar.new n o)
 hc:cO wr h.pc h.cb n (List.replicate (gj o) false)
 hs:bu wr h.ps (.slice none 0 0) (.slice none 0 0) [] []
 hr:Sl wr 2 1 v k (List.replicate k (.int .i64 2))
 hk:ab (fun _=>False) w wr
 o1:w.heap.size≤h.p
 o2:w.heap.size≤h.pa
 o3:w.heap.size≤h.g
 o4:w.heap.size≤h.pc
 o5:w.heap.size≤h.cb
 o6:w.heap.size≤h.ps
 o7:∀ b,ai v b→w.heap.size≤b
 ap:¬ ai v h.g
 hz:ah wr w.heap.size [.int .i64 0, .int .i64 0] 28
theorem l7.app {w wr wa w2:World} {h:WH} {n o:Int} {k:Nat} {v v2:Value} (H:l7 w h n o wr k v) (ka:ab (fun _=>False) wr wa) (hs2:Sl w2 2 1 v2 (k+1) (List.replicate k (.int .i64 2) ++ [.int .i64 2])) (hk2:ab (ai v) wa w2) (ho2:∀ b,ai v2 b→ai v b∨wa.heap.size≤b) :
  l7 w h n o (w2.setCell ⟨h.p,3,none⟩ v2) (k+1) v2:=by
 have own:=fun b (hb:ai v b)=>(H.hr.ae ka (fun _ _ h=>h)).own hb;have ne1:∀ {b:Nat} {c:List Value} {T:TypeId},ah wr b c T→T≠2→¬ ai v b:=fun hb hT hv=>by
  obtain ⟨_,c',hc⟩:=own _ hv;exact (ka.ak hb (fun h=>h)).ne hc hT rfl
 have lt1:∀ {b:Nat} {c:List Value} {T:TypeId},ah wr b c T→b<wa.heap.size:=fun hb=>(ka.ak hb (fun h=>h)).lt;have k2:=(ka.mono (T:=ai v) (fun _ _ h=>h.elim)).trans hk2;have hsz:=H.hk.size;have hpl:=H.hp.lt;have kc:=fun {S:Nat→Prop} (k:ab S wr w2)=>k;have hp2:=k2.ak H.hp (ne1 H.hp (by decide));have set:=(ab.refl (·=h.p) w2).setCell (p:=⟨h.p,3,none⟩) (.inl rfl) v2;have nep:∀ {b:Nat} {c:List Value} {T:TypeId},ah w2 b c T→T≠52→¬ b=h.p:=fun hb hT=>hb.ne hp2 hT;have ha2:=H.ha.ae k2 (ne1 H.ha.hp (by decide)) H.ap;have hc2:=H.hc.ae k2 (ne1 H.hc.hp (by decide)) (ne1 H.hc.hq (by decide));have fsd:∀ b,a7 h.ps (.slice none 0 0) (.slice none 0 0) b→b=h.ps:=fun b hb=>by
  rcases hb with h | h | h
  ·exact h
  ·exact (bM h).elim
  ·exact (bM h).elim
 have hs3:=H.hs.ae k2 (fun b hb=>by rw [fsd b hb];exact ne1 H.hs.hp (by decide));refine ⟨by simpa using hp2.aO 3 v2,ha2.ae set (nep ha2.hp (by decide)) (nep ha2.hg (by decide)),hc2.ae set (nep hc2.hp (by decide)) (nep hc2.hq (by decide)),hs3.ae set (fun b hb=>by rw [fsd b hb];exact nep hs3.hp (by decide)),?_,?_,H.o1,H.o2,H.o3,H.o4,H.o5,H.o6,?_,?_,?_⟩
 ·rw [←List.replicate_succ'] at hs2;exact hs2.ae set (fun b hb e=>by
   obtain ⟨_,c',hc⟩:=hs2.own hb
   exact nep hc (by decide) e)
 ·exact (H.hk.then k2 (fun b hb=>.inr (H.o7 b hb))).setCell (.inr H.o1) _
 ·intro b hb;rcases ho2 b hb with h1 | h1
  ·exact H.o7 b h1
  ·have:=ka.size;omega
 ·intro hb;rcases ho2 _ hb with h1 | h1
  ·exact H.ap h1
  ·have:=lt1 H.ha.hg;omega
 ·have hz2:=k2.ak H.hz (ne1 H.hz (by decide));exact set.ak hz2 (nep hz2 (by decide))
theorem l7.done {w wr:World} {h:WH} {n o:Int} {v:Value} (H:l7 w h n o wr 12 v) (hf:Ar.fits n o=true):bp wr { h with ro:=v,rv:=.slice none 0 0,wv:=.slice none 0 0 } (Wo.new n o) ∧
  ∀ k,({ h with ro:=v,rv:=.slice none 0 0,wv:=.slice none 0 0 }:WH).Own k→w.heap.size≤k:=by
 have hn:((Ar.new n o).nur:Int)=n:=by simp [Ar.fits] at hf;simp [Ar.new];omega
 refine ⟨⟨H.hp,H.ha,?_,H.hs,?_,H.ap,Wo.jJ hf⟩,?_⟩
 ·show cO wr h.pc h.cb ((Ar.new n o).nur:Int) _
  rw [hn];exact H.hc
 ·have e:(Wo.new n o).rt=List.replicate 12 2:=rfl;rw [e];simpa using H.hr
 ·rintro k (rfl | (rfl | rfl) | (rfl | rfl) | (rfl | h1 | h1) | h1)
  ·exact H.o1
  ·exact H.o2
  ·exact H.o3
  ·exact H.o4
  ·exact H.o5
  ·exact H.o6
  ·exact (bM h1).elim
  ·exact (bM h1).elim
  ·exact H.o7 k h1
theorem zR (n o:Int) (w:World) (h:Ar.fits n o=false) :
  Calls Tryz.prog 44 #[.int .i64 n, .int .i64 o] w fun e w'=>e=.returned (.tuple #[.pointer none, .agg #[.int .i64 1, .int .i64 (-1)]])∧ab (fun _=>False) w w':=by
 go_enter Tryz.func44,Tryz.ntmps44;go_wp2_with fail;refine (zK n o _ h).mono ?_;rintro e w1 ⟨rfl,hk⟩;have HK:=Hz (((Kz w).alloc (.cells #[.int .i64 0, .int .i64 0] 28)).trans hk);go_wp2_with fail;have HB:=Hz (ah.newAt (w:=w1) (b:=w1.heap.size) (T:=28) #[.int .i64 1, .int .i64 (-1)] rfl rfl);have h0:=HB.out.cell 0;have h1:=HB.out.cell 1;have hl:=HB.out.lt;have k0:ah (w.alloc (.cells #[.int .i64 0, .int .i64 0] 28)) w.heap.size [.int .i64 0, .int .i64 0] 28:=ah.newAt _ rfl rfl;have k1:=(hk.ak k0 (fun h=>h)).alloc (.cells #[.int .i64 1, .int .i64 (-1)] 28);have l0:=k1.cell 0;have l1:=k1.cell 1;have ll:=k1.lt;have f0:=k1.free 0;have f1:=k1.free 1;simp only [Lz,Ls] at h0 h1 l0 l1;have HKA:=Hz (HK.out.alloc (.cells #[.int .i64 1, .int .i64 (-1)] 28));clear hk k0 k1;generalize w1.alloc (.cells #[.int .i64 1, .int .i64 (-1)] 28)=wa at *;refine ay (.free 1 (.pure 0 (.run 2 (.swi [] (.fin))))) [2] (fun w'=>w'.cell? ⟨w1.heap.size,0,none⟩=some (.int .i64 1)∧w'.cell? ⟨w1.heap.size,1,none⟩=some (.int .i64 (-1))) (by kernel_rfl) (by kernel_rfl) ⟨h0,h1⟩ ?_
 iterate 2 ((first | refine au rfl rfl fun K hK=>?_ | refine aq rfl rfl fun K hK=>?_ | refine aF rfl rfl fun K hK=>?_ | refine az rfl rfl fun K hK=>?_ | refine aE rfl rfl fun K hK=>?_);go_simp;refine hK _ ?_;clear hK K)
 refine aJ rfl rfl rfl (fun K hK=>?_);unfold aC;go_simp;refine hK _ _ ?_;clear hK K;refine aH (fun _=>True) trivial (aB ?_);go_wp2_with fail;refine bodyPost_ret (v:=.tuple #[.pointer none, .agg #[.int .i64 1, .int .i64 (-1)]]) (by simp [results,Tryz.results44,go_sem,l0,l1]) rfl ⟨rfl,(HKA.out.drew.setCell (p:=⟨w.heap.size,0,none⟩) (.inr (Nat.le_refl _)) _).setCell (p:=⟨w.heap.size,1,none⟩) (.inr (Nat.le_refl _)) _⟩
theorem yh (n o:Int) (w:World) (h:Ar.fits n o=true) :
  Calls Tryz.prog 44 #[.int .i64 n, .int .i64 o] w fun e w'=>zQ w n o e w':=by
 have HF:=Hz h;have ho:o≤1000000∧-9223372036854775808≤o:=by simp [Ar.fits] at h;omega
 obtain ⟨i0,hi,hz0,hz1,hz2⟩:=info_parts oU;have Hi:=Hz hi;have Hz0:=Hz hz0;have Hz1:=Hz hz1;have Hz2:=Hz hz2;clear hi hz0 hz1 hz2;clear h;go_enter Tryz.func44,Tryz.ntmps44;go_wp2_with fail;refine (xZ n o _ HF.out).mono ?_;rintro e w1 ⟨pa,g,rfl,hA,hk,hpa,hg⟩;have HA:=Hz hA;have HK:=Hz (((Kz w).alloc (.cells #[.int .i64 0, .int .i64 0] 28)).trans hk);have HZ:=Hz (hk.ak (show ah (w.alloc (.cells #[.int .i64 0, .int .i64 0] 28)) w.heap.size [.int .i64 0, .int .i64 0] 28 from ah.newAt _ rfl rfl) (fun h=>h));have hsz:=hk.size;simp at hsz hpa hg;have HPA:=Hz hpa;have HG:=Hz hg;clear hA hk hpa hg;go_wp2_with fail;refine (BL n o _ ho.1 ho.2).mono ?_;rintro e w2 ⟨rfl,hC,hz,hk⟩;have hka:=(Kz w1).alloc (.cells #[.int .i64 0, .int .i64 0] 28);have HC:=Hz hC;have HK2:=Hz (HK.out.trans (hka.trans hk));have HA2:=Hz (HA.out.ae (hka.trans hk) (fun h=>h) (fun h=>h));have HZ2:=Hz ((hka.trans hk).ak HZ.out (fun h=>h));have hsz2:=hk.size;simp at hsz2;clear hC hk hz hka;go_wp2_with fail;have HN:=Hz (show l7 w ⟨w2.heap.size+1,pa,g,w1.heap.size+1+1,w1.heap.size+1,w2.heap.size, .slice none 0 0, .slice none 0 0, .slice none 0 0⟩ n o ((w2.alloc (.cells #[.slice none 0 0, .slice none 0 0] 133)).alloc (.cells #[.pointer (some ⟨pa,0,none⟩), .pointer (some ⟨w1.heap.size+1+1,0,none⟩), .pointer (some ⟨w2.heap.size,0,none⟩), .slice none 0 0] 52)) 0 (.slice none 0 0) by
  have k1:=(Kz w2).alloc (.cells #[.slice none 0 0, .slice none 0 0] 133);have k2:=(Kz (w2.alloc (.cells #[.slice none 0 0, .slice none 0 0] 133))).alloc (.cells #[.pointer (some ⟨pa,0,none⟩), .pointer (some ⟨w1.heap.size+1+1,0,none⟩), .pointer (some ⟨w2.heap.size,0,none⟩), .slice none 0 0] 52);have k12:=k1.trans k2;have hc:=HC.out;simp only [World.size_alloc] at hc;have s0:w.heap.size≤w1.heap.size:=by omega
  refine ⟨ah.newAt _ (by simp) rfl,HA2.out.ae k12 (fun h=>h) (fun h=>h),hc.ae k12 (fun h=>h) (fun h=>h),?_,Sl.nil _ _ _,HK2.out.trans k12,?_,?_,?_,?_,?_,?_,fun b hb=>(bM hb).elim,fun hb=>bM hb,k12.ak HZ2.out (fun h=>h)⟩
  ·refine ⟨(ah.newAt _ rfl rfl).alloc _,Sl.nil _ _ _,Sl.nil _ _ _,fun k hk=>bM hk.1⟩
  all_goals (have h1:=HPA.out;have h2:=HG.out;dsimp only;omega))
 clear HC HK2 HA2;generalize (w2.alloc (.cells #[.slice none 0 0, .slice none 0 0] 133)).alloc (.cells #[.pointer (some ⟨pa,0,none⟩), .pointer (some ⟨w1.heap.size+1+1,0,none⟩), .pointer (some ⟨w2.heap.size,0,none⟩), .slice none 0 0] 52)=wb at *;go_loopw [27] (fun i wr=>∃ (k:Nat) (v:Value),k≤12∧i=.int .i64 k∧l7 w ⟨w2.heap.size+1,pa,g,w1.heap.size+1+1,w1.heap.size+1,w2.heap.size, .slice none 0 0, .slice none 0 0, .slice none 0 0⟩ n o wr k v) (fun i _=>12-(intOf i).toNat)
 case atStart=>exact ⟨0,_,Nat.zero_le _,rfl,HN.out⟩
 case round=>
  clear HN;obtain ⟨k,v,hk,rfl,hI⟩:=hrel;have HI:=Hz hI;clear hI;by_cases hlt:k<12
  ·have c3:=HI.out.hp.cell 3;have pl:=HI.out.hp.lt;have f3:=HI.out.hp.free 3;simp only [Lz,Ls] at c3;obtain ⟨ao,cap,rfl,-,-,-⟩:=HI.out.hr.rd;go_wp2_with fail;refine ay (.free 0 (.free 1 (.free 2 (.free 3 (.pure 4 (.run 5 (.run 6 (.run 7 (.swi [10] (.free 8 (.free 9 (.run 10 (.swi [] (.fin)))))))))))))) [7,8,9,10] (fun w'=>w'.cell? ⟨w2.heap.size+1,3,none⟩=some (.slice ao k cap)) (by kernel_rfl) (by kernel_rfl) c3 ?_
   iterate 5 ((first | refine au rfl rfl fun K hK=>?_ | refine aq rfl rfl fun K hK=>?_ | refine aF rfl rfl fun K hK=>?_ | refine az rfl rfl fun K hK=>?_ | refine aE rfl rfl fun K hK=>?_);go_simp;refine hK _ ?_;clear hK K)
   refine aM rfl rfl (fun K hK=>?_);unfold aC;go_simp;refine (uW _).mono ?_;rintro e w3 ⟨rfl,rfl⟩;refine hK _ _ (fun h=>h) ?_;clear hK K;refine aM rfl rfl (fun K hK=>?_);unfold aC;go_simp;have hkb:ab (fun _=>False) wr ((wr.drew).alloc (.cells #[.int .i64 2] 2)):=(Kz wr).drew.alloc (.cells #[.int .i64 2] 2);refine hK _ _ (fun _=>(hkb.ak HI.out.hp (fun h=>h)).cell 3) ?_;clear hK K;refine aJ rfl rfl rfl (fun K hK=>?_);refine fU (.tmp 33) (.tmp 35) 50 rfl 2 i0 (.int .i64 0) 1 8 Tryz.underlying50 Hi.out Hz0.out Hz1.out Hz2.out rfl (by decide) _ k (List.replicate k (.int .i64 2)) rfl (HI.out.hr.ae hkb (fun _ _ h=>h)) ⟨wr.heap.size,0,none⟩ 1 1 [.int .i64 2] rfl rfl (bW wr.drew 2 #[.int .i64 2]) (by intro u hu;simp at hu;subst hu;rfl) (by unfold maxLen;omega) (by omega) ?_;intro v3 w3 hs3 hk3 ho3;have HI3:=Hz (HI.out.app hkb hs3 hk3 ho3);have hp3:=hk3.ak (hkb.ak HI.out.hp (fun h=>h)) (fun hv=>by obtain ⟨_,c',hc⟩:=(HI.out.hr.ae hkb (fun _ _ h=>h)).own hv;exact (hkb.ak HI.out.hp (fun h=>h)).ne hc (by decide) rfl);have x0:=hp3.cell 3;have xf:=hp3.free 3;have xl:=hp3.lt;simp only [Lz,Ls] at x0;refine hK _ _ ?_;clear hK K hkb hs3 hk3 ho3 hp3 c3 pl f3;refine aH (fun _=>True) trivial ?_;obtain ⟨vo3,vc3,rfl,-,-,-⟩:=HI3.out.hr.rd
   iterate 2 ((first | refine au rfl rfl fun K hK=>?_ | refine aq rfl rfl fun K hK=>?_);go_simp;refine hK _ ?_;clear hK K)
   refine aJ rfl rfl rfl (fun K hK=>?_);unfold aC;go_simp;refine hK _ _ ?_;clear hK K;refine aH (fun _=>True) trivial (aB ?_);clear x0 xf xl;go_wp2_with fail;go_roundw
   case rel=>exact ⟨k+1,_,by omega,by go_num,HI3.out⟩
   case measure=>simp [intOf];omega
  ·obtain rfl:k=12:=by omega
   have z0:=HI.out.hz.cell 0;have z1:=HI.out.hz.cell 1;have zl:=HI.out.hz.lt;have zf:=HI.out.hz.free 0;have zg:=HI.out.hz.free 1;simp only [Lz,Ls] at z0 z1;have HD:=Hz (HI.out.done HF.out);have HKI:=Hz HI.out.hk;go_wp2_with fail;refine bodyPost_ret (v:=.tuple #[.pointer (some ⟨w2.heap.size+1,0,none⟩), .agg #[.int .i64 0, .int .i64 0]]) (by simp [results,Tryz.results44,go_sem,z0,z1]) rfl ⟨_,rfl,?_,(HKI.out.setCell (p:=⟨w.heap.size,0,none⟩) (.inr (Nat.le_refl _)) _).setCell (p:=⟨w.heap.size,1,none⟩) (.inr (Nat.le_refl _)) _,HD.out.2⟩;have hD:=HD.out.1;have ke:=((ab.refl (·=w.heap.size) wr).setCell (p:=⟨w.heap.size,0,none⟩) (.inl rfl) (.int .i64 0)).setCell (p:=⟨w.heap.size,1,none⟩) (.inl rfl) (.int .i64 0);exact hD.ae ke (fun b hb e=>by
    subst e;have hzz:=HI.out.hz;rcases hb with e | (e | e) | (e | e) | e | e
    ·exact hzz.ne hD.hp (by decide) e
    ·exact hzz.ne hD.ha.hp (by decide) e
    ·exact hzz.ne hD.ha.hg (by decide) e
    ·exact hzz.ne hD.hc.hp (by decide) e
    ·exact hzz.ne hD.hc.hq (by decide) e
    ·exact hD.uz hzz (by decide) (by decide) e
    ·exact hD.j6 hzz (by decide) e)
end
section
open Go.RowKit
def cn {α:Type} (c:Nat) (R:α→List Value→Prop):List α→List Value→Prop
 | [],cs=>cs=[]
 | a :: l,cs=>∃ r rest,cs=r ++ rest∧r.length=c∧R a r∧cn c R l rest
section
variable {α:Type} {c:Nat} {R Q:α→List Value→Prop}
theorem cn.length:∀ {l:List α} {cs:List Value},cn c R l cs→cs.length=l.length*c
 | [],cs,h=>by cases h;simp
 | a :: l,cs,h=>by
  obtain ⟨r,rest,rfl,h1,_,h2⟩:=h;rw [List.length_append,h1,cn.length h2,List.length_cons,Nat.succ_mul];omega
theorem cn.mono {l:List α} (hq:∀ a ∈ l, ∀ r,R a r→Q a r):∀ {cs:List Value},cn c R l cs→cn c Q l cs:=by
 induction l with
 | nil=>intro cs h;exact h
 | cons a l ih=>
  intro cs h;obtain ⟨r,rest,rfl,h1,h2,h3⟩:=h;exact ⟨r,rest,rfl,h1,hq a (by simp) r h2,ih (fun b hb=>hq b (by simp [hb])) h3⟩
theorem cn.app:∀ {l:List α} {cs:List Value} {a:α} {r:List Value},cn c R l cs→r.length=c→R a r→cn c R (l ++ [a]) (cs ++ r)
 | [],cs,a,r,h,h1,h2=>by cases h;exact ⟨r,[],by simp,h1,h2,rfl⟩
 | b :: l,cs,a,r,h,h1,h2=>by
  obtain ⟨r',rest,rfl,h3,h4,h5⟩:=h;exact ⟨r',rest ++ r,by simp,h3,h4,cn.app h5 h1 h2⟩
theorem cn.get:∀ {l:List α} {cs:List Value} {i:Nat} (h:i<l.length),cn c R l cs→∃ r,(cs.drop (i*c)).take c=r∧r.length=c∧R l[i] r
 | a :: l,cs,0,_,h=>by
  obtain ⟨r,rest,rfl,h1,h2,_⟩:=h;exact ⟨r,by simp [←h1],h1,h2⟩
 | a :: l,cs,i+1,hi,h=>by
  obtain ⟨r,rest,rfl,h1,_,h2⟩:=h;obtain ⟨r',e,h3,h4⟩:=cn.get (i:=i) (by simpa using hi) h2;refine ⟨r',?_,h3,h4⟩;rw [←e,Nat.succ_mul,Nat.add_comm,←h1,←List.drop_drop,List.drop_left]
theorem cn.cell {l:List α} {cs:List Value} {i:Nat} (h:i<l.length) (hr:cn c R l cs):∃ r,r.length=c∧R l[i] r∧∀ j,j<c→cs[i*c+j]? = r[j]? := by
 obtain ⟨r,e,h1,h2⟩:=cn.get h hr;refine ⟨r,h1,h2,fun j hj=>?_⟩;rw [←e,List.getElem?_take,if_pos hj,List.getElem?_drop]
theorem cn.set:∀ {l:List α} {cs:List Value} {i:Nat} {a:α} {r:List Value} (_:i<l.length),cn c R l cs→r.length=c→R a r →
  cn c R (l.set i a) (cs.take (i*c) ++ r ++ cs.drop (i*c+c))
 | b :: l,cs,0,a,r,_,h,h1,h2=>by
  obtain ⟨r',rest,rfl,h3,_,h5⟩:=h;refine ⟨r,rest,?_,h1,h2,h5⟩;simp [←h3]
 | b :: l,cs,i+1,a,r,hi,h,h1,h2=>by
  obtain ⟨r',rest,rfl,h3,h4,h5⟩:=h;refine ⟨r',_,?_,h3,h4,cn.set (i:=i) (by simpa using hi) h5 h1 h2⟩;have e:(i+1)*c=r'.length+i*c:=by rw [Nat.succ_mul,h3];omega
  rw [e,List.take_append,List.take_of_length_le (by omega),show r'.length+i*c-r'.length=i*c by omega,show r'.length+i*c+c=r'.length+(i*c+c) by omega,←List.drop_drop,List.drop_left];simp
theorem cn.setCell {l:List α} {cs:List Value} {i j:Nat} {a:α} {u:Value} (h:i<l.length) (hj:j<c) (hr:cn c R l cs) (hR:∀ r,r.length=c→R l[i] r→R a (r.set j u)) :
  cn c R (l.set i a) (cs.set (i*c+j) u):=by
 obtain ⟨r,e,h1,h2⟩:=cn.get h hr;have hlen:=cn.length hr;have hm:i*c+c≤l.length*c:=by rw [←Nat.succ_mul];exact Nat.mul_le_mul_right _ h
 have:=cn.set (a:=a) (r:=r.set j u) h hr (by simpa using h1) (hR r h1 h2);have e2:cs.set (i*c+j) u=cs.take (i*c) ++ r.set j u ++ cs.drop (i*c+c):=by
  apply List.ext_getElem?;intro k;rw [List.getElem?_set];by_cases k1:k<i*c
  ·rw [if_neg (by omega),List.append_assoc,List.getElem?_append_left (by simp;omega),List.getElem?_take,if_pos k1]
  ·by_cases k2:k<i*c+c
   ·rw [List.append_assoc,List.getElem?_append_right (by simp;omega),List.length_take,List.getElem?_append_left (by simp;omega),List.getElem?_set,Nat.min_eq_left (by omega)];by_cases e3:i*c+j=k
    ·rw [if_pos e3,if_pos (by omega),if_pos (by omega),if_pos (by omega)]
    ·rw [if_neg e3,if_neg (by omega),←e,List.getElem?_take,if_pos (by omega),List.getElem?_drop];congr 1;omega
   ·rw [if_neg (by omega),List.getElem?_append_right (by simp;omega),List.getElem?_drop];congr 1;simp;omega
 rw [e2];exact this
end
end
section
open Go.RowKit Go.Maps
theorem Rd.int64 {w:World} {ao:Option Addr} {l:List Int} (h:Rd w ao (l.map (Value.int .i64))) (i:Nat) (hi:i<l.length) :
  ∃ g o,ao=some ⟨g,o,none⟩∧g<w.heap.size∧w.cell? ⟨g,o+i,none⟩=some (.int .i64 (l.getD i 0)):=by
 obtain ⟨g,o,rfl,hg,hc⟩:=h (by intro e;simp at e;subst e;simp at hi);refine ⟨g,o,rfl,hg,?_⟩;rw [hc i (by simpa using hi)];simp [List.getD,hi]
theorem Sl.set {w:World} {e size:Nat} {g o n cap j:Nat} {xs:List Value} {u:Value} (h:Sl w e size (.slice (some ⟨g,o,none⟩) n cap) n xs) (hj:j<n*size) :
  Sl (w.setCell ⟨g,o+j,none⟩ u) e size (.slice (some ⟨g,o,none⟩) n cap) n (xs.set j u):=by
 obtain ⟨hl,⟨h1,_⟩ | ⟨g',o',cap',cur,e1,hb,h1,h2,h3,h4⟩⟩:=h
 ·cases h1
 ·cases e1;refine ⟨by simpa using hl, .inr ⟨g,o,cap,_,rfl,hb.aO _ _,h1,h2,by simpa using h3,?_⟩⟩;rw [←h4];apply List.ext_getElem?;intro k;simp only [List.getElem?_take,List.getElem?_drop,List.getElem?_set,List.length_take,List.length_drop];by_cases hk:k<n*size
  ·rw [if_pos hk,if_pos hk];by_cases e:j=k
   ·subst e;have:n*size≤cap*size:=Nat.mul_le_mul_right _ h1;rw [if_pos rfl,if_pos rfl,if_pos (by omega),if_pos (by omega)]
   ·rw [if_neg (by omega),if_neg e]
  ·rw [if_neg hk,if_neg (by omega)];rw [if_neg hk]
def fL (w:World) (F:Nat→Prop) (nd:Nd) (r:List Value):Prop:=
 ∃ ao cap,r=[.int .i64 nd.1, .slice ao nd.2.length cap]∧Rd w ao (aA nd.2)∧(∀ a,ao=some a→F a.block)∧nd.2.length≤maxLen
theorem fL.ae {w w':World} {F S:Nat→Prop} {nd:Nd} {r:List Value} (h:fL w F nd r) (k:ab S w w') (hn:∀ b,F b→b<w.heap.size→¬ S b):fL w' F nd r:=by
 obtain ⟨ao,cap,e,hr,hf,hc⟩:=h;exact ⟨ao,cap,e,hr.ae k (fun a ha hb=>hn _ (hf a ha) hb),hf,hc⟩
theorem fL.more {w:World} {F F':Nat→Prop} {nd:Nd} {r:List Value} (h:fL w F nd r) (hF:∀ b,F b→F' b):fL w F' nd r:=by
 obtain ⟨ao,cap,e,hr,hf,hc⟩:=h;exact ⟨ao,cap,e,hr,fun a ha=>hF _ (hf a ha),hc⟩
def dR (w:World) (nv:Value) (F:Nat→Prop) (l:List Nd):Prop:=∃ cs,Sl w 139 2 nv l.length cs∧cn 2 (fL w F) l cs
theorem dR.ae {w w':World} {F S:Nat→Prop} {nv:Value} {l:List Nd} (h:dR w nv F l) (k:ab S w w') (hn:∀ b,F b→b<w.heap.size→¬ S b) (hv:∀ b,ai nv b→¬ S b):dR w' nv F l:=by
 obtain ⟨cs,h1,h2⟩:=h;exact ⟨cs,h1.ae k hv,h2.mono (fun a _ r hr=>hr.ae k hn)⟩
theorem dR.nil (w:World) (F:Nat→Prop):dR w (.slice none 0 0) F []:=⟨[],Sl.nil _ _ _,rfl⟩
def eE (w:World) (b:Nat) (met:List Int):Prop:=
 ∃ n D,w.ownsMap (H:=Unit) Tryz.prog 3 (plainElem Tryz.prog 3) b n D∧n≤met.length ∧
  ∀ x:Int,-9223372036854775808≤x→x≤9223372036854775807→Maps.has D (.int .i64 x)=decide (x ∈ met)∧(x ∈ met→D.atKey (.int .i64 x) (.lit (.int .i64 0))=.lit (.int .i64 (met.idxOf x:Nat)))
theorem eE.lt {w:World} {b:Nat} {met:List Int} (h:eE w b met):b<w.heap.size:=by
 obtain ⟨n,D,h,_⟩:=h;exact h.lt
theorem eE.ne {w:World} {b:Nat} {met:List Int} (h:eE w b met) {k:Nat} {c:List Value} {T:TypeId} (hk:ah w k c T):k≠b:=by
 rintro rfl;obtain ⟨n,D,⟨es,clock,hb,_⟩,_⟩:=h;unfold ah at hk;rw [hb] at hk;cases hk
theorem eE.ae {w w':World} {b:Nat} {met:List Int} {S:Nat→Prop} (h:eE w b met) (k:ab S w w') (hn:¬ S b):eE w' b met:=by
 obtain ⟨n,D,⟨es,clock,hb,hr⟩,h2⟩:=h;exact ⟨n,D,⟨es,clock,(k.block b (Array.getElem?_eq_some_iff.1 hb).1 hn).trans hb,hr⟩,h2⟩
theorem eE.made (w:World):eE (w.alloc (.map #[] 0)) w.heap.size []:=
 ⟨0, .map [],World.ownsMap_made _ _ _ _,Nat.le_refl _,fun x _ _=>⟨rfl,fun h=>by cases h⟩⟩
theorem tH {w w':World} {b:Nat} (h:w.grownBy w' (some b)):ab (·=b) w w':=
 ⟨h.os,h.tape,h.output,h.size,fun k hk hn=>h.block k hk (fun e=>hn (by cases e;rfl))⟩
theorem eE.push {w w':World} {b n:Nat} {met:List Int} {x:Int} {D:DataW Unit} (hown:w.ownsMap (H:=Unit) Tryz.prog 3 (plainElem Tryz.prog 3) b n D) (hn:n≤met.length)
  (hD:∀ x:Int,-9223372036854775808≤x→x≤9223372036854775807→Maps.has D (.int .i64 x)=decide (x ∈ met)∧(x ∈ met→D.atKey (.int .i64 x) (.lit (.int .i64 0))=.lit (.int .i64 (met.idxOf x:Nat))))
  (hm:¬ x ∈ met) (h1:w'.ownsMap Tryz.prog 3 (plainElem Tryz.prog 3) b (n+1) (D.put (.int .i64 x) (.lit (.int .i64 (met.length:Nat))))):eE w' b (met ++ [x]):=by
 refine ⟨n+1,_,h1,by simp;omega,fun y y1 y2=>?_⟩;have hM:=hown.isMap;by_cases e:y=x
 ·subst e;refine ⟨by rw [has_put_same hM (show WideAt.IsKeyLit (.int .i64 y) from trivial)];simp,fun _=>?_⟩;rw [atKey_put_same hM (show WideAt.IsKeyLit (.int .i64 y) from trivial),List.idxOf_append,if_neg hm];simp
 ·have hne:(Lit.int .i64 y)≠(Lit.int .i64 x):=fun h=>e (by cases h;rfl);have:=hD y y1 y2;refine ⟨by rw [has_put_other hne,this.1];simp [e],fun hy=>?_⟩;have hy':y ∈ met:=by simpa [e] using hy
  rw [atKey_put_other hne,this.2 hy',List.idxOf_append,if_pos hy']
end
section
open Go.RowKit Go.Maps
theorem qM:Keyed Tryz.prog 3:=int_keyed Tryz.underlying3
theorem sg (w:World):(zeroValue 3).run Tryz.prog w=.ok (.int .i64 0) w:=by kernel_rfl
section
variable {w w':World} {h:WH} {O:Wo}
theorem bp.bB (H:bp w h O) {k:Nat} (hk:h.Own k):∃ c T,ah w k c T∧(T=52∨T=141∨T=2∨T=168∨T=4∨T=133∨T=101):=by
 rcases hk with rfl | (rfl | rfl) | (rfl | rfl) | hk | hk
 ·exact ⟨_,_,H.hp, .inl rfl⟩
 ·exact ⟨_,_,H.ha.hp, .inr (.inl rfl)⟩
 ·exact ⟨_,_,H.ha.hg, .inr (.inr (.inl rfl))⟩
 ·exact ⟨_,_,H.hc.hp, .inr (.inr (.inr (.inl rfl)))⟩
 ·exact ⟨_,_,H.hc.hq, .inr (.inr (.inr (.inr (.inl rfl))))⟩
 ·obtain ⟨c,T,hc,hT⟩:=H.hs.cG hk;rcases hT with rfl | rfl
  ·exact ⟨_,_,hc, .inr (.inr (.inr (.inr (.inr (.inl rfl)))))⟩
  ·exact ⟨_,_,hc, .inr (.inr (.inr (.inr (.inr (.inr rfl)))))⟩
 ·obtain ⟨_,c,hc⟩:=H.hr.own hk;exact ⟨_,_,hc, .inr (.inr (.inl rfl))⟩
structure eJ (w:World) (q:Nat) (h:WH) (O:Wo) (b:Nat) (rv nv:Value) (F:Nat→Prop) (s:VS):Prop where
 hq:ah w q [.pointer (some ⟨h.p,0,none⟩), .map (some b),rv,nv] 118
 hw:bp w h O
 hm:eE w b s.1
 hn:dR w nv F s.2
 hl:s.2.length=s.1.length
 hF:∀ k,F k→k<w.heap.size∧¬ (k=q∨k=b∨ai nv k)
def lz (q b:Nat) (nv:Value) (k:Nat):Prop:=k=q∨k=b∨ai nv k
theorem dR.own {F:Nat→Prop} {nv:Value} {l:List Nd} (h:dR w nv F l) {k:Nat} (hk:ai nv k):k<w.heap.size∧∃ c,ah w k c 139:=by
 obtain ⟨cs,hs,_⟩:=h;exact hs.own hk
variable {q b:Nat} {rv nv:Value} {F:Nat→Prop} {s:VS}
theorem eJ.j7 (V:eJ w q h O b rv nv F s) {k:Nat} (hk:h.Own k):¬ lz q b nv k:=by
 obtain ⟨c,T,hc,hT⟩:=V.hw.bB hk;have hne:T≠118∧T≠139:=by rcases hT with rfl | rfl | rfl | rfl | rfl | rfl | rfl <;> exact ⟨by decide,by decide⟩
 rintro (rfl | rfl | hk2)
 ·exact hc.ne V.hq hne.1 rfl
 ·exact V.hm.ne hc rfl
 ·obtain ⟨_,c',hc'⟩:=V.hn.own hk2;exact hc.ne hc' hne.2 rfl
theorem eJ.lt (V:eJ w q h O b rv nv F s) {k:Nat} (hk:lz q b nv k):k<w.heap.size:=by
 rcases hk with rfl | rfl | hk
 ·exact V.hq.lt
 ·exact V.hm.lt
 ·exact (V.hn.own hk).1
theorem eJ.ei (V:eJ w q h O b rv nv F s) {k:Nat} {c:List Value} {T:TypeId} (hc:ah w k c T) (h1:T≠118) (h2:T≠139):¬ lz q b nv k:=by
 rintro (rfl | rfl | hk2)
 ·exact hc.ne V.hq h1 rfl
 ·exact V.hm.ne hc rfl
 ·obtain ⟨_,c',hc'⟩:=V.hn.own hk2;exact hc.ne hc' h2 rfl
theorem eJ.ae {S:Nat→Prop} (V:eJ w q h O b rv nv F s) (k:ab S w w') (h1:∀ j,lz q b nv j→¬ S j) (h2:∀ j,h.Own j→¬ S j) (h3:∀ j,F j→¬ S j):eJ w' q h O b rv nv F s:=
 ⟨k.ak V.hq (h1 _ (.inl rfl)),V.hw.ae k h2,V.hm.ae k (h1 _ (.inr (.inl rfl))),V.hn.ae k (fun j hj _=>h3 j hj) (fun j hj=>h1 j (.inr (.inr hj))),V.hl,fun j hj=>⟨Nat.lt_of_lt_of_le (V.hF j hj).1 k.size,(V.hF j hj).2⟩⟩
theorem eJ.same (V:eJ w q h O b rv nv F s) (k:ab (fun _=>False) w w'):eJ w' q h O b rv nv F s:=V.ae k (fun _ _ h=>h) (fun _ _ h=>h) (fun _ _ h=>h)
def lA (w:World) (q:Nat) (h:WH) (O:Wo) (b:Nat) (rv nv:Value) (F:Nat→Prop) (s':VS) (w':World):Prop:=
 ∃ nv' F',eJ w' q h O b rv nv' F' s'∧ab (lz q b nv) w w'∧(∀ k,ai nv' k→ai nv k∨w.heap.size≤k)∧∀ k,F' k→F k∨w.heap.size≤k
theorem lA.refl (V:eJ w q h O b rv nv F s) (k:ab (fun _=>False) w w'):lA w q h O b rv nv F s w':=
 ⟨nv,F,V.same k,k.mono (fun _ _ h=>h.elim),fun _ h=>.inl h,fun _ h=>.inl h⟩
def si (w:World) (q:Nat) (h:WH) (O:Wo) (b:Nat) (rv nv:Value) (F:Nat→Prop) (r:Vl × VS) (e:Ending) (w':World):Prop:=
 e=.returned (.agg #[.int .i64 r.1.1, .int .i64 r.1.2])∧lA w q h O b rv nv F r.2 w'
def zS (w:World) (q:Nat) (h:WH) (O:Wo) (b:Nat) (rv nv:Value) (F:Nat→Prop) (n:Nat) (s':VS) (e:Ending) (w':World):Prop:=
 e=.returned (.int .i64 n)∧lA w q h O b rv nv F s' w'
theorem pO {x:Int} (h:x%4≠1):dh x=((eQ x).1,(eQ x).2.1):=if_neg h
theorem pd {x:Int} (h:x%4=1):dh x=(3,x/4):=if_pos h
theorem wI {x:Int} (h:x%4≠1):(dh x).1≠3:=by
 rw [pO h];dsimp only;unfold eQ
 repeat' split
 all_goals (dsimp only;omega)
theorem rj (x:Int) (n:Nat) (V:eJ w q h O b rv nv F s) (hx:br x) (hm:x%4=1→x/4 ∈ s.1) (hl:s.1.length≤1000000) :
  Calls Tryz.prog 65 #[.pointer (some ⟨q,0,none⟩), .int .i64 x] w fun e w'=>si w q h O b rv nv F (valM O.gr n (dh x) s) e w':=by
 have HV:=Hz V;by_cases h1:x%4=1
 ·have HE:=Hz (show valM O.gr n (dh x) s=(iF (s.1.idxOf (x/4)),s) by rw [pd h1];exact fC O.gr n rfl (hm h1));have H1:=Hz h1;have HM:=Hz (hm h1);have r1:-9223372036854775808≤x/4:=by have:=hx.1;omega
  have r2:x/4≤9223372036854775807:=by have:=hx.2;omega
  clear V h1 hm;go_enter Tryz.func65,Tryz.ntmps65;go_wp2_with fail;refine (dt x _ H1.out).mono ?_;rintro e w1 ⟨rfl,rfl⟩;have V1:=Hz (HV.out.same ((Kz w).alloc (.cells #[.int .i64 0, .int .i64 0] 96)));have c1:=V1.out.hq.cell 1;have cl:=V1.out.hq.lt;simp only [Lz,Ls] at c1;obtain ⟨n0,D,hown,hn0,hD⟩:=V1.out.hm;have HD:=Hz (hD (x/4) r1 r2);clear hD;go_wp2_with (at_lookup;refine wpList_lookup_own_ok_int _ rfl _ _ 116 rfl 3 3 .i64 qM Tryz.underlying116 Tryz.underlying3 (sg _) b n0 D rfl hown _ _ rfl (keyOf_int_mk Tryz.underlying3 (WalkArith.wf_i64 (by constructor <;> omega))) ?_);intro c hat hwc;have hat2:=HD.out.2 HM.out;rw [hat] at hat2;obtain rfl:c=(s.1.idxOf (x/4):Nat):=by simpa using hat2
  rw [HD.out.1,decide_eq_true HM.out];clear hat hat2 hwc hown hn0;go_wp2_with fail;refine bodyPost_ret (v:=.agg #[.int .i64 3, .int .i64 (s.1.idxOf (x/4):Nat)]) (by simp [results,Tryz.results65,go_sem]) rfl ?_;refine ⟨by rw [HE.out];rfl,?_⟩;rw [HE.out];exact lA.refl HV.out ((Kz w).alloc _)
 ·have HE:=Hz (show valM O.gr n (dh x) s=(((eQ x).1,(eQ x).2.1),s) by rw [dx O.gr n s (wI h1),pO h1]);have H1:=Hz h1;have HX:=Hz hx;clear V h1 hm hx;go_enter Tryz.func65,Tryz.ntmps65;go_wp2_with fail;refine (kR x _ H1.out).mono ?_;rintro e w1 ⟨rfl,rfl⟩;go_wp2_with fail;refine (xW x _ HX.out.1 HX.out.2).mono ?_;rintro e w1 ⟨rfl,hk⟩;have hka:=(Kz w).alloc (.cells #[.int .i64 0, .int .i64 0] 96);have HKA:=Hz (hka.trans hk);have l0:=(hk.ak (show ah (w.alloc (.cells #[.int .i64 0, .int .i64 0] 96)) w.heap.size [.int .i64 0, .int .i64 0] 96 from ah.newAt _ rfl rfl) (fun h=>h));have L0:=Hz l0;clear hka hk l0;obtain ⟨⟨dk,dn,dc⟩,hd⟩:∃ t,eQ x=t:=⟨_,rfl⟩;rw [hd] at HE ⊢;clear hd;dsimp only at HE ⊢;have l0:=L0.out.cell 0;have l1:=L0.out.cell 1;have ll:=L0.out.lt;have f0:=L0.out.free 0;have f1:=L0.out.free 1;simp only [Lz,Ls] at l0 l1;go_wp2_with fail;have da:=((L0.out.aO 0 (.int .i64 dk)).aO 1 (.int .i64 dn)).alloc (.cells #[.int .i64 dk, .int .i64 dn] 96);have x0:=da.cell 0;have x1:=da.cell 1;simp only [List.set_cons_zero,List.set_cons_succ,Lz,Ls] at x0 x1;refine bodyPost_ret (v:=.agg #[.int .i64 dk, .int .i64 dn]) (by simp [results,Tryz.results65,go_sem,x0,x1]) rfl ?_;refine ⟨by rw [HE.out],?_⟩;rw [HE.out];exact lA.refl HV.out (((HKA.out.setCell (p:=⟨w.heap.size,0,none⟩) (.inr (Nat.le_refl _)) _).setCell (p:=⟨w.heap.size,1,none⟩) (.inr (Nat.le_refl _)) _).alloc _)
structure dJ (w:World) (q:Nat) (h:WH) (O:Wo) (b:Nat) (rv nv:Value) (F:Nat→Prop) (s:VS) (lv:Value) (l:List Vl) (wr:World) (nv':Value) (F':Nat→Prop):Prop where
 V:eJ wr q h O b rv nv' F' s
 K:ab (lz q b nv) w wr
 o1:∀ k,ai nv' k→ai nv k∨w.heap.size≤k
 o2:∀ k,F' k→F k∨w.heap.size≤k
 L:Sl wr 96 2 lv l.length (aA l)
 o3:∀ k,ai lv k→w.heap.size≤k∧¬ F' k
theorem dJ.l8 {lv:Value} {l:List Vl} {wr:World} {nv':Value} {F':Nat→Prop} (I:dJ w q h O b rv nv F s lv l wr nv' F') {k:Nat} (hk:ai lv k):¬ lz q b nv' k∧¬ h.Own k:=by
 obtain ⟨_,c,hc⟩:=I.L.own hk;constructor
 ·rintro (rfl | rfl | h1)
  ·exact hc.ne I.V.hq (by decide) rfl
  ·exact I.V.hm.ne hc rfl
  ·obtain ⟨_,c',hc'⟩:=I.V.hn.own h1;exact hc.ne hc' (by decide) rfl
 ·intro h1;obtain ⟨c',T,hc',hT⟩:=I.V.hw.bB h1;rcases hT with rfl | rfl | rfl | rfl | rfl | rfl | rfl <;> exact hc.ne hc' (by decide) rfl
theorem dJ.told {lv:Value} {l:List Vl} {wr w2:World} {nv':Value} {F':Nat→Prop} {s2:VS} (I:dJ w q h O b rv nv F s lv l wr nv' F') (t:lA wr q h O b rv nv' F' s2 w2):∃ nv2 F2,dJ w q h O b rv nv F s2 lv l w2 nv2 F2:=by
 obtain ⟨nv2,F2,V2,k2,p1,p2⟩:=t;refine ⟨nv2,F2,V2,I.K.then k2 (fun j hj=>?_),fun j hj=>?_,fun j hj=>?_,I.L.ae k2 (fun j hj=>(I.l8 hj).1),fun j hj=>⟨(I.o3 j hj).1,fun hf=>?_⟩⟩
 ·rcases hj with rfl | rfl | hj
  ·exact .inl (.inl rfl)
  ·exact .inl (.inr (.inl rfl))
  ·rcases I.o1 j hj with h | h
   ·exact .inl (.inr (.inr h))
   ·exact .inr h
 ·rcases p1 j hj with h | h
  ·exact I.o1 j h
  ·exact .inr (Nat.le_trans I.K.size h)
 ·rcases p2 j hj with h | h
  ·exact I.o2 j h
  ·exact .inr (Nat.le_trans I.K.size h)
 ·rcases p2 j hf with h | h
  ·exact (I.o3 j hj).2 h
  ·have:=(I.L.own hj).1;omega
theorem dJ.app {lv:Value} {l:List Vl} {wr wa w2:World} {nv' lv2:Value} {F':Nat→Prop} {v:Vl} (I:dJ w q h O b rv nv F s lv l wr nv' F') (ka:ab (fun _=>False) wr wa)
  (hs:Sl w2 96 2 lv2 (l.length+1) (aA l ++ [.int .i64 v.1, .int .i64 v.2])) (hk:ab (ai lv) wa w2) (ho:∀ k,ai lv2 k→ai lv k∨wa.heap.size≤k):dJ w q h O b rv nv F s lv2 (l ++ [v]) w2 nv' F':=by
 have k2:=(ka.mono (T:=ai lv) (fun _ _ h=>h.elim)).trans hk;refine ⟨I.V.ae k2 (fun j hj hl=>(I.l8 hl).1 hj) (fun j hj hl=>(I.l8 hl).2 hj) (fun j hj hl=>(I.o3 j hl).2 hj),I.K.then k2 (fun j hj=>.inr (I.o3 j hj).1),I.o1,I.o2,?_,fun j hj=>?_⟩
 ·have e:aA (l ++ [v])=aA l ++ [.int .i64 v.1, .int .i64 v.2]:=by simp [aA]
  rw [e,List.length_append];exact hs
 ·rcases ho j hj with h1 | h1
  ·exact I.o3 j h1
  ·have:=ka.size;have:=I.K.size;exact ⟨by omega,fun hf=>by have:=(I.V.hF j hf).1;omega⟩
theorem dJ.same {lv:Value} {l:List Vl} {wr w2:World} {nv':Value} {F':Nat→Prop} (I:dJ w q h O b rv nv F s lv l wr nv' F') (k:ab (fun _=>False) wr w2):dJ w q h O b rv nv F s lv l w2 nv' F':=
 ⟨I.V.same k,I.K.trans (k.mono (fun _ _ h=>h.elim)),I.o1,I.o2,I.L.ae k (fun _ _ h=>h),I.o3⟩
theorem eJ.push {x:Int} {kd:Int} {wm wa w2:World} {nv2:Value} (V:eJ w q h O b rv nv F s) (hm:eE wm b (s.1 ++ [x])) (km:ab (·=b) w wm) (ka:ab (fun _=>False) wm wa)
  (cs:List Value) (hcs:cn 2 (fL w F) s.2 cs)
  (hs:Sl w2 139 2 nv2 (s.2.length+1) (cs ++ [.int .i64 kd, .slice none 0 0])) (hk:ab (ai nv) wa w2) (ho:∀ k,ai nv2 k→ai nv k∨wa.heap.size≤k) :
  lA w q h O b rv nv F (s.1 ++ [x],s.2 ++ [(kd,[])]) (w2.setCell ⟨q,3,none⟩ nv2):=by
 have K1:ab (lz q b nv) w w2:=((km.mono (fun j _ hj=>.inr (.inl hj))).trans (ka.mono (fun _ _ h=>h.elim))).trans (hk.mono (fun j _ hj=>.inr (.inr hj)));have K2:=K1.setCell (p:=⟨q,3,none⟩) (.inl (.inl rfl)) nv2;have hsz:=km.size;have hsz2:=ka.size;have hsz3:=hk.size;have nq:¬ ai nv q:=fun hq=>by obtain ⟨_,c,hc⟩:=V.hn.own hq;exact V.hq.ne hc (by decide) rfl
 have nb:¬ ai nv b:=fun hq=>by obtain ⟨_,c,hc⟩:=V.hn.own hq;exact V.hm.ne hc rfl
 have qb:q≠b:=V.hm.ne V.hq;have hq2:=hk.ak (ka.ak (km.ak V.hq qb) (fun h=>h)) nq;have ne2:∀ k,ai nv2 k→k≠q:=fun k hk2 e=>by
  obtain ⟨_,c,hc⟩:=hs.own hk2;exact hc.ne hq2 (by decide) e
 have setk:=(ab.refl (·=q) w2).setCell (p:=⟨q,3,none⟩) (.inl rfl) nv2;refine ⟨nv2,F,⟨by simpa using hq2.aO 3 nv2,V.hw.ae K2 (fun j hj=>V.j7 hj),?_,⟨_,by rw [List.length_append];exact hs.ae setk ne2,?_⟩,by simp [V.hl],fun j hj=>⟨?_,?_⟩⟩,K2,fun j hj=>?_,fun j hj=>.inl hj⟩
 ·exact (hm.ae (ka.mono (T:=ai nv) (fun _ _ h=>h.elim) |>.trans hk) nb).ae setk (Ne.symm qb)
 ·refine cn.app (hcs.mono (fun a _ r hr=>hr.ae K2 (fun j hj _=>(V.hF j hj).2))) rfl ?_;exact ⟨none,0,rfl,Rd.nil _ _,(fun a ha=>by cases ha),Nat.zero_le _⟩
 ·have:=(V.hF j hj).1;have:=K2.size;omega
 ·rintro (e | e | e)
  ·exact (V.hF j hj).2 (.inl e)
  ·exact (V.hF j hj).2 (.inr (.inl e))
  ·rcases ho j e with h1 | h1
   ·exact (V.hF j hj).2 (.inr (.inr h1))
   ·have:=(V.hF j hj).1;omega
 ·rcases ho j hj with h1 | h1
  ·exact .inl h1
  ·exact .inr (by omega)
theorem dJ.done {lv:Value} {l:List Vl} {wr:World} {nv':Value} {F':Nat→Prop} {kd:Int} {n:Nat} {g o cap:Nat} {ao:Option Addr} {lc:Nat} (hlv:lv=.slice ao l.length lc) (I:dJ w q h O b rv nv F s lv l wr nv' F')
  (hnv:nv'=.slice (some ⟨g,o,none⟩) s.2.length cap) (hn:s.2[n]? = some (kd,[])):lA w q h O b rv nv F (s.1,s.2.set n (kd,l)) (wr.setCell ⟨g,o+n*2+1,none⟩ lv):=by
 subst hnv hlv;have hlt:n<s.2.length:=(List.getElem?_eq_some_iff.1 hn).1;have hgo:ai (.slice (some ⟨g,o,none⟩) s.2.length cap) g:=rfl;have hne:=fun k hk=>I.l8 (k:=k) hk;have setk:=(ab.refl (·=g) wr).setCell (p:=⟨g,o+n*2+1,none⟩) (.inl rfl) (.slice ao l.length lc);have K2:ab (lz q b nv) w (wr.setCell ⟨g,o+n*2+1,none⟩ (.slice ao l.length lc)):=I.K.setCell (p:=⟨g,o+n*2+1,none⟩) (by
  rcases I.o1 g hgo with h1 | h1
  ·exact .inl (.inr (.inr h1))
  ·exact .inr h1) _
 obtain ⟨cs,hs,hr⟩:=I.V.hn;have hgq:¬ q=g:=fun e=>by
  obtain ⟨_,c,hc⟩:=hs.own hgo;exact I.V.hq.ne hc (by decide) e
 have hgb:¬ b=g:=fun e=>by
  obtain ⟨_,c,hc⟩:=hs.own hgo;exact I.V.hm.ne hc e.symm
 obtain ⟨ao',cap',e1,hrd,hcm,hnc⟩:=I.L.rd;cases e1;have hlF:∀ k,ai (.slice ao l.length lc) k→¬ k=g:=fun k hk e=>by
  subst e;exact (hne _ hk).1 (.inr (.inr hgo))
 refine ⟨.slice (some ⟨g,o,none⟩) s.2.length cap,fun k=>F' k∨ai (.slice ao l.length lc) k,⟨setk.ak I.V.hq hgq,I.V.hw.ae setk (fun j hj e=>?_),I.V.hm.ae setk hgb,?_,by simp [I.V.hl],fun j hj=>?_⟩,K2,I.o1,fun j hj=>?_⟩
 ·subst e;exact I.V.j7 hj (.inr (.inr hgo))
 ·have hsl:(s.2.set n (kd,l)).length=s.2.length:=by simp
  refine ⟨cs.set (n*2+1) (.slice ao l.length lc),?_,?_⟩
  ·rw [hsl];exact hs.set (j:=n*2+1) (by omega)
  ·have hr':cn 2 (fL (wr.setCell ⟨g,o+n*2+1,none⟩ (.slice ao l.length lc)) (fun k=>F' k∨ai (.slice ao l.length lc) k)) s.2 cs:=
    hr.mono (fun a _ r h1=>(h1.ae setk (fun j hj _ e=>by subst e;exact (I.V.hF j hj).2 (.inr (.inr hgo)))).more (fun j hj=>.inl hj))
   refine cn.setCell hlt (by decide) hr' (fun r h2 h3=>?_);have e2:s.2[n]=(kd,[]):=by rw [Le hlt] at hn;exact Option.some.inj hn
   rw [e2] at h3;obtain ⟨_,_,rfl,-⟩:=h3;refine ⟨ao,lc,rfl,hrd.ae setk (fun a ha _ e=>?_),fun a ha=>.inr ?_,hcm⟩
   ·subst ha;exact hlF a.block rfl e
   ·subst ha;rfl
 ·rcases hj with hj | hj
  ·exact ⟨Nat.lt_of_lt_of_le (I.V.hF j hj).1 setk.size,(I.V.hF j hj).2⟩
  ·exact ⟨Nat.lt_of_lt_of_le (I.L.own hj).1 setk.size,(hne j hj).1⟩
 ·rcases hj with hj | hj
  ·exact I.o2 j hj
  ·exact .inr (I.o3 j hj).1
end
end
section
open Go.RowKit Go.Maps
theorem cZ {T:TypeId} {z:Option Value} {s b:Nat} (h:(Tryz.prog.info? T).map (fun i=>(i.zero,i.size,i.bytes))=some (z,s,b)):∃ i,Tryz.prog.info? T=some i∧i.zero=z∧i.size=s∧i.bytes=b:=by
 cases hx:Tryz.prog.info? T with
 | none=>rw [hx] at h;cases h
 | some i=>rw [hx] at h;simp at h;exact ⟨i,rfl,h.1,h.2.1,h.2.2⟩
theorem rk:(Tryz.prog.info? 139).map (fun i=>(i.zero,i.size,i.bytes))=some (some (.agg #[.int .i64 0, .slice none 0 0]),2,32):=by kernel_rfl
theorem iG:(Tryz.prog.info? 96).map (fun i=>(i.zero,i.size,i.bytes))=some (some (.agg #[.int .i64 0, .int .i64 0]),2,16):=by kernel_rfl
section
variable {h:WH} {O:Wo} {q b:Nat} {rv:Value}
def ve (h:WH) (O:Wo) (q b:Nat) (rv:Value) (n:Nat):Prop:=∀ (x:Int) (nv:Value) (F:Nat→Prop) (s:VS) (w:World),eJ w q h O b rv nv F s→br x→(x%4=1→x/4 ∈ O.univ)→dz O.univ s.1≤n→s.1.length+dz O.univ s.1≤5000 →
 Calls Tryz.prog 65 #[.pointer (some ⟨q,0,none⟩), .int .i64 x] w fun e w'=>si w q h O b rv nv F (valM O.gr n (dh x) s) e w'
def NS (G:Gr) (n:Nat) (x:Int) (s:VS) (j:Nat):List Vl × VS:=fldM (valM G n) ((G x).2.take j) (s.1 ++ [x],s.2 ++ [((G x).1,[])])
theorem uC (G:Gr) (n:Nat) (x:Int) (s:VS):NS G n x s 0=([],(s.1 ++ [x],s.2 ++ [((G x).1,[])])):=rfl
theorem nX (G:Gr) (n:Nat) (x:Int) (s:VS) {j:Nat} {v:Vl} (h:(G x).2[j]? = some v):NS G n x s (j+1)=((NS G n x s j).1 ++ [(valM G n v (NS G n x s j).2).1],(valM G n v (NS G n x s j).2).2):=by
 unfold NS;rw [List.take_add_one,h,Option.toList_some,lW]
 rfl
theorem pP (G:Gr) (n:Nat) (x:Int) (s:VS) {j:Nat} (h:j≤(G x).2.length):(NS G n x s j).1.length=j:=by
 unfold NS;rw [lX,List.length_take];omega
theorem BO {O:Wo} (hO:O.ok) {n:Nat} {x:Int} {s:VS} (hx:x ∈ O.univ) (j:Nat) (h:dz O.univ (s.1 ++ [x])≤n) (hc:(s.1 ++ [x]).length+dz O.univ (s.1 ++ [x])≤5000) :
  dz O.univ (NS O.gr n x s j).2.1≤n∧(NS O.gr n x s j).2.1.length+dz O.univ (NS O.gr n x s j).2.1≤5000:=by
 have I:=Wo.rh hO;unfold NS;obtain ⟨m,hm⟩:=lY (lZ O.gr n) ((O.gr x).2.take j) (s.1 ++ [x],s.2 ++ [((O.gr x).1,[])]);have h1:=qI O.univ (s.1 ++ [x]) m;have h2:=gX (f:=valM O.gr n) (U:=O.univ) (j5 I n) ((O.gr x).2.take j) (s.1 ++ [x],s.2 ++ [((O.gr x).1,[])]) (fun v hv=>I.shut x hx v (List.mem_of_mem_take hv));rw [hm] at h2 ⊢;dsimp only at h2 ⊢;exact ⟨by omega,by omega⟩
theorem yi {O:Wo} {x:Int} {j:Nat} (h:j<(O.ar.aj x).2.1.toNat):(O.gr x).2[j]? = some (dh (O.ar.load (x+1+j))):=by
 unfold Wo.gr;dsimp only;rw [List.getElem?_append_left (by simp [Ar.fields];omega),List.getElem?_map];unfold Ar.fields;rw [List.getElem?_map,List.getElem?_range h]
 rfl
theorem zT {O:Wo} {x:Int} {j:Nat} (hk:(O.ar.aj x).1=5) (h:j<(eZ O.wt (4*x+1)).length):(O.gr x).2[(O.ar.aj x).2.1.toNat+j]? = some (dh ((eZ O.wt (4*x+1)).getD j 0)):=by
 have e:((O.ar.fields x).map dh).length=(O.ar.aj x).2.1.toNat:=by simp [Ar.fields]
 unfold Wo.gr;dsimp only;rw [if_pos hk,List.getElem?_append_right (by rw [e];omega),e,show (O.ar.aj x).2.1.toNat+j-(O.ar.aj x).2.1.toNat=j by omega,List.getElem?_map,Le h];simp [List.getD,h]
theorem AU {O:Wo} {x:Int}:(O.gr x).2.length=(O.ar.aj x).2.1.toNat+if (O.ar.aj x).1=5 then (eZ O.wt (4*x+1)).length else 0:=by
 unfold Wo.gr;simp only [List.length_append,List.length_map,Ar.fields,List.length_range];split <;> simp
theorem uD (G:Gr) (n:Nat) (x:Int) (s:VS) (j:Nat) (hl:s.2.length=s.1.length):(NS G n x s j).2.2[s.1.length]? = some ((G x).1,[]):=by
 unfold NS;rw [l4 (j4 G n) (lZ G n) (vd G n) _ _ (by simp [hl]) s.1.length (by simp)];simp [←hl]
theorem tI {A:Ar} {x:Int} (h:(A.aj x).1=5):(A.aj x).2.1=0∧(A.aj x).2.2=0:=by
 unfold Ar.aj eW at *;split at h
 ·rename_i hf;rw [if_pos hf];dsimp only at h ⊢;rw [h] at hf;simp [bs] at hf;exact ⟨hf,rfl⟩
 ·cases h
theorem AV (n:Nat) (ih:ve h O q b rv n) (x:Int) (nv:Value) (F:Nat→Prop) (s:VS) (w:World) (V:eJ w q h O b rv nv F s) (x0:-2305843009213693952≤x) (x1:x≤2305843009213693951) (hx:x ∈ O.univ) (hm:¬ x ∈ s.1)
  (hu:dz O.univ s.1≤n+1) (hc:s.1.length+dz O.univ s.1≤5000) :
  Calls Tryz.prog 130 #[.pointer (some ⟨q,0,none⟩), .int .i64 x] w fun e w'=>zS w q h O b rv nv F s.1.length (valM O.gr (n+1) (3,x) s).2 e w':=by
 have HV:=Hz V;have HNEW:=Hz (fD O.gr n (v:=(3,x)) rfl hm);have HM:=Hz hm;have HX:=Hz hx;have hp:=jw hx hm;have HU:=Hz (show dz O.univ (s.1 ++ [x])≤n by omega);have HC:=Hz (show (s.1 ++ [x]).length+dz O.univ (s.1 ++ [x])≤5000 by rw [List.length_append];simp;omega);have hl5:s.1.length≤5000:=by omega
 obtain ⟨ni,hi,hz0,hz1,hz2⟩:=cZ rk;have Ni:=Hz hi;have Nz0:=Hz hz0;have Nz1:=Hz hz1;have Nz2:=Hz hz2;clear hi hz0 hz1 hz2;obtain ⟨vi,hi,hz0,hz1,hz2⟩:=cZ iG;have Vi:=Hz hi;have Vz0:=Hz hz0;have Vz1:=Hz hz1;have Vz2:=Hz hz2;clear hi hz0 hz1 hz2;obtain ⟨cs,hsl,hcs⟩:=V.hn;obtain ⟨no,nc,rfl,-,hnm,-⟩:=hsl.rd;have HSL:=Hz hsl;have HCS:=Hz hcs;have HLL:=Hz V.hl;have hs5:s.2.length≤5000:=by rw [V.hl];exact hl5
 obtain ⟨n0,D,hown,hn0,hD⟩:=V.hm;have c3:=V.hq.cell 3;have cl:=V.hq.lt;have c1:=V.hq.cell 1;have c0:=V.hq.cell 0;simp only [Lz,Ls] at c3 c1 c0;have HD:=Hz hD;clear V hm hp hu hc hsl hcs hD hnm;go_enter Tryz.func130,Tryz.ntmps130;go_wp2_with (at_mapUpdate;refine wpList_mapUpdate_own _ rfl _ _ _ 116 rfl 3 3 qM Tryz.underlying116 _ b n0 D rfl hown (by unfold maxLen;omega) _ _ _ rfl rfl (keyOf_int_mk Tryz.underlying3 (WalkArith.wf_i64 (by constructor <;> omega))) _ [] (plainElem_int Tryz.underlying3 (WalkArith.wf_i64 (by constructor <;> omega))) ?_);intro wm hown1 hgrow;have hsee:=eE.push (w:=w) (w':=wm) hown hn0 HD.out HM.out (by rw [←HLL.out];exact hown1);have KM:=Hz (tH hgrow);have HSEE:=Hz hsee;have Wm:=HV.out.hw.ae KM.out (fun j hj e=>HV.out.j7 hj (.inr (.inl e)));have HWM:=Hz Wm;have hqm:=KM.out.ak HV.out.hq (HV.out.hm.ne HV.out.hq);have HQM:=Hz hqm;have c3:=hqm.cell 3;have cl:=hqm.lt;have c0:=hqm.cell 0;simp only [Lz,Ls] at c3 c0;obtain ⟨d0,-,d2,-⟩:=Wm.dZ;have dl:=Wm.hp.lt;clear hown hown1 hgrow hn0 hsee Wm hqm c1;go_wp2_with fail;refine (gz x _ HWM.out.ha).mono ?_;rintro e w2 ⟨rfl,rfl⟩;obtain ⟨⟨kd,nf,kc⟩,hT⟩:∃ t,O.ar.aj x=t:=⟨_,rfl⟩;have HT:=Hz hT;have hnf:=O.ar.aU x;rw [hT] at hnf ⊢;dsimp only at hnf ⊢;clear hT;go_wp2_with (at_builtin;refine bN rfl (.tmp 43) (.tmp 46) 39 rfl 139 ni (.agg #[.int .i64 0, .slice none 0 0]) 2 32 Tryz.underlying39 Ni.out Nz0.out Nz1.out Nz2.out rfl (by decide) _ s.2.length cs rfl ((HSL.out.ae KM.out (fun j hj e=>by subst e;obtain ⟨_,c,hc⟩:=HSL.out.own hj;exact HV.out.hm.ne hc rfl)).ae ((Kz wm).alloc _) (fun _ _ h=>h)) ⟨wm.heap.size,0,none⟩ 1 1 [.int .i64 kd, .slice none 0 0] rfl rfl (bW wm 139 #[.int .i64 kd, .slice none 0 0]) (by intro u hu;simp at hu;rcases hu with rfl | rfl <;> rfl) (by unfold maxLen;omega) (by omega) ?_);intro v2 w2 hs2 hk2 ho2;have hka:=(Kz wm).alloc (.cells #[.int .i64 kd, .slice none 0 0] 139);have HT2:=Hz (HV.out.push (x:=x) (kd:=kd) HSEE.out KM.out hka cs HCS.out hs2 hk2 (by simpa using ho2));have nq:¬ ai (.slice no s.2.length nc) q:=fun hq=>by obtain ⟨_,c,hc⟩:=HSL.out.own hq;exact HV.out.hq.ne hc (by decide) rfl
 have hq2:=hk2.ak (hka.ak HQM.out (fun h=>h)) nq;have x3:=hq2.cell 3;have xl:=hq2.lt;have xf:=hq2.free 3;simp only [Lz,Ls] at x3;obtain ⟨vo2,vc2,rfl,-,-,-⟩:=hs2.rd;clear hs2 hk2 ho2 hka nq hq2 c3 c0 cl d0 d2 dl;go_wp2_with fail;have HI:=Hz (show ∃ nv1 F1,dJ w q h O b rv (.slice no s.2.length nc) F (s.1 ++ [x],s.2 ++ [(kd,[])]) (.slice none 0 0) [] (w2.setCell ⟨q,3,none⟩ (.slice vo2 (s.2.length+1) vc2)) nv1 F1 by
  obtain ⟨nv1,F1,V1,k1,p1,p2⟩:=HT2.out
  exact ⟨nv1,F1,V1,k1,p1,p2,Sl.nil _ _ _,fun k hk=>(bM hk).elim⟩)
 clear HT2 x3 xl xf;generalize w2.setCell ⟨q,3,none⟩ (.slice vo2 (s.2.length+1) vc2)=w3 at *;have hkd:(O.gr x).1=kd:=by show (O.ar.aj x).1=kd;rw [HT.out]
 have HNF:=Hz (show ∀ j:Nat,(j:Int)<nf→(O.gr x).2[j]? = some (dh (O.ar.load (x+1+j))) from fun j hj=>yi (by rw [HT.out];dsimp only;omega));have HLEN:=Hz (show (O.gr x).2.length=nf.toNat+if kd=5 then (eZ O.wt (4*x+1)).length else 0 by rw [AU,HT.out]);have HKP:=Hz (fun j=>uD O.gr n x s j HLL.out);have HUN:=Hz (fun j=>BO HV.out.hw.ok HX.out j HU.out HC.out);obtain ⟨f,rfl⟩:∃ f:Nat,nf=f:=⟨nf.toNat,by omega⟩;have HI0:=Hz (show ∃ nv1 F1,dJ w q h O b rv (.slice no s.2.length nc) F (NS O.gr n x s 0).2 (.slice none 0 0) (NS O.gr n x s 0).1 w3 nv1 F1 by rw [uC,hkd];exact HI.out);have HKD:=Hz hkd;clear HI hkd;have ih':=Hz ih;go_loopw [9,52] (fun lv i wr=>∃ (j:Nat) (nv1:Value) (F1:Nat→Prop),j≤f∧i=.int .i64 j∧dJ w q h O b rv (.slice no s.2.length nc) F (NS O.gr n x s j).2 lv (NS O.gr n x s j).1 wr nv1 F1) (fun _ i _=>f-(intOf i).toNat)
 case atStart=>
  obtain ⟨nv1,F1,hI⟩:=HI0.out;exact ⟨0,nv1,F1,Nat.zero_le _,rfl,hI⟩
 case round=>
  clear HI0;obtain ⟨j,nv1,F1,hj,rfl,hI⟩:=hrel;have HI:=Hz hI;by_cases hlt:j<f
  ·have HST:=Hz (nX O.gr n x s (HNF.out j (by omega)));have hjl:=pP O.gr n x s (j:=j) (by rw [HLEN.out];omega);have HJL:=Hz hjl;have c0:=hI.V.hq.cell 0;have cl:=hI.V.hq.lt;obtain ⟨d0,-,-,-⟩:=hI.V.hw.dZ;have dl:=hI.V.hw.hp.lt;simp only [Lz,Ls] at c0;obtain ⟨lo,lc,rfl,-,-,-⟩:=hI.L.rd;rw [hjl] at HI ⊢;clear hI hjl;go_wp2_with fail;refine (eD (x+1+j) _ HI.out.V.hw.ha).mono ?_;rintro e w4 ⟨rfl,rfl⟩;have HLR:=Hz (HV.out.hw.ok.ha.load (x+1+j));have HLU:=Hz (Wo.q9 HV.out.hw.ok (x+1+j));generalize O.ar.load (x+1+j)=y at *;go_wp2_with fail;refine (ih'.out y nv1 F1 _ _ HI.out.V HLR.out (fun _=>HLU.out) (HUN.out j).1 (HUN.out j).2).mono ?_;rintro e w4 ⟨rfl,ht⟩;obtain ⟨nv2,F2,hI2⟩:=HI.out.told ht;obtain ⟨⟨⟨r1,r2⟩,sr⟩,hr⟩:∃ t,valM O.gr n (dh y) (NS O.gr n x s j).2=t:=⟨_,rfl⟩;rw [hr] at hI2 HST ⊢;dsimp only at hI2 HST ⊢;have HI2:=Hz hI2;have HL2:=Hz (show Sl w4 96 2 (.slice lo j lc) j (aA (NS O.gr n x s j).1) by have:=hI2.L;rw [HJL.out] at this;exact this);clear hI2 ht c0 cl d0 dl hr;go_wp2_with (at_builtin;refine bN rfl (.tmp 55) (.tmp 70) 38 rfl 96 vi (.agg #[.int .i64 0, .int .i64 0]) 2 16 Tryz.underlying38 Vi.out Vz0.out Vz1.out Vz2.out rfl (by decide) _ j (aA (NS O.gr n x s j).1) rfl (HL2.out.ae ((Kz w4).alloc _) (fun _ _ h=>h)) ⟨w4.heap.size,0,none⟩ 1 1 [.int .i64 r1, .int .i64 r2] rfl rfl (bW w4 96 #[.int .i64 r1, .int .i64 r2]) (by intro u hu;simp at hu;rcases hu with rfl | rfl <;> rfl) (by unfold maxLen;omega) (by omega) ?_);intro v5 w5 hs5 hk5 ho5;have HI5:=Hz (HI2.out.app (v:=(r1,r2)) ((Kz w4).alloc _) (by rw [HJL.out];exact hs5) hk5 (by simpa using ho5));clear hs5 hk5 ho5;go_wp2_with fail;go_roundw
   case rel=>exact ⟨j+1,nv2,F2,by omega,by go_num,by rw [HST.out];exact HI5.out⟩
   case measure=>simp [intOf];omega
  ·obtain rfl:j=f:=by omega
   clear hlt hj;by_cases hk5:kd=5
   ·subst hk5;have hg:=tI (A:=O.ar) (x:=x) (by rw [HT.out]);rw [HT.out] at hg;dsimp only at hg;obtain rfl:j=0:=by omega
    obtain rfl:kc=0:=hg.2;have hux:=HV.out.hw.ok.ha.i6 (O.ar.mV (i:=x) (by rw [HT.out]));have h4:=HV.out.hw.ok.ha.h4;rw [if_pos rfl] at HLEN;have HGW:=Hz (fun (j:Nat) (hj:j<(eZ O.wt (4*x+1)).length)=>by have:=zT (O:=O) (x:=x) (by rw [HT.out]) hj;rw [HT.out] at this;exact this);have hwl:(eZ O.wt (4*x+1)).length≤24:=by have h1:=wE (4*x+1) O.wt;have h2:=HV.out.hw.ok.hq;unfold eZ;unfold kv at h1;omega
    have hgl:O.rg.length≤1000000:=by have h2:=HV.out.hw.ok.hq;omega
    have hwl2:O.wt.length≤1000000:=by have h2:=HV.out.hw.ok.hq;omega
    have c0:=hI.V.hq.cell 0;have cl:=hI.V.hq.lt;obtain ⟨-,-,d2,-⟩:=hI.V.hw.dZ;have dl:=hI.V.hw.hp.lt;simp only [Lz,Ls] at c0;clear hg hI;go_wp2_with fail;refine ay (.free 0 (.free 1 (.free 2 (.free 7 (.free 11 (.pure 3 (.free 4 (.free 5 (.pure 6 (.run 8 (.run 9 (.swi [] (.free 10 (.fin)))))))))))))) [9,10] (fun w'=>w'.cell? ⟨q,0,none⟩=some (.pointer (some ⟨h.p,0,none⟩))∧w'.cell? ⟨h.p,2,none⟩=some (.pointer (some ⟨h.ps,0,none⟩))) (by kernel_rfl) (by kernel_rfl) ⟨c0,d2⟩ ?_
    iterate 9 ((first | refine au rfl rfl fun K hK=>?_ | refine aq rfl rfl fun K hK=>?_ | refine aF rfl rfl fun K hK=>?_ | refine az rfl rfl fun K hK=>?_ | refine aE rfl rfl fun K hK=>?_);go_simp;refine hK _ ?_;clear hK K)
    refine aM rfl rfl (fun K hK=>?_);unfold aC;go_simp;refine (zp x _ (by omega) (by omega)).mono ?_;rintro e w4 ⟨rfl,rfl⟩;refine hK _ _ (fun h=>h) ?_;clear hK K;refine aJ rfl rfl rfl (fun K hK=>?_);unfold aC;go_simp;refine (Cx h.ps _ _ _ _ (4*x+1) _ (HI.out.same (Kz wr).drew).V.hw.hs hwl2).mono ?_;rintro e w4 ⟨ao,ac,rfl,hs4,hk4,ho4⟩;have hI4:=HI.out.same ((Kz wr).drew.trans hk4);have HI4:=Hz hI4;have HS4:=Hz hs4;have HO4:Hid (∀ k,ai (.slice ao (kv (4*x+1) O.wt).length ac) k→wr.heap.size≤k):=fun k hk=>ho4 k hk;refine hK _ _ ?_;clear hK K hs4 hk4 ho4 hI4 c0 cl d2 dl;refine aH (fun _=>True) trivial ?_
    iterate 1 ((first | refine au rfl rfl fun K hK=>?_ | refine aq rfl rfl fun K hK=>?_);go_simp;refine hK _ ?_;clear hK K)
    refine aB ?_;have hLW:kv (4*x+1) O.wt=eZ O.wt (4*x+1):=rfl;rw [hLW] at HS4 HO4 ⊢;have HRW:=Hz (show ∀ y ∈ eZ O.wt (4*x+1),br y from fun y hy=>by
     unfold eZ at hy;obtain ⟨e,he,rfl⟩:=List.mem_map.1 hy
     exact (HV.out.hw.ok.hw e (List.mem_filter.1 he).1).2)
    have HRU:=Hz (show ∀ y ∈ eZ O.wt (4*x+1),y/4 ∈ O.univ from fun y hy=>Wo.rf hy);clear hLW;generalize eZ O.wt (4*x+1)=L at *;simp only [Int.toNat_natCast,Nat.zero_add] at HLEN HGW;go_wp2_with fail;go_loopw [9,86] (fun lv i wx=>∃ (j:Nat) (nv1:Value) (F1:Nat→Prop),j≤L.length∧i=.int .i64 j∧dJ w q h O b rv (.slice no s.2.length nc) F (NS O.gr n x s j).2 lv (NS O.gr n x s j).1 wx nv1 F1∧Sl wx 2 1 (.slice ao L.length ac) L.length (L.map (Value.int .i64))) (fun _ i _=>L.length-(intOf i).toNat)
    case atStart=>
     exact ⟨0,nv1,F1,Nat.zero_le _,rfl,HI4.out,HS4.out⟩
    case round=>
     clear HI HI4 HS4 HO4;rename_i nv0 F0 _ _ _;obtain ⟨j,nv1,F1,hj,rfl,hI,hsr⟩:=hrel;have HI:=Hz hI;have HSR:=Hz hsr;obtain ⟨_,_,e',hrd,-,-⟩:=hsr.rd;cases e';clear hsr;by_cases hlt:j<L.length
     ·have HST:=Hz (nX O.gr n x s (HGW.out j hlt));have hjl:=pP O.gr n x s (j:=j) (by rw [HLEN.out];omega);have HJL:=Hz hjl;obtain ⟨lo,lc,rfl,-,-,-⟩:=hI.L.rd;rw [hjl] at HI ⊢;obtain ⟨gg,go,rfl,ggl,g0⟩:=hrd.int64 j hlt;have HLR:=Hz (HRW.out (L.getD j 0) (by rw [Ld,Le hlt];exact List.getElem_mem hlt));have HLU:=Hz (HRU.out (L.getD j 0) (by rw [Ld,Le hlt];exact List.getElem_mem hlt));clear hI hjl hrd;generalize L.getD j 0=y at *;go_wp2_with fail;refine (ih'.out y nv1 F1 _ _ HI.out.V HLR.out (fun _=>HLU.out) (HUN.out j).1 (HUN.out j).2).mono ?_;rintro e w5 ⟨rfl,ht⟩;have HSR5:=Hz (HSR.out.ae ht.choose_spec.choose_spec.2.1 (fun k hk=>by obtain ⟨_,c,hc⟩:=HSR.out.own hk;exact HI.out.V.ei hc (by decide) (by decide)));obtain ⟨nv2,F2,hI2⟩:=HI.out.told ht;obtain ⟨⟨⟨r1,r2⟩,sr⟩,hr⟩:∃ t,valM O.gr n (dh y) (NS O.gr n x s j).2=t:=⟨_,rfl⟩;rw [hr] at hI2 HST ⊢;dsimp only at hI2 HST ⊢;have HI2:=Hz hI2;have HL2:=Hz (show Sl w5 96 2 (.slice lo j lc) j (aA (NS O.gr n x s j).1) by have:=hI2.L;rw [HJL.out] at this;exact this);clear hI2 ht g0 ggl hr;go_wp2_with (at_builtin;refine bN rfl (.tmp 90) (.tmp 94) 38 rfl 96 vi (.agg #[.int .i64 0, .int .i64 0]) 2 16 Tryz.underlying38 Vi.out Vz0.out Vz1.out Vz2.out rfl (by decide) _ j (aA (NS O.gr n x s j).1) rfl (HL2.out.ae ((Kz w5).alloc _) (fun _ _ h=>h)) ⟨w5.heap.size,0,none⟩ 1 1 [.int .i64 r1, .int .i64 r2] rfl rfl (bW w5 96 #[.int .i64 r1, .int .i64 r2]) (by intro u hu;simp at hu;rcases hu with rfl | rfl <;> rfl) (by unfold maxLen;omega) (by omega) ?_);intro v6 w6 hs6 hk6 ho6;have HI6:=Hz (HI2.out.app (v:=(r1,r2)) ((Kz w5).alloc _) (by rw [HJL.out];exact hs6) hk6 (by simpa using ho6));have hka6:=(Kz w5).alloc (.cells #[.int .i64 r1, .int .i64 r2] 96);have HSR6:=Hz ((HSR5.out.ae hka6 (fun _ _ h=>h)).ae hk6 (fun k hk hk2=>by
       obtain ⟨_,c,hc⟩:=(HSR5.out.ae hka6 (fun _ _ h=>h)).own hk;obtain ⟨_,c',hc'⟩:=(HL2.out.ae hka6 (fun _ _ h=>h)).own hk2
       exact hc.ne hc' (by decide) rfl))
      clear hs6 hk6 ho6 hka6;go_wp2_with fail;go_roundw
      case rel=>exact ⟨j+1,nv2,F2,by omega,by go_num,by rw [HST.out];exact HI6.out,HSR6.out⟩
      case measure=>simp [intOf];omega
     ·obtain rfl:j=L.length:=by omega
      clear hlt hj;have HI9:=Hz hI;obtain ⟨cs9,hs9,hr9⟩:=hI.V.hn;have hlt9:s.1.length<(NS O.gr n x s L.length).2.2.length:=(List.getElem?_eq_some_iff.1 (HKP.out L.length)).1;obtain ⟨g,o,cap9,cur,rfl,hb9,h91,h92,h93,h94⟩:=hs9.laid (by omega);have c3:=hI.V.hq.cell 3;have cl:=hI.V.hq.lt;have g1:=hb9.cell (o+s.2.length*2+1);have gl:=hb9.lt;have gf:=hb9.free (o+s.2.length*2+1);have hs9l:s.2.length<(NS O.gr n x s L.length).2.2.length:=by rw [HLL.out];exact hlt9
      obtain ⟨u9,hu9⟩:∃ u,cur[o+s.2.length*2+1]? = some u:=⟨_,Le (by omega)⟩;simp only [Lz,Ls] at c3;rw [hu9] at g1;obtain ⟨lo9,lc9,rfl,-,-,-⟩:=hI.L.rd;have hs9m:(NS O.gr n x s L.length).2.2.length≤cap9:=h91;clear hI hr9 hs9 hb9 h92 h93 h94 hlt9 h91 hu9;go_wp2_with fail;go_ret;have hd:=dJ.done (kd:=5) (n:=s.1.length) rfl HI9.out rfl (by have hkp:=HKP.out L.length;rw [HKD.out] at hkp;exact hkp);refine ⟨cM (by rw [HLL.out]),?_⟩;rw [HNEW.out];have hfull:NS O.gr n x s L.length=fldM (valM O.gr n) (O.gr x).2 (s.1 ++ [x],s.2 ++ [((O.gr x).1,[])]):=by
       unfold NS;rw [List.take_of_length_le (by rw [HLEN.out];simp)]
      rw [←hfull,HKD.out];rw [←HLL.out] at hd ⊢;exact hd
   ·have hkb:(kd == 5)=false:=by simpa using hk5
    rw [if_neg hk5] at HLEN;clear hk5;have HI9:=Hz hI;obtain ⟨cs9,hs9,hr9⟩:=hI.V.hn;have hlt9:s.1.length<(NS O.gr n x s j).2.2.length:=(List.getElem?_eq_some_iff.1 (HKP.out j)).1;obtain ⟨g,o,cap9,cur,rfl,hb9,h91,h92,h93,h94⟩:=hs9.laid (by omega);have c3:=hI.V.hq.cell 3;have cl:=hI.V.hq.lt;have g1:=hb9.cell (o+s.2.length*2+1);have gl:=hb9.lt;have gf:=hb9.free (o+s.2.length*2+1);have hs9l:s.2.length<(NS O.gr n x s j).2.2.length:=by rw [HLL.out];exact hlt9
    obtain ⟨u9,hu9⟩:∃ u,cur[o+s.2.length*2+1]? = some u:=⟨_,Le (by omega)⟩;rw [hu9] at g1;simp only [Lz,Ls] at c3;obtain ⟨lo9,lc9,rfl,-,-,-⟩:=hI.L.rd;have hs9m:(NS O.gr n x s j).2.2.length≤cap9:=h91;clear hI hr9 hs9 hb9 h92 h93 h94 hlt9 h91 hu9;go_wp2_with fail;go_ret;have hd:=dJ.done (kd:=kd) (n:=s.1.length) rfl HI9.out rfl (by have hkp:=HKP.out j;rw [HKD.out] at hkp;exact hkp);refine ⟨cM (by rw [HLL.out]),?_⟩;rw [HNEW.out];have hfull:NS O.gr n x s j=fldM (valM O.gr n) (O.gr x).2 (s.1 ++ [x],s.2 ++ [((O.gr x).1,[])]):=by
     unfold NS;rw [List.take_of_length_le (by rw [HLEN.out];simp)]
    rw [←hfull,HKD.out];rw [←HLL.out] at hd ⊢;exact hd
end
end
section
open Go.RowKit Go.Maps
section
variable {h:WH} {O:Wo} {q b:Nat} {rv:Value}
theorem wJ (n:Nat) (ih:ve h O q b rv n) (x:Int) (nv:Value) (F:Nat→Prop) (s:VS) (w:World) (V:eJ w q h O b rv nv F s) (hx:br x) (h1:x%4=1) (hxu:x/4 ∈ O.univ) (hm:¬ x/4 ∈ s.1)
  (hu:dz O.univ s.1≤n+1) (hc:s.1.length+dz O.univ s.1≤5000) :
  Calls Tryz.prog 65 #[.pointer (some ⟨q,0,none⟩), .int .i64 x] w fun e w'=>si w q h O b rv nv F (valM O.gr (n+1) (dh x) s) e w':=by
 have HV:=Hz V;have HE:=Hz (show (valM O.gr (n+1) (dh x) s).1=iF s.1.length by rw [pd h1,fD O.gr n rfl hm]);have HVO:=Hz (pd h1);have H1:=Hz h1;have HM:=Hz hm;have HU:=Hz hu;have HC:=Hz hc;have HXU:=Hz hxu;have HIH:=Hz ih;have r0:-2305843009213693952≤x/4:=by have:=hx.1;omega
 have r2:x/4≤2305843009213693951:=by have:=hx.2;omega
 clear V h1 hm hu hc hxu ih;go_enter Tryz.func65,Tryz.ntmps65;go_wp2_with fail;refine (dt x _ H1.out).mono ?_;rintro e w1 ⟨rfl,rfl⟩;have hka:=(Kz w).alloc (.cells #[.int .i64 0, .int .i64 0] 96);have V1:=Hz (HV.out.same hka);have hal:ah (w.alloc (.cells #[.int .i64 0, .int .i64 0] 96)) w.heap.size [.int .i64 0, .int .i64 0] 96:=ah.newAt _ rfl rfl;have HAL:=Hz hal;have HKA:=Hz hka;have c1:=V1.out.hq.cell 1;have cl:=V1.out.hq.lt;simp only [Lz,Ls] at c1;obtain ⟨n0,D,hown,hn0,hD⟩:=V1.out.hm;have HD:=Hz (hD (x/4) (by omega) (by omega));clear hD hka hal;go_wp2_with (at_lookup;refine wpList_lookup_own_ok_int _ rfl _ _ 116 rfl 3 3 .i64 qM Tryz.underlying116 Tryz.underlying3 (sg _) b n0 D rfl hown _ _ rfl (keyOf_int_mk Tryz.underlying3 (WalkArith.wf_i64 (by constructor <;> omega))) ?_);intro c hat hwc;rw [HD.out.1,decide_eq_false HM.out];clear hat hwc hown hn0 c1 cl;go_wp2_with fail;refine (AV n HIH.out (x/4) nv F s _ V1.out r0 r2 HXU.out HM.out HU.out HC.out).mono ?_;rintro e w2 ⟨rfl,ht⟩;have da:=ht.choose_spec.choose_spec.2.1.ak HAL.out (by
  intro hf;have:=HV.out.lt hf
  omega)
 have l0:=da.cell 0;have l1:=da.cell 1;have ll:=da.lt;have f0:=da.free 0;have f1:=da.free 1;simp only [Lz,Ls] at l0 l1;have HB2:=Hz da;have HT:=Hz ht;clear da ht;go_wp2_with fail;have c9:=(HB2.out.aO 0 (.int .i64 3)).aO 1 (.int .i64 s.1.length);have x0':=c9.cell 0;have x1':=c9.cell 1;simp only [List.set_cons_zero,List.set_cons_succ,Lz,Ls] at x0' x1';refine bodyPost_ret (v:=.agg #[.int .i64 3, .int .i64 s.1.length]) (by simp [results,Tryz.results65,go_sem,x0',x1']) rfl ?_;refine ⟨by rw [HE.out];rfl,?_⟩;rw [HVO.out];have hsz:=HKA.out.size;have hsz1:(w.alloc (.cells #[.int .i64 0, .int .i64 0] 96)).heap.size=w.heap.size+1:=by simp
 obtain ⟨nv1,F1,V2,k2,p1,p2⟩:=HT.out;have ke:=((ab.refl (·=w.heap.size) w2).setCell (p:=⟨w.heap.size,0,none⟩) (.inl rfl) (.int .i64 3)).setCell (p:=⟨w.heap.size,1,none⟩) (.inl rfl) (.int .i64 s.1.length);refine ⟨nv1,F1,V2.ae ke (fun j hj e=>?_) (fun j hj e=>?_) (fun j hj e=>?_),(((HKA.out.mono (fun _ _ h=>h.elim)).trans k2).setCell (p:=⟨w.heap.size,0,none⟩) (.inr (Nat.le_refl _)) _).setCell (p:=⟨w.heap.size,1,none⟩) (.inr (Nat.le_refl _)) _,fun j hj=>?_,fun j hj=>?_⟩
 ·subst e;exact V2.ei HB2.out (by decide) (by decide) hj
 ·subst e;obtain ⟨c',T,hc',hT⟩:=V2.hw.bB hj;rcases hT with rfl | rfl | rfl | rfl | rfl | rfl | rfl <;> exact HB2.out.ne hc' (by decide) rfl
 ·subst e;rcases p2 _ hj with h1 | h1
  ·have:=(HV.out.hF _ h1).1;omega
  ·omega
 ·rcases p1 j hj with h1 | h1
  ·exact .inl h1
  ·exact .inr (by omega)
 ·rcases p2 j hj with h1 | h1
  ·exact .inl h1
  ·exact .inr (by omega)
theorem zU:∀ n:Nat,n≤5000→ve h O q b rv n:=by
 intro n
 induction n with
 | zero=>
  intro _ x nv F s w V hx hxu hu hc;exact rj x 0 V hx (fun h1=>se (Nat.le_zero.1 hu) (hxu h1)) (by omega)
 | succ n ih=>
  intro hn x nv F s w V hx hxu hu hc;by_cases hm:x%4=1→x/4 ∈ s.1
  ·exact rj x (n+1) V hx hm (by omega)
  ·obtain ⟨h1,h2⟩:=Classical.not_imp.1 hm;exact wJ n (ih (by omega)) x nv F s w V hx h1 (hxu h1) h2 hu hc
def kV (w:World) (lo:Nat) (v:Value) (V:List Vl × List Nd):Prop:=
 ∃ ro rc no nc F,v=.agg #[.slice ro V.1.length rc, .slice no V.2.length nc]∧Sl w 96 2 (.slice ro V.1.length rc) V.1.length (aA V.1)∧dR w (.slice no V.2.length nc) F V.2 ∧
  ∀ k,(F k∨ai (.slice ro V.1.length rc) k∨ai (.slice no V.2.length nc) k)→lo≤k∧k<w.heap.size
theorem kV.ae {w w':World} {S:Nat→Prop} {lo:Nat} {v:Value} {V:List Vl × List Nd} (H:kV w lo v V) (k:ab S w w') (hn:∀ j,lo≤j→j<w.heap.size→¬ S j):kV w' lo v V:=by
 obtain ⟨ro,rc,no,nc,F,e,h1,h2,h3⟩:=H;refine ⟨ro,rc,no,nc,F,e,h1.ae k (fun j hj=>?_),h2.ae k (fun j hj _=>?_) (fun j hj=>?_),fun j hj=>⟨(h3 j hj).1,Nat.lt_of_lt_of_le (h3 j hj).2 k.size⟩⟩
 ·have:=h3 j (.inr (.inl hj));exact hn j this.1 this.2
 ·have:=h3 j (.inl hj);exact hn j this.1 this.2
 ·have:=h3 j (.inr (.inr hj));exact hn j this.1 this.2
structure gY (w:World) (q:Nat) (h:WH) (O:Wo) (b:Nat) (wr:World) (rv nv:Value) (F:Nat→Prop) (s:VS) (l:List Vl):Prop where
 V:eJ wr q h O b rv nv F s
 K:ab (fun _=>False) w wr
 o1:∀ k,ai nv k→w.heap.size≤k
 o2:∀ k,F k→w.heap.size<k
 L:Sl wr 96 2 rv l.length (aA l)
 o3:∀ k,ai rv k→w.heap.size≤k∧¬ F k
 oq:w.heap.size≤q
 ob:w.heap.size≤b
 B:ah wr w.heap.size [.slice none 0 0, .slice none 0 0] 41
theorem gY.pQ {w wr:World} {rv nv:Value} {F:Nat→Prop} {s:VS} {l:List Vl} (I:gY w q h O b wr rv nv F s l) {k:Nat} (hk:ai rv k):¬ lz q b nv k∧¬ h.Own k:=by
 obtain ⟨_,c,hc⟩:=I.L.own hk;refine ⟨I.V.ei hc (by decide) (by decide),fun h1=>?_⟩;obtain ⟨c',T,hc',hT⟩:=I.V.hw.bB h1;rcases hT with rfl | rfl | rfl | rfl | rfl | rfl | rfl <;> exact hc.ne hc' (by decide) rfl
theorem gY.told {w wr w2:World} {rv nv:Value} {F:Nat→Prop} {s s2:VS} {l:List Vl} (I:gY w q h O b wr rv nv F s l) (t:lA wr q h O b rv nv F s2 w2):∃ nv2 F2,gY w q h O b w2 rv nv2 F2 s2 l:=by
 obtain ⟨nv2,F2,V2,k2,p1,p2⟩:=t;have hz:=I.K.size;refine ⟨nv2,F2,V2,I.K.then k2 (fun j hj=>?_),fun j hj=>?_,fun j hj=>?_,I.L.ae k2 (fun j hj=>(I.pQ hj).1),fun j hj=>⟨(I.o3 j hj).1,fun hf=>?_⟩,I.oq,I.ob,k2.ak I.B (I.V.ei I.B (by decide) (by decide))⟩
 ·rcases hj with rfl | rfl | hj
  ·exact .inr I.oq
  ·exact .inr I.ob
  ·exact .inr (I.o1 j hj)
 ·rcases p1 j hj with h | h
  ·exact I.o1 j h
  ·omega
 ·have hbl:=I.B.lt;rcases p2 j hj with h | h
  ·exact I.o2 j h
  ·omega
 ·rcases p2 j hf with h | h
  ·exact (I.o3 j hj).2 h
  ·have:=(I.L.own hj).1;omega
theorem gY.same {w wr w2:World} {rv nv:Value} {F:Nat→Prop} {s:VS} {l:List Vl} (I:gY w q h O b wr rv nv F s l) (k:ab (fun _=>False) wr w2):gY w q h O b w2 rv nv F s l:=
 ⟨I.V.same k,I.K.trans k,I.o1,I.o2,I.L.ae k (fun _ _ h=>h),I.o3,I.oq,I.ob,k.ak I.B (fun h=>h)⟩
theorem gY.app {w wr wa w2:World} {rv nv v2:Value} {F:Nat→Prop} {s:VS} {l:List Vl} {v:Vl} (I:gY w q h O b wr rv nv F s l) (ka:ab (fun _=>False) wr wa)
  (hs:Sl w2 96 2 v2 (l.length+1) (aA l ++ [.int .i64 v.1, .int .i64 v.2])) (hk:ab (ai rv) wa w2) (ho:∀ k,ai v2 k→ai rv k∨wa.heap.size≤k):gY w q h O b (w2.setCell ⟨q,2,none⟩ v2) v2 nv F s (l ++ [v]):=by
 have k2:=(ka.mono (T:=ai rv) (fun _ _ h=>h.elim)).trans hk;have hz:=ka.size;have hz2:=I.K.size;have nq:∀ {v:Value} {wx:World} {n:Nat} {xs:List Value},Sl wx 96 2 v n xs→ah wx q [.pointer (some ⟨h.p,0,none⟩), .map (some b),rv,nv] 118→¬ ai v q:=fun hs hq h=>by
  obtain ⟨_,c,hc⟩:=hs.own h;exact hc.ne hq (by decide) rfl
 have hq2:=k2.ak I.V.hq (nq I.L I.V.hq);have set:=(ab.refl (·=q) w2).setCell (p:=⟨q,2,none⟩) (.inl rfl) v2;have V2:=I.V.ae k2 (fun j hj hl=>(I.pQ hl).1 hj) (fun j hj hl=>(I.pQ hl).2 hj) (fun j hj hl=>(I.o3 j hl).2 hj);have sq:∀ j,ai v2 j→¬ j=q:=fun j hj e=>nq hs hq2 (e ▸ hj);have B2:=k2.ak I.B (fun hl=>by obtain ⟨_,c,hc⟩:=I.L.own hl;exact hc.ne I.B (by decide) rfl);refine ⟨⟨by simpa using hq2.aO 2 v2,V2.hw.ae set (fun j hj e=>by subst e;exact V2.j7 hj (.inl rfl)),V2.hm.ae set (fun e=>V2.hm.ne V2.hq e.symm),V2.hn.ae set (fun j hj _ e=>(V2.hF j hj).2 (.inl e)) (fun j hj e=>?_),V2.hl,fun j hj=>⟨?_,(V2.hF j hj).2⟩⟩,
  (I.K.then k2 (fun j hj=>.inr (I.o3 j hj).1)).setCell (p:=⟨q,2,none⟩) (.inr I.oq) _,I.o1,I.o2,?_,fun j hj=>?_,I.oq,I.ob,set.ak B2 (B2.ne hq2 (by decide))⟩
 ·obtain ⟨_,c,hc⟩:=V2.hn.own hj;exact hc.ne hq2 (by decide) e
 ·have:=(V2.hF j hj).1;have:=set.size;omega
 ·have e:aA (l ++ [v])=aA l ++ [.int .i64 v.1, .int .i64 v.2]:=by simp [aA]
  rw [e,List.length_append];exact hs.ae set sq
 ·rcases ho j hj with h1 | h1
  ·exact I.o3 j h1
  ·exact ⟨by omega,fun hf=>by have:=(I.V.hF j hf).1;omega⟩
def TS (O:Wo) (k:Nat):List Vl × VS:=fldM (valM O.gr 5000) ((O.rt.map dh).take k) ([],[])
theorem zV {O:Wo} {k:Nat} (h:k<O.rt.length):TS O (k+1)=((TS O k).1 ++ [(valM O.gr 5000 (dh (O.rt.getD k 0)) (TS O k).2).1],(valM O.gr 5000 (dh (O.rt.getD k 0)) (TS O k).2).2):=by
 unfold TS;have e:(O.rt.map dh)[k]? = some (dh (O.rt.getD k 0)):=by rw [List.getElem?_map,Le h];simp [List.getD,h]
 rw [List.take_add_one,e,Option.toList_some,lW]
 rfl
theorem AW {O:Wo} {k:Nat} (h:k≤O.rt.length):(TS O k).1.length=k:=by
 unfold TS;rw [lX,List.length_take,List.length_map];omega
theorem zr {O:Wo} (hO:O.ok) (k:Nat):dz O.univ (TS O k).2.1≤5000∧(TS O k).2.1.length+dz O.univ (TS O k).2.1≤5000:=by
 have I:=Wo.rh hO;unfold TS;have h1:=Wo.zP hO;have h2:=qJ O.univ;have h3:=gX (f:=valM O.gr 5000) (U:=O.univ) (j5 I 5000) ((O.rt.map dh).take k) ([],[]) (fun v hv h3=>by
  obtain ⟨x,hx,rfl⟩:=List.mem_map.1 (List.mem_of_mem_take hv)
  rw [(l5 h3).2];exact Wo.re hx)
 simp only [List.length_nil] at h3;exact ⟨by omega,by omega⟩
def uE (w:World) (V:List Vl × List Nd) (e:Ending) (w':World):Prop:=∃ v,e=.returned v∧kV w' w.heap.size v V∧ab (fun _=>False) w w'
theorem wK (w:World) (H:bp w h O) :
  Calls Tryz.prog 17 #[.pointer (some ⟨h.p,0,none⟩)] w fun e w'=>uE w O.view e w':=by
 have HH:=Hz H;obtain ⟨vi,hi,hz0,hz1,hz2⟩:=cZ iG;have Vi:=Hz hi;have Vz0:=Hz hz0;have Vz1:=Hz hz1;have Vz2:=Hz hz2;clear hi hz0 hz1 hz2;have hmm:=@run_makeMap Tryz.prog;have HMM:=Hz hmm;have h12:=H.ok.h12;obtain ⟨ro,rc,hro,-,-,-⟩:=H.hr.rd;have HRO:=Hz hro;have c3:=H.dZ.2.2.2;have pl:=H.hp.lt;rw [hro,h12] at c3;have HRR:=Hz H.hr;rw [hro,h12] at HRR;clear H h12 hro;go_enter Tryz.func17,Tryz.ntmps17;go_upto_region 2 with fail
 have k1:=(((Kz w).alloc (.cells #[.slice none 0 0, .slice none 0 0] 41)).alloc (.map #[] 0)).alloc (.cells #[.pointer (some ⟨h.p,0,none⟩), .map (some (w.heap.size+1)), .slice none 0 0, .slice none 0 0] 118);have hb:ah (((w.alloc (.cells #[.slice none 0 0, .slice none 0 0] 41)).alloc (.map #[] 0)).alloc (.cells #[.pointer (some ⟨h.p,0,none⟩), .map (some (w.heap.size+1)), .slice none 0 0, .slice none 0 0] 118)) w.heap.size [.slice none 0 0, .slice none 0 0] 41:=((ah.newAt _ rfl rfl).alloc _).alloc _;have hsn:eE (((w.alloc (.cells #[.slice none 0 0, .slice none 0 0] 41)).alloc (.map #[] 0)).alloc (.cells #[.pointer (some ⟨h.p,0,none⟩), .map (some (w.heap.size+1)), .slice none 0 0, .slice none 0 0] 118)) (w.heap.size+1) []:=by
  have:=eE.made (w.alloc (.cells #[.slice none 0 0, .slice none 0 0] 41));simp only [World.size_alloc] at this;exact this.ae ((Kz _).alloc _) (fun h=>h)
 have hv:eJ (((w.alloc (.cells #[.slice none 0 0, .slice none 0 0] 41)).alloc (.map #[] 0)).alloc (.cells #[.pointer (some ⟨h.p,0,none⟩), .map (some (w.heap.size+1)), .slice none 0 0, .slice none 0 0] 118)) (w.heap.size+1+1) h O (w.heap.size+1) (.slice none 0 0) (.slice none 0 0) (fun _=>False) ([],[]):=
  ⟨ah.newAt _ (by simp) rfl,HH.out.ae k1 (fun _ _ h=>h),hsn,dR.nil _ _,rfl,fun _ h=>h.elim⟩
 have HK1:=Hz k1;have HB:=Hz hb;have HVW:=Hz hv;have HSZ:=Hz (show w.heap.size+3≤(((w.alloc (.cells #[.slice none 0 0, .slice none 0 0] 41)).alloc (.map #[] 0)).alloc (.cells #[.pointer (some ⟨h.p,0,none⟩), .map (some (w.heap.size+1)), .slice none 0 0, .slice none 0 0] 118)).heap.size by simp);have c3:=hv.hw.dZ.2.2.2;have pl:=hv.hw.hp.lt;rw [HRO.out,HH.out.ok.h12] at c3;clear k1 hb hsn hv hmm;generalize ((w.alloc (.cells #[.slice none 0 0, .slice none 0 0] 41)).alloc (.map #[] 0)).alloc (.cells #[.pointer (some ⟨h.p,0,none⟩), .map (some (w.heap.size+1)), .slice none 0 0, .slice none 0 0] 118)=w1 at *;go_wp2_with fail;have HI0:=Hz (show gY w (w.heap.size+1+1) h O (w.heap.size+1) w1 (.slice none 0 0) (.slice none 0 0) (fun _=>False) (TS O 0).2 (TS O 0).1 from
  ⟨HVW.out,HK1.out,fun _ h=>(bM h).elim,fun _ h=>h.elim,Sl.nil _ _ _,fun _ h=>(bM h).elim,by omega,by omega,HB.out⟩)
 clear HVW HB HSZ HK1 c3 pl;go_loopw [16] (fun i wr=>∃ (k:Nat) (rv nv:Value) (F:Nat→Prop),k≤12∧i=.int .i64 k∧gY w (w.heap.size+1+1) h O (w.heap.size+1) wr rv nv F (TS O k).2 (TS O k).1) (fun i _=>12-(intOf i).toNat)
 case atStart=>exact ⟨0,_,_,_,Nat.zero_le _,rfl,HI0.out⟩
 case round=>
  clear HI0;obtain ⟨k,rv,nv,F,hk,rfl,hI⟩:=hrel;have HI:=Hz hI;have hkl:=AW (O:=O) (k:=k) (by rw [HH.out.ok.h12];exact hk);have HKL:=Hz hkl;by_cases hlt:k<12
  ·have HST:=Hz (zV (O:=O) (k:=k) (by rw [HH.out.ok.h12];exact hlt));have hm:O.rt.getD k 0 ∈ O.rt:=by rw [Ld,Le (by rw [HH.out.ok.h12];exact hlt)];exact List.getElem_mem _
   have HLR:=Hz (HH.out.ok.hR _ hm);have HLU:=Hz (Wo.re hm);have hrd:=(HRR.ae hI.K (fun _ _ h=>h));obtain ⟨_,_,e',hrr,-,-⟩:=hrd.rd;cases e';obtain ⟨gg,go,rfl,ggl,g0⟩:=hrr.int64 k (by rw [HH.out.ok.h12];exact hlt);clear hI hkl hm hrd hrr;generalize O.rt.getD k 0=y at *;go_wp2_with fail;refine (zU 5000 (Nat.le_refl _) y nv F _ _ HI.out.V HLR.out (fun _=>HLU.out) (zr HH.out.ok k).1 (zr HH.out.ok k).2).mono ?_;rintro e w2 ⟨rfl,ht⟩;obtain ⟨nv2,F2,hI2⟩:=HI.out.told ht;obtain ⟨⟨⟨r1,r2⟩,sr⟩,hr⟩:∃ t,valM O.gr 5000 (dh y) (TS O k).2=t:=⟨_,rfl⟩;rw [hr] at hI2 HST ⊢;dsimp only at hI2 HST ⊢;clear hr ht g0 ggl;go_upto_region 6 with fail
   have hka:=(Kz w2).alloc (.cells #[.int .i64 r1, .int .i64 r2] 96);have hI3:=hI2.same hka;have hvb:ah (w2.alloc (.cells #[.int .i64 r1, .int .i64 r2] 96)) w2.heap.size [.int .i64 r1, .int .i64 r2] 96:=ah.newAt _ rfl rfl;have HI3:=Hz hI3;obtain ⟨lo,lc,rfl,-,-,-⟩:=hI3.L.rd;rw [HKL.out] at HI3;have c2:=hI3.V.hq.cell 2;have cl:=hI3.V.hq.lt;have v0:=hvb.cell 0;have v1:=hvb.cell 1;have vl:=hvb.lt;simp only [Lz,Ls] at c2 v0 v1;rw [HKL.out] at c2;have HL3:=Hz (show Sl (w2.alloc (.cells #[.int .i64 r1, .int .i64 r2] 96)) 96 2 (.slice lo k lc) k (aA (TS O k).1) by have:=HI3.out.L;rw [HKL.out] at this;exact this);clear hka hI3 hI2 hvb HI;generalize w2.alloc (.cells #[.int .i64 r1, .int .i64 r2] 96)=wb at *;generalize w2.heap.size=bv at *;refine ay (.free 0 (.free 1 (.free 2 (.free 3 (.free 4 (.pure 5 (.pure 6 (.run 7 (.run 8 (.swi [12] (.free 9 (.free 10 (.free 11 (.run 12 (.swi [] (.fin)))))))))))))))) [8,9,10,11,12] (fun w'=>w'.cell? ⟨w.heap.size+1+1,2,none⟩=some (.slice lo k lc)∧w'.cell? ⟨bv,0,none⟩=some (.int .i64 r1)∧w'.cell? ⟨bv,1,none⟩=some (.int .i64 r2)) (by kernel_rfl) (by kernel_rfl) ⟨c2,v0,v1⟩ ?_
   iterate 7 ((first | refine au rfl rfl fun K hK=>?_ | refine aq rfl rfl fun K hK=>?_ | refine aF rfl rfl fun K hK=>?_ | refine az rfl rfl fun K hK=>?_ | refine aE rfl rfl fun K hK=>?_);go_simp;refine hK _ ?_;clear hK K)
   refine aM rfl rfl (fun K hK=>?_);unfold aC;go_simp;have hkb:ab (fun _=>False) wb ((wb.drew).alloc (.cells #[.int .i64 r1, .int .i64 r2] 96)):=(Kz wb).drew.alloc (.cells #[.int .i64 r1, .int .i64 r2] 96);refine hK _ _ (fun hg=>?_) ?_
   ·refine ⟨?_,?_,?_⟩
    ·exact (World.cell?_of_block (w:=wb) (a:=⟨w.heap.size+1+1,2,none⟩) (hkb.block _ cl (fun h=>h))).trans c2
    ·exact (World.cell?_of_block (w:=wb) (a:=⟨bv,0,none⟩) (hkb.block _ vl (fun h=>h))).trans v0
    ·exact (World.cell?_of_block (w:=wb) (a:=⟨bv,1,none⟩) (hkb.block _ vl (fun h=>h))).trans v1
   clear hK K;refine aJ rfl rfl rfl (fun K hK=>?_);refine fU (.tmp 28) (.tmp 30) 38 rfl 96 vi (.agg #[.int .i64 0, .int .i64 0]) 2 16 Tryz.underlying38 Vi.out Vz0.out Vz1.out Vz2.out rfl (by decide) _ k (aA (TS O k).1) rfl (HL3.out.ae hkb (fun _ _ h=>h)) ⟨wb.heap.size,0,none⟩ 1 1 [.int .i64 r1, .int .i64 r2] rfl rfl (bW wb.drew 96 #[.int .i64 r1, .int .i64 r2]) (by intro u hu;simp at hu;rcases hu with rfl | rfl <;> rfl) (by unfold maxLen;omega) (by omega) ?_;intro v3 w3 hs3 hk3 ho3;have HI4:=Hz (HI3.out.app (v:=(r1,r2)) hkb (by rw [HKL.out];exact hs3) hk3 ho3);have hp3:=hk3.ak (hkb.ak HI3.out.V.hq (fun h=>h)) (fun hv=>by obtain ⟨_,c',hc⟩:=(HL3.out.ae hkb (fun _ _ h=>h)).own hv;exact (hkb.ak HI3.out.V.hq (fun h=>h)).ne hc (by decide) rfl);have x0:=hp3.cell 2;have xf:=hp3.free 2;have xl:=hp3.lt;simp only [Lz,Ls] at x0;obtain ⟨lo3,lc3,rfl,-,-,-⟩:=hs3.rd;refine hK _ _ ?_;clear hK K hkb hs3 hk3 ho3 hp3 c2 cl v0 v1 vl;refine aH (fun _=>True) trivial ?_
   iterate 3 ((first | refine au rfl rfl fun K hK=>?_ | refine aq rfl rfl fun K hK=>?_);go_simp;refine hK _ ?_;clear hK K)
   refine aJ rfl rfl rfl (fun K hK=>?_);unfold aC;go_simp;refine hK _ _ ?_;clear hK K;refine aH (fun _=>True) trivial (aB ?_);clear x0 xf xl;go_wp2_with fail;go_roundw
   case rel=>exact ⟨k+1,_,nv2,F2,by omega,by go_num,by rw [HST.out];exact HI4.out⟩
   case measure=>simp [intOf];omega
  ·obtain rfl:k=12:=by omega
   obtain ⟨lo,lc,rfl,hrr,-,-⟩:=hI.L.rd;obtain ⟨cs,hns,hnr⟩:=hI.V.hn;obtain ⟨no,nc,rfl,-,-,-⟩:=hns.rd;have c2:=hI.V.hq.cell 2;have c3:=hI.V.hq.cell 3;have cl:=hI.V.hq.lt;have b0:=hI.B.cell 0;have b1:=hI.B.cell 1;have bl:=hI.B.lt;have f0:=hI.B.free 0;have f1:=hI.B.free 1;simp only [Lz,Ls] at c2 c3 b0 b1;have HVE:=Hz (show O.view=((TS O 12).1,(TS O 12).2.2) by
    unfold Wo.view j2 TS deep
    rw [List.take_of_length_le (by rw [List.length_map,HH.out.ok.h12];exact Nat.le_refl _)])
   clear hI hrr hns hnr hlt hk hkl;go_wp2_with (refine cF rfl 41 (.tmp 38) rfl (by kernel_rfl) (w.heap.size+1+1) 2 rfl _ _ c2 c3 ?_);have c9:=(HI.out.B.aO 0 (.slice lo (TS O 12).1.length lc)).aO 1 (.slice no (TS O 12).2.2.length nc);have x0:=c9.cell 0;have x1:=c9.cell 1;simp only [List.set_cons_zero,List.set_cons_succ,Lz,Ls] at x0 x1;refine bodyPost_ret (v:=.agg #[.slice lo (TS O 12).1.length lc, .slice no (TS O 12).2.2.length nc]) (by simp [results,Tryz.results17,go_sem,x0,x1]) rfl ?_;refine ⟨_,rfl,?_,(HI.out.K.setCell (p:=⟨w.heap.size,0,none⟩) (.inr (Nat.le_refl _)) _).setCell (p:=⟨w.heap.size,1,none⟩) (.inr (Nat.le_refl _)) _⟩;rw [HVE.out];have ke:=((ab.refl (·=w.heap.size) wr).setCell (p:=⟨w.heap.size,0,none⟩) (.inl rfl) (.slice lo (TS O 12).1.length lc)).setCell (p:=⟨w.heap.size,1,none⟩) (.inl rfl) (.slice no (TS O 12).2.2.length nc);have nF:∀ j,F j→¬ j=w.heap.size:=fun j hj e=>by
    have:=HI.out.o2 j hj;omega
   refine ⟨lo,lc,no,nc,F,rfl,HI.out.L.ae ke (fun j hj e=>?_),HI.out.V.hn.ae ke (fun j hj _=>nF j hj) (fun j hj e=>?_),fun j hj=>?_⟩
   ·subst e;obtain ⟨_,c,hc⟩:=HI.out.L.own hj;exact hc.ne HI.out.B (by decide) rfl
   ·subst e;obtain ⟨_,c,hc⟩:=HI.out.V.hn.own hj;exact hc.ne HI.out.B (by decide) rfl
   ·have hks:=ke.size;rcases hj with hj | hj | hj
    ·exact ⟨Nat.le_of_lt (HI.out.o2 j hj),by have:=(HI.out.V.hF j hj).1;omega⟩
    ·exact ⟨(HI.out.o3 j hj).1,by have:=(HI.out.L.own hj).1;omega⟩
    ·exact ⟨HI.out.o1 j hj,by have:=(HI.out.V.hn.own hj).1;omega⟩
end
end
section
open Go.RowKit
theorem Rd.val {w:World} {ao:Option Addr} {l:List Vl} (h:Rd w ao (aA l)) (i:Nat) (hi:i<l.length) :
  ∃ g o,ao=some ⟨g,o,none⟩∧g<w.heap.size∧w.cell? ⟨g,o+i*2,none⟩=some (.int .i64 (l.getD i (0,0)).1)∧w.cell? ⟨g,o+i*2+1,none⟩=some (.int .i64 (l.getD i (0,0)).2):=by
 have hlen:(aA l).length=l.length*2:=bH l;obtain ⟨g,o,rfl,hg,hc⟩:=h (by intro e;rw [e] at hlen;simp at hlen;omega);have h1:=oW l i hi;refine ⟨g,o,rfl,hg,?_,?_⟩
 ·rw [hc (i*2) (by rw [hlen];omega)];exact h1.1
 ·rw [Nat.add_assoc,hc (i*2+1) (by rw [hlen];omega)];exact h1.2
theorem mY (a b:Option Addr) (ca cb:Nat) (l:List Vl) (w:World) (h1:Rd w a (aA l)) (h2:Rd w b (aA l)) (hl:l.length≤1000000) :
  Calls Tryz.prog 82 #[.slice a l.length ca, .slice b l.length cb] w fun e w'=>e=.returned (.bool true)∧ab (fun _=>False) w w':=by
 have H1:=Hz h1;have H2:=Hz h2;clear h1 h2;go_enter Tryz.func82,Tryz.ntmps82;go_wp2_with fail;go_loopw [5] (fun i wr=>∃ k:Nat,k≤l.length∧i=.int .i64 k∧ab (fun _=>False) w wr) (fun i _=>l.length-(intOf i).toNat)
 case atStart=>exact ⟨0,Nat.zero_le _,rfl,ab.refl _ _⟩
 case round=>
  obtain ⟨k,hk,rfl,hkk⟩:=hrel;have HK:=Hz hkk;clear hkk;by_cases hlt:k<l.length
  ·obtain ⟨g,o,rfl,hgl,d0,d1⟩:=(H1.out.ae HK.out (fun _ _ _ h=>h)).val k hlt;obtain ⟨g',o',rfl,hgl',e0,e1⟩:=(H2.out.ae HK.out (fun _ _ _ h=>h)).val k hlt;generalize l.getD k (0,0)=v at *;go_wp2_with fail;refine ay (.free 0 (.free 1 (.free 2 (.free 4 (.free 5 (.free 6 (.pure 3 (.pure 7 (.free 8 (.fin)))))))))) [] (fun w'=>w'.cell? ⟨g,o+k*2,none⟩=some (.int .i64 v.1)∧w'.cell? ⟨g,o+k*2+1,none⟩=some (.int .i64 v.2)∧w'.cell? ⟨g',o' + k*2,none⟩=some (.int .i64 v.1)∧w'.cell? ⟨g',o' + k*2+1,none⟩=some (.int .i64 v.2)) (by kernel_rfl) (by kernel_rfl) ⟨d0,d1,e0,e1⟩ ?_
   iterate 9 ((first | refine au rfl rfl fun K hK=>?_ | refine aq rfl rfl fun K hK=>?_ | refine aF rfl rfl fun K hK=>?_ | refine az rfl rfl fun K hK=>?_ | refine aE rfl rfl fun K hK=>?_);go_simp;refine hK _ ?_;clear hK K)
   refine aB ?_;go_wp2_with fail;go_roundw
   case rel=>exact ⟨k+1,by omega,by go_num,HK.out.drew⟩
   case measure=>simp [intOf];omega
  ·obtain rfl:k=l.length:=by omega
   go_wp2_with fail;go_ret;exact ⟨rfl,HK.out⟩
theorem dR.nth {w:World} {nv:Value} {F:Nat→Prop} {l:List Nd} (h:dR w nv F l):∃ no nc,nv=.slice no l.length nc∧∀ i,i<l.length→∃ g o ao cap,no=some ⟨g,o,none⟩∧g<w.heap.size∧w.cell? ⟨g,o+i*2,none⟩=some (.int .i64 (l.getD i (0,[])).1) ∧
  w.cell? ⟨g,o+i*2+1,none⟩=some (.slice ao (l.getD i (0,[])).2.length cap)∧Rd w ao (aA (l.getD i (0,[])).2)∧(l.getD i (0,[])).2.length≤maxLen:=by
 obtain ⟨cs,hs,hr⟩:=h;obtain ⟨no,nc,rfl,hrd,-,-⟩:=hs.rd;refine ⟨no,nc,rfl,fun i hi=>?_⟩;obtain ⟨r,h1,⟨ao,cap,rfl,h2,-,h3⟩,h4⟩:=hr.cell hi;have hlen:=hr.length;have hne:cs≠[]:=by intro e;subst e;simp at hlen;omega
 obtain ⟨g,o,rfl,hg,hc⟩:=hrd hne;have e:l.getD i (0,[])=l[i]:=by rw [Ld,Le hi];rfl
 rw [e];refine ⟨g,o,ao,cap,rfl,hg,?_,?_,h2,h3⟩
 ·have:=h4 0 (by decide);rw [hc (i*2) (by rw [hlen];omega)];exact this
 ·have:=h4 1 (by decide);rw [Nat.add_assoc,hc (i*2+1) (by rw [hlen];omega)];exact this
def rP (w:World) (v:Value) (V:List Vl × List Nd):Prop:=
 ∃ ro rc nv F,v=.agg #[.slice ro V.1.length rc,nv]∧Rd w ro (aA V.1)∧dR w nv F V.2∧V.1.length≤1000000∧V.2.length≤1000000∧∀ n ∈ V.2,n.2.length≤1000000
theorem kV.r {w:World} {lo:Nat} {v:Value} {V:List Vl × List Nd} (H:kV w lo v V) (h1:V.1.length≤1000000) (h2:V.2.length≤1000000) (h3:∀ n ∈ V.2,n.2.length≤1000000):rP w v V:=by
 obtain ⟨ro,rc,no,nc,F,e,a,b,c⟩:=H;obtain ⟨_,_,e',hr,-,-⟩:=a.rd;cases e';exact ⟨ro,rc,_,F,e,hr,b,h1,h2,h3⟩
theorem sj (x y:Value) (V:List Vl × List Nd) (w:World) (h1:rP w x V) (h2:rP w y V) :
  Calls Tryz.prog 19 #[x,y] w fun e w'=>e=.returned (.bool true)∧ab (fun _=>False) w w':=by
 obtain ⟨ro,rc,nv,F,rfl,r1,n1,l1,l2,l3⟩:=h1;obtain ⟨so,sc,mv,E,rfl,r2,n2,-,-,-⟩:=h2;obtain ⟨no,nc,rfl,N1⟩:=n1.nth;obtain ⟨mo,mc,rfl,N2⟩:=n2.nth;have R1:=Hz r1;have R2:=Hz r2;have M1:=Hz n1;have M2:=Hz n2;have L3:=Hz l3;clear r1 r2 n1 n2 N1 N2 l3;go_enter Tryz.func19,Tryz.ntmps19;go_wp2_with fail;have hka:=(Kz w).alloc (.cells #[.slice ro V.1.length rc, .slice no V.2.length nc] 41);have hkb:=hka.alloc (.cells #[.slice so V.1.length sc, .slice mo V.2.length mc] 41);obtain ⟨wa,ea⟩:∃ x,x=w.alloc (.cells #[.slice ro V.1.length rc, .slice no V.2.length nc] 41):=⟨_,rfl⟩;have hba:ah wa w.heap.size [.slice ro V.1.length rc, .slice no V.2.length nc] 41:=by rw [ea];exact ah.newAt _ rfl rfl
 have hsz:wa.heap.size=w.heap.size+1:=by rw [ea];simp
 rw [←ea] at hka hkb ⊢;have aw:=((Kz wa).alloc (.cells #[.slice so V.1.length sc, .slice mo V.2.length mc] 41)).ak hba (fun h=>h);have da:ah (wa.alloc (.cells #[.slice so V.1.length sc, .slice mo V.2.length mc] 41)) wa.heap.size [.slice so V.1.length sc, .slice mo V.2.length mc] 41:=ah.newAt _ rfl rfl;rw [hsz] at da;generalize wa.alloc (.cells #[.slice so V.1.length sc, .slice mo V.2.length mc] 41)=wb at *;obtain ⟨b,hb⟩:∃ b,w.heap.size=b:=⟨_,rfl⟩;rw [hb] at aw da hsz ⊢;clear hba ea hka hb;refine (mY ro so rc sc V.1 _ (R1.out.ae hkb (fun _ _ _ h=>h)) (R2.out.ae hkb (fun _ _ _ h=>h)) l1).mono ?_;rintro e w1 ⟨rfl,hk1⟩;have HK1:=Hz (hkb.trans hk1);have HB1:=Hz (hk1.ak aw (fun h=>h));have HB2:=Hz (hk1.ak da (fun h=>h));clear hk1 aw da hkb;have c0:=HB1.out.cell 0;have c1:=HB1.out.cell 1;have cl:=HB1.out.lt;have d0:=HB2.out.cell 0;have d1:=HB2.out.cell 1;have dl:=HB2.out.lt;simp only [Lz,Ls] at c0 c1 d0 d1;go_wp2_with fail;clear c0 c1 cl d0 d1 dl;go_loopw [5] (fun i wr=>∃ k:Nat,k≤V.2.length∧i=.int .i64 k∧ab (fun _=>False) w wr∧ah wr b [.slice ro V.1.length rc, .slice no V.2.length nc] 41∧ah wr (b+1) [.slice so V.1.length sc, .slice mo V.2.length mc] 41) (fun i _=>V.2.length-(intOf i).toNat)
 case atStart=>exact ⟨0,Nat.zero_le _,rfl,HK1.out,HB1.out,HB2.out⟩
 case round=>
  obtain ⟨k,hk,rfl,hkk,aw,da⟩:=hrel;have HK:=Hz hkk;have HX1:=Hz aw;have HX2:=Hz da;clear HK1 HB1 HB2 hkk aw da;have c1:=HX1.out.cell 1;have cl:=HX1.out.lt;have d1:=HX2.out.cell 1;have dl:=HX2.out.lt;simp only [Lz,Ls] at c1 d1;by_cases hlt:k<V.2.length
  ·obtain ⟨no',nc',e',N1⟩:=(M1.out.ae HK.out (fun _ _ _ h=>h) (fun _ _ h=>h)).nth;cases e';obtain ⟨mo',mc',e',N2⟩:=(M2.out.ae HK.out (fun _ _ _ h=>h) (fun _ _ h=>h)).nth;cases e';obtain ⟨g,o,ao,ac,rfl,hgl,x0,x1,rd1,-⟩:=N1 k hlt;obtain ⟨g',o',ao',ac',rfl,hgl',y0,y1,rd2,-⟩:=N2 k hlt;have hnl:(V.2.getD k (0,[])).2.length≤1000000:=by
    rw [Ld,Le hlt];exact L3.out _ (List.getElem_mem _)
   generalize V.2.getD k (0,[])=nd at *;have RD1:=Hz rd1;have RD2:=Hz rd2;clear N1 N2 rd1 rd2;go_wp2_with fail;refine ay (.free 0 (.free 2 (.free 6 (.free 8 (.pure 1 (.free 3 (.free 4 (.pure 5 (.pure 7 (.free 9 (.free 10 (.pure 11 (.free 12 (.free 13 (.free 14 (.free 16 (.free 20 (.free 22 (.pure 15 (.free 17 (.free 18 (.pure 19 (.pure 21 (.free 23 (.free 24 (.pure 25 (.run 26 (.swi [] (.free 27 (.free 28 (.fin))))))))))))))))))))))))))))))) [26,27,28] (fun w'=>w'.cell? ⟨b,1,none⟩=some (.slice (some ⟨g,o,none⟩) V.2.length nc)∧w'.cell? ⟨b+1,1,none⟩=some (.slice (some ⟨g',o',none⟩) V.2.length mc)∧w'.cell? ⟨g,o+k*2,none⟩=some (.int .i64 nd.1)∧w'.cell? ⟨g,o+k*2+1,none⟩=some (.slice ao nd.2.length ac)∧w'.cell? ⟨g',o' + k*2,none⟩=some (.int .i64 nd.1)∧w'.cell? ⟨g',o' + k*2+1,none⟩=some (.slice ao' nd.2.length ac')) (by kernel_rfl) (by kernel_rfl) ⟨c1,d1,x0,x1,y0,y1⟩ ?_
   iterate 26 ((first | refine au rfl rfl fun K hK=>?_ | refine aq rfl rfl fun K hK=>?_ | refine aF rfl rfl fun K hK=>?_ | refine az rfl rfl fun K hK=>?_ | refine aE rfl rfl fun K hK=>?_);go_simp;refine hK _ ?_;clear hK K)
   refine aJ rfl rfl rfl (fun K hK=>?_);unfold aC;go_simp;refine (mY ao ao' ac ac' nd.2 _ (RD1.out.ae ((Kz wr).drew) (fun _ _ _ h=>h)) (RD2.out.ae ((Kz wr).drew) (fun _ _ _ h=>h)) hnl).mono ?_;rintro e w2 ⟨rfl,hk2⟩;refine hK _ _ ?_;clear hK K;have HK2:=Hz (HK.out.drew.trans hk2);have HY1:=Hz (hk2.ak HX1.out.drew (fun h=>h));have HY2:=Hz (hk2.ak HX2.out.drew (fun h=>h));refine aH (fun _=>True) trivial ?_
   iterate 2 ((first | refine au rfl rfl fun K hK=>?_ | refine aq rfl rfl fun K hK=>?_);go_simp;refine hK _ ?_;clear hK K)
   refine aB ?_;go_wp2_with fail;go_roundw
   case rel=>exact ⟨k+1,by omega,by go_num,HK2.out,HY1.out,HY2.out⟩
   case measure=>simp [intOf];omega
  ·obtain rfl:k=V.2.length:=by omega
   go_wp2_with fail;go_ret;exact ⟨rfl,HK.out⟩
end
section
open Go.RowKit
def overL (p:Nat→Bool) (u:Nat→Value):Nat→List Value→List Value
 | _,[]=>[]
 | i,v :: l=>(bif p i then u i else v) :: overL p u (i+1) l
def gH (a:Act) (p:Nat→Bool) (u:Nat→Value):Act:={ a with tmps:=(overL p u 0 a.tmps.toList).toArray }
def slotsOf (a:Act) (i:Nat):Value:=a.tmps.toList.getD i undef
def rQ (a:Act) (p:Nat→Bool) (R:(Nat→Value)→World→Prop) (a':Act) (w':World):Prop:=a'=gH a p (slotsOf a')∧R (slotsOf a') w'
def BP (a:Act) (p:Nat→Bool) (R:(Nat→Value)→World→Prop) (mu:(Nat→Value)→World→Nat) (n:Nat) (a':Act) (w':World):Prop:=rQ a p R a' w'∧mu (slotsOf a') w' < n
variable {P:Program} {a:Act} {w:World} {c:Code} {Q:Exit→Act→World→Prop}
theorem pR (p:Nat→Bool) (u:Nat→Value):∀ (l:List Value) (i:Nat),(∀ j,j<l.length→u (i+j)=l.getD j undef)→overL p u i l=l
 | [],i,_=>rfl
 | v :: l,i,h=>by
  have h0:=h 0 (by simp);simp only [Nat.add_zero,List.getD_cons_zero] at h0;have ih:=pR p u l (i+1) (fun j hj=>by
   have:=h (j+1) (by simp;omega);rw [show i+(j+1)=i+1+j by omega,List.getD_cons_succ] at this
   exact this)
  simp only [overL,ih,h0];cases p i <;> rfl
theorem vg (a:Act) (p:Nat→Bool):a=gH a p (slotsOf a):=by
 cases a with
 | mk t d=>
  unfold gH slotsOf;dsimp only;rw [pR p _ t.toList 0 (fun j hj=>by rw [Nat.zero_add])]
theorem sn (p:Nat→Bool) (R:(Nat→Value)→World→Prop) (mu:(Nat→Value)→World→Nat) (h0:R (slotsOf a) w)
  (round:∀ (u:Nat→Value) (w':World),R (slotsOf (gH a p u)) w'→∀ K:Act→World→Prop,(∀ a'' w'',BP a p R mu (mu (slotsOf (gH a p u)) w') a'' w''→K a'' w'')→c.wp P (Exit.then K Q) (gH a p u) w') :
  (Code.loop c).wp P Q a w:=by
 refine wp_loop (rQ a p R) (fun a' w'=>mu (slotsOf a') w') ⟨vg a p,h0⟩ ?_;rintro a' w' ⟨e,hR⟩;obtain ⟨u,hu⟩:∃ u,u=slotsOf a':=⟨_,rfl⟩;rw [←hu] at e;subst e;exact round u w' hR _ (fun a'' w'' h=>h)
theorem im {K:Act→World→Prop} (p:Nat→Bool) (R:(Nat→Value)→World→Prop)
  (first:∀ K':Act→World→Prop,(∀ a'' w'',rQ a p R a'' w''→K' a'' w'')→c.wp P (Exit.then K' Q) a w)
  (rest:∀ (u:Nat→Value) (w':World),R (slotsOf (gH a p u)) w'→K (gH a p u) w'):c.wp P (Exit.then K Q) a w:=by
 refine wp_mono (first (rQ a p R) (fun _ _ h=>h)) ?_;intro e a' w' hq;cases e with
 | normal=>
  obtain ⟨e,hR⟩:=hq;obtain ⟨u,hu⟩:∃ u,u=slotsOf a':=⟨_,rfl⟩;rw [←hu] at e;subst e;exact rest u w' hR
 | exit id=>exact hq
 | goto l=>exact hq
 | ret=>exact hq
 | panic ch=>exact hq
 | outgrown=>exact hq
end
section
variable {τ:Type}
def wakeM (alive:τ→Int→Bool) (ae:τ→Int→τ × Int):τ→List (Int × Int)→τ × List (Int × Int) × Bool
 | t,[]=>(t,[],false)
 | t,e :: l=>
  if alive t e.1 && !alive t e.2 then
   let r:=wakeM alive ae (ae t e.2).1 l
   (r.1,(e.1,(ae t e.2).2) :: r.2.1,true)
  else
   let r:=wakeM alive ae t l
   (r.1,e :: r.2.1,r.2.2)
abbrev It:=(Int × Int) × Bool × Bool
def scanM (alive:τ→Int→Bool) (ae:τ→List (Int × Int)→Int→τ × List (Int × Int) × Int):τ→List (Int × Int)→List It→τ × List (Int × Int) × List It × Bool
 | t,q,[]=>(t,q,[],false)
 | t,q,i :: l=>
  if (i.2.1 && !i.2.2) && alive t i.1.1 then
   let r:=scanM alive ae (ae t q i.1.2).1 ((ae t q i.1.2).2.1 ++ [(i.1.1,(ae t q i.1.2).2.2)]) l
   (r.1,r.2.1,(i.1,i.2.1,true) :: r.2.2.1,true)
  else
   let r:=scanM alive ae t q l
   (r.1,r.2.1,i :: r.2.2.1,r.2.2.2)
def roundsM (alive:τ→Int→Bool) (ae:τ→List (Int × Int)→Int→τ × List (Int × Int) × Int):Nat→τ→List (Int × Int)→List It→τ × List (Int × Int) × List It
 | 0,t,q,l=>(t,q,l)
 | n+1,t,q,l=>
  let r:=scanM alive ae t q l
  if r.2.2.2 then roundsM alive ae n r.1 r.2.1 r.2.2.1 else (r.1,r.2.1,r.2.2.1)
def cV (l:List It):Nat:=(l.filter fun i=>!i.2.2).length
theorem jx (i:It) (l:List It):cV (i :: l)=(if i.2.2 then 0 else 1)+cV l:=by
 unfold cV;cases h:i.2.2 <;> simp [List.filter_cons,h];omega
theorem lI (a b:List It):cV (a ++ b)=cV a+cV b:=by unfold cV;simp
theorem jL (alive:τ→Int→Bool) (ae):∀ (l:List It) (t:τ) (q:List (Int × Int)),(scanM alive ae t q l).2.2.1.map (fun i=>(i.1,i.2.1))=l.map (fun i=>(i.1,i.2.1))
 | [],_,_=>rfl
 | i :: l,t,q=>by
  simp only [scanM];split
  ·simp only [List.map_cons];rw [jL alive ae l]
  ·simp only [List.map_cons];rw [jL alive ae l]
theorem pe (alive:τ→Int→Bool) (ae):∀ (l:List It) (t:τ) (q:List (Int × Int)),cV (scanM alive ae t q l).2.2.1≤cV l∧((scanM alive ae t q l).2.2.2=true→cV (scanM alive ae t q l).2.2.1<cV l)
 | [],_,_=>by simp [scanM]
 | i :: l,t,q=>by
  simp only [scanM];split
  ·rename_i h;have ih:=pe alive ae l (ae t q i.1.2).1 ((ae t q i.1.2).2.1 ++ [(i.1.1,(ae t q i.1.2).2.2)]);simp only [Bool.and_eq_true,Bool.not_eq_true'] at h;simp only [jx,h.1.2];simp;omega
  ·have ih:=pe alive ae l t q;simp only [jx];refine ⟨by omega,fun h=>?_⟩;have:=ih.2 h;omega
def bz (alive:τ→Int→Bool) (now:τ→Int→Int) (t:τ) (l:List It):List (Int × Int):=(l.filter fun i=>!i.2.1 && alive t i.1.1).map fun i=>(now t i.1.1,now t i.1.2)
def bC (alive:τ→Int→Bool) (now:τ→Int→Int) (t:τ) (l:List (Int × Int)):List (Int × Int):=(l.filter fun e=>alive t e.1).map fun e=>(now t e.1,now t e.2)
def bQ (alive:τ→Int→Bool) (t:τ) (av:List (Int × Int)):List It:=av.map fun e=>(e,!alive t e.2,false)
def fJ (alive:τ→Int→Bool) (ae:τ→List (Int × Int)→Int→τ × List (Int × Int) × Int) (t:τ) (av wait:List (Int × Int)):τ × List (Int × Int) × List It:=
 roundsM alive ae (av.length+1) t wait (bQ alive t av)
end
section
def gZ (G:Gr) (wait:List (Int × Int)) (S:Int→Prop) (i j:Int):Prop:=
 (((G i).1=1∨(G i).1=2)∧((3,j):Vl) ∈ (G i).2) ∨
 ((G i).1=3∧(G i).2[1]? = some (3,j)) ∨
 ((G i).1=4∧(G i).2[1]? = some (3,j)∧∀ v,(G i).2[0]? = some v→v.1=3→S v.2) ∨
 ((G i).1=5∧(i,j) ∈ wait)
def cC (G:Gr) (wait:List (Int × Int)) (S:Int→Prop):Prop:=∀ i j,S i→gZ G wait S i j→S j
def b9 (G:Gr) (wait:List (Int × Int)) (X:Int→Prop) (i:Int):Prop:=∀ S:Int→Prop,(∀ j,X j→S j)→cC G wait S→S i
section
variable {G:Gr} {wait wait':List (Int × Int)} {S S' X Y:Int→Prop} {i j:Int}
theorem gZ.mono (h:∀ k,S k→S' k) (hw:∀ e ∈ wait,e ∈ wait') (hl:gZ G wait S i j):gZ G wait' S' i j:=by
 rcases hl with h1 | h1 | ⟨h1,h2,h3⟩ | ⟨h1,h2⟩
 ·exact .inl h1
 ·exact .inr (.inl h1)
 ·exact .inr (.inr (.inl ⟨h1,h2,fun v hv h3'=>h _ (h3 v hv h3')⟩))
 ·exact .inr (.inr (.inr ⟨h1,hw _ h2⟩))
theorem b9.base (h:X i):b9 G wait X i:=fun _ hX _=>hX i h
theorem b9.least (h:b9 G wait X i) (hX:∀ k,X k→S k) (hS:cC G wait S):S i:=h S hX hS
theorem b9.closed (G:Gr) (wait:List (Int × Int)) (X:Int→Prop):cC G wait (b9 G wait X):=fun i j hi hl S hX hS=>
 hS i j (hi S hX hS) (hl.mono (fun k hk=>hk S hX hS) (fun _ h=>h))
theorem b9.mono (h:b9 G wait X i) (hX:∀ k,X k→b9 G wait' Y k) (hw:∀ e ∈ wait,e ∈ wait'):b9 G wait' Y i:=
 h _ hX (fun a b ha hl=>b9.closed G wait' Y a b ha (hl.mono (fun _ h=>h) hw))
theorem b9.entry {g t:Int} (ht:X t):b9 G (wait ++ [(g,t)]) X i↔b9 G wait X i:=by
 refine ⟨fun h=>?_,fun h=>h.mono (fun _ h=>b9.base h) (fun e he=>by simp [he])⟩;refine h.least (fun _ h=>b9.base h) (fun a b ha hl=>?_);by_cases hb:b=t
 ·subst hb;exact b9.base ht
 ·refine b9.closed G wait X a b ha ?_;rcases hl with h1 | h1 | h1 | ⟨h1,h2⟩
  ·exact .inl h1
  ·exact .inr (.inl h1)
  ·exact .inr (.inr (.inl h1))
  ·refine .inr (.inr (.inr ⟨h1,?_⟩));rcases List.mem_append.1 h2 with h3 | h3
   ·exact h3
   ·simp at h3;exact absurd h3.2 hb
end
def ax (l:List Bool) (i:Int):Bool:=decide (0≤i) && l.getD i.toNat false
theorem eV (l:List Bool) (i:Nat):ax l i=l.getD i false:=by simp [ax]
theorem kB {l:List Bool} {i:Int} (h:ax l i=true):0≤i∧i<l.length:=by
 unfold ax at h;simp only [Bool.and_eq_true,decide_eq_true_eq] at h;refine ⟨h.1,?_⟩;by_cases hl:i.toNat<l.length
 ·omega
 ·have h2:=h.2;rw [Ld,List.getElem?_eq_none (by omega)] at h2;cases h2
open Classical in
noncomputable def l9 (G:Gr) (wait:List (Int × Int)) (is:List Bool):List Bool:=
 (List.range is.length).map fun i=>decide (b9 G wait (fun k=>ax is k=true) (i:Nat))
theorem du (G:Gr) (wait:List (Int × Int)) (is:List Bool):(l9 G wait is).length=is.length:=by simp [l9]
open Classical in
theorem c6 {G:Gr} {wait:List (Int × Int)} {is:List Bool} {i:Int}:ax (l9 G wait is) i=true↔0≤i∧i<is.length∧b9 G wait (fun k=>ax is k=true) i:=by
 constructor
 ·intro h;have:=kB h;rw [du] at this;refine ⟨this.1,this.2,?_⟩;unfold ax l9 at h;simp only [Bool.and_eq_true,Ld,List.getElem?_map] at h;rw [List.getElem?_range (by omega)] at h;have h2:=h.2;simp only [Option.map_some,Option.getD_some,decide_eq_true_eq] at h2;rwa [show ((i.toNat:Nat):Int)=i by omega] at h2
 ·rintro ⟨h0,h1,h2⟩;unfold ax l9;simp only [Bool.and_eq_true,Ld,List.getElem?_map];rw [List.getElem?_range (by omega)];refine ⟨by simpa using h0,?_⟩;simp only [Option.map_some,Option.getD_some,decide_eq_true_eq];rwa [show ((i.toNat:Nat):Int)=i by omega]
theorem uF {a b:List Bool} (hl:a.length=b.length) (h:∀ i:Int,0≤i→i<a.length→(ax a i=true↔ax b i=true)):a=b:=by
 apply List.ext_getElem hl;intro k h1 h2;have:=h k (by omega) (by omega);simp only [eV,Ld,Le h1,Le h2,Option.getD_some] at this;rw [Bool.eq_iff_iff];exact this
theorem zW {G:Gr} {wait:List (Int × Int)} {is out:List Bool} (hl:out.length=is.length) (h1:∀ i,ax is i=true→ax out i=true) (h2:∀ i,ax out i=true→b9 G wait (fun k=>ax is k=true) i)
  (h3:cC G wait fun k=>ax out k=true):out=l9 G wait is:=by
 refine uF (by rw [du,hl]) fun i h0 hlt=>?_;rw [c6];exact ⟨fun h=>⟨h0,by omega,h2 i h⟩,fun h=>h.2.2.least h1 h3⟩
theorem fM {is:List Bool} {x i:Int} (h0:0≤x) (h1:x<is.length):ax (is.set x.toNat true) i=true↔i=x∨ax is i=true:=by
 unfold ax;simp only [Bool.and_eq_true,decide_eq_true_eq,Ld,List.getElem?_set];by_cases e:x.toNat=i.toNat
 ·rw [if_pos e,if_pos (by omega)];simp only [Option.getD_some,and_true];constructor
  ·intro h;left;omega
  ·rintro (rfl | ⟨h,_⟩)
   ·exact h0
   ·exact h
 ·rw [if_neg e];constructor
  ·intro h;exact .inr h
  ·rintro (rfl | h)
   ·exact absurd rfl e
   ·exact h
theorem vh {G:Gr} {wait:List (Int × Int)} {is:List Bool} {g t:Int} (ht:ax is t=true):l9 G (wait ++ [(g,t)]) is=l9 G wait is:=by
 refine uF (by rw [du,du]) fun i h0 hlt=>?_;rw [c6,c6,b9.entry (X:=fun k=>ax is k=true) ht]
structure Th where
 k:Int
 fs:List Vl
 aP:Bool
 dead:Bool
structure Wd where
 T:List Th
 roots:List Vl
 av:List (Int × Int)
 wait:List (Int × Int)
 most:Int
 grow:Int
def Wd.new (n o:Int):Wd:=⟨[],List.replicate 12 (0,0),[],[],n,o⟩
def Th.none:Th:=⟨0,[],false,true⟩
def Wd.th (W:Wd) (i:Int):Th:=W.T.getD i.toNat Th.none
def Wd.rt (W:Wd) (k:Int):Vl:=W.roots.getD k.toNat (0,0)
def Th.words (t:Th):Int:=1+t.fs.length
def Wd.nd (W:Wd):Gr:=fun i=>((W.th i).k,(W.th i).fs)
def ed (wait:List (Int × Int)) (g:Int):List Int:=(wait.filter fun e=>e.1 == g).map (·.2)
def Wd.gr (W:Wd):Gr:=fun i=>((W.th i).k,(W.th i).fs ++ if (W.th i).k=5 then (ed W.wait i).map fun x=>((3,x):Vl) else [])
def Wd.view (W:Wd):List Vl × List Nd:=j2 W.gr W.roots
def de (l:List Th) (p:Th→Bool):Int:=(l.map fun t=>if p t then t.words else 0).sum
def Wd.aG (W:Wd):Int:=de W.T fun t=>!t.dead && !t.aP
def Wd.cH (W:Wd):Int:=de W.T fun t=>!t.dead && t.aP
def Wd.first (W:Wd) (major:Bool):List Bool:=
 (List.range W.T.length).map fun (i:Nat)=>((W.th (i:Int)).aP && !(W.th (i:Int)).dead && !major) || W.roots.any fun v=>v.1 == 3 && v.2 == (i:Int)
noncomputable def Wd.cX (W:Wd) (wait:List (Int × Int)) (is:List Bool):List Bool:=l9 W.nd wait is
noncomputable def Wd.bx (W:Wd) (is:List Bool) (q:List (Int × Int)) (x:Int):List Bool × List (Int × Int) × Int:=(W.cX q (is.set x.toNat true),q,x)
def eR (is:List Bool) (x:Int):Int:=x
noncomputable def Wd.pass (W:Wd) (major:Bool):List Bool × List (Int × Int) × List It:=fJ ax W.bx (W.cX W.wait (W.first major)) W.av W.wait
def bJ (is:List Bool) (v:Vl):Bool:=v.1 != 3 || ax is v.2
def dv (is:List Bool) (i:Nat) (t:Th):Th:=
 if is.getD i false then
  ⟨t.k,if t.k=4∧bJ is (t.fs.getD 0 (0,0))=false then [(2,0),(2,0)]
   else if t.k=3∧bJ is (t.fs.getD 0 (0,0))=false then [(2,0),t.fs.getD 1 (0,0)] else t.fs,true,t.dead⟩
 else ⟨t.k,[],t.aP,true⟩
def ma (is:List Bool) (l:List Th):List Th:=l.mapIdx fun i t=>dv is i t
def eU (is:List Bool) (l:List Th):Int:=(l.mapIdx fun i t=>if is.getD i false then t.words else 0).sum
noncomputable def Wd.after (W:Wd) (major:Bool):Wd:=
 { W with T:=ma (W.pass major).1 W.T,av:=bz ax eR (W.pass major).1 (W.pass major).2.2,wait:=bC ax eR (W.pass major).1 (W.pass major).2.1 }
noncomputable def Wd.cut (W:Wd) (major:Bool):Int × Wd:=
 if major=false∧W.aG > W.grow-W.cH then (3,W)
 else if eU (W.pass major).1 W.T > W.grow then (3,W)
 else (0,W.after major)
structure St where
 k:Int
 r:Int
 a:Int
 b:Int
 i:Int
 n:Int
def aR (k:Int):Int:=
 if k=1∨k=2∨k=8 then 1 else if k=3∨k=5∨k=10∨k=11∨k=13 then 3 else if k=4∨k=6∨k=7∨k=14 then 7 else if k=9∨k=12 then 6 else if k=15∨k=16 then 0 else -1
def bD (k:Int):Bool:=decide (0≤k) && decide (k<12)
def aX (x:St):Int:=
 if aR x.k=-1 then 2
 else if (aR x.k%2=1∧bD x.r=false)∨(aR x.k/2%2=1∧bD x.a=false)∨(aR x.k/4%2=1∧bD x.b=false) then 1
 else if x.k=1∧¬ (-cA≤x.n∧x.n<cA) then 1
 else if x.k=5∧¬ (0≤x.n∧x.n≤12) then 1
 else 0
def Wd.cB (W:Wd) (r:Int) (v:Vl):Wd:={ W with roots:=W.roots.set r.toNat v }
def Wd.put (W:Wd) (r k:Int) (from_:List Vl):Wd:={ W with T:=W.T ++ [⟨k,from_,false,false⟩],roots:=W.roots.set r.toNat (iF W.T.length) }
noncomputable def Wd.room (W:Wd) (n:Int):Int × Wd:=if n > W.most-W.aG then W.cut (decide (W.aG > W.grow-W.cH)) else (0,W)
noncomputable def Wd.bR (W:Wd) (r k:Int) (from_:List Int):Int × Wd:=
 if (W.room (1+from_.length)).1=0 then (0,(W.room (1+from_.length)).2.put r k (from_.map (W.room (1+from_.length)).2.rt)) else ((W.room (1+from_.length)).1,W)
def Wd.aj (W:Wd) (k:Int):Int:=if (W.rt k).1=3 then (W.rt k).2 else -1
def Wd.guard (W:Wd) (k:Int):Int:=if W.aj k<0∨(W.th (W.aj k)).k≠5 then -1 else W.aj k
def Wd.dw (W:Wd) (i:Int) (fs:List Vl):Wd:={ W with T:=W.T.set i.toNat { W.th i with fs:=fs } }
def popW (wait:List (Int × Int)) (g:Int):Option (Int × List (Int × Int)):=
 match wait with
 | []=>none
 | e :: l=>if e.1=g then some (e.2,l) else (popW l g).map fun r=>(r.1,e :: r.2)
def Wd.ic (W:Wd) (x:St):Int × Wd:=
 if W.aj x.a<0∨W.guard x.b<0 then (2,W)
 else if 24≤W.av.length+W.wait.length then (3,W)
 else (0, { W with av:=W.av ++ [(W.guard x.b,W.aj x.a)] })
def Wd.pop (W:Wd) (x:St):Int × Wd:=
 if W.guard x.a<0 then (2,W)
 else match popW W.wait (W.guard x.a) with
  | none=>(4,W)
  | some r=>(0, { W with wait:=r.2,roots:=W.roots.set x.r.toNat (3,r.1) })
def Wd.cP (W:Wd) (x:St):Int:=
 if W.aj x.a<0∨(W.th (W.aj x.a)).k=5 then 2 else if x.i<0∨((W.th (W.aj x.a)).fs.length:Int)≤x.i then 1 else 0
def Wd.get (W:Wd) (x:St):Int × Wd:=if W.cP x=0 then (0,W.cB x.r ((W.th (W.aj x.a)).fs.getD x.i.toNat (0,0))) else (W.cP x,W)
def Wd.set (W:Wd) (x:St):Int × Wd:=if W.cP x=0 then (0,W.dw (W.aj x.a) ((W.th (W.aj x.a)).fs.set x.i.toNat (W.rt x.b))) else (W.cP x,W)
def Wd.len (W:Wd) (x:St):Int × Wd:=if W.aj x.a<0∨(W.th (W.aj x.a)).k=5 then (2,W) else (0,W.cB x.r (1,(W.th (W.aj x.a)).fs.length))
def Wd.same (W:Wd) (x:St):Int × Wd:=(0,W.cB x.r (1,if W.rt x.a=W.rt x.b then 1 else 0))
noncomputable def Wd.step (W:Wd) (x:St):Int × Wd:=
 if x.k=1 then (0,W.cB x.r (1,x.n))
 else if x.k=2 then (0,W.cB x.r (0,0))
 else if x.k=3 then (0,W.cB x.r (W.rt x.a))
 else if x.k=4 then W.bR x.r 1 [x.a,x.b]
 else if x.k=5 then W.bR x.r 2 (List.replicate x.n.toNat x.a)
 else if x.k=6 then W.bR x.r 3 [x.a,x.b]
 else if x.k=7 then W.bR x.r 4 [x.a,x.b]
 else if x.k=8 then W.bR x.r 5 []
 else if x.k=9 then W.ic x
 else if x.k=10 then W.pop x
 else if x.k=11 then W.get x
 else if x.k=12 then W.set x
 else if x.k=13 then W.len x
 else if x.k=14 then W.same x
 else if x.k=15 then W.cut false
 else W.cut true
noncomputable def Wd.do (W:Wd) (x:St):Int × Wd:=if aX x=0 then W.step x else (aX x,W)
end
section
def Wd.live (W:Wd) (i:Int):Prop:=0≤i∧i<W.T.length∧(W.th i).dead=false
def Wd.cI (W:Wd) (v:Vl):Prop:=(v.1=0∧v.2=0)∨(v.1=1∧-cA≤v.2∧v.2<cA)∨(v.1=2∧v.2=0)∨(v.1=3∧W.live v.2)
def Wd.dj (W:Wd) (e:Int × Int):Prop:=W.live e.1∧(W.th e.1).k=5∧W.live e.2
structure Wd.ok (W:Wd):Prop where
 hr:W.roots.length=12
 rv:∀ v ∈ W.roots,W.cI v
 tk:∀ i,W.live i→bs (W.th i).k (W.th i).fs.length=true
 tv:∀ i,W.live i→∀ v ∈ (W.th i).fs,W.cI v
 gv:∀ e ∈ W.av,W.dj e
 wv:∀ e ∈ W.wait,W.dj e
 hq:W.av.length+W.wait.length≤24
 m1:16≤W.most
 m2:W.most≤256
 g1:0≤W.grow
 g2:W.grow≤1024
 uy:W.aG≤W.most
 uo:W.cH≤W.grow
theorem Wd.qN {W:Wd} {i:Int} (h:W.live i):∃ (h':i.toNat<W.T.length),W.th i=W.T[i.toNat]:=by
 have h1:=h.1;have h2:=h.2.1;have h':i.toNat<W.T.length:=by omega
 exact ⟨h',by unfold Wd.th;rw [Ld,Le h'];rfl⟩
theorem Wd.bh {W:Wd} {v:Vl} (h:W.cI v) (h3:v.1=3):W.live v.2:=by
 rcases h with h | h | h | h
 ·have:=h.1;omega
 ·have:=h.1;omega
 ·have:=h.1;omega
 ·exact h.2
theorem Wd.ss {W W':Wd} (h:∀ i,W.live i→W'.live i) {v:Vl} (hv:W.cI v):W'.cI v:=by
 rcases hv with h1 | h1 | h1 | h1
 ·exact .inl h1
 ·exact .inr (.inl h1)
 ·exact .inr (.inr (.inl h1))
 ·exact .inr (.inr (.inr ⟨h1.1,h _ h1.2⟩))
theorem fE (l:List Th) (p:Th→Bool):0≤de l p:=by
 unfold de
 induction l with
 | nil=>simp
 | cons t l ih=>
  simp only [List.map_cons,List.sum_cons];have:0≤(if p t then t.words else 0):=by split <;> simp [Th.words];omega
  omega
theorem kC (a b:List Th) (p:Th→Bool):de (a ++ b) p=de a p+de b p:=by simp [de]
theorem su (l:List Th) (p:Th→Bool) (i:Nat) (t:Th) (h:i<l.length) (hp:p t=p l[i]) (hw:t.words=l[i].words):de (l.set i t) p=de l p:=by
 unfold de;have:(l.set i t).map (fun t=>if p t then t.words else 0)=l.map (fun t=>if p t then t.words else 0):=by
  apply List.ext_getElem (by simp);intro j h1 h2;simp only [List.getElem_map,List.getElem_set];split
  ·rename_i e;subst e;rw [hp,hw]
  ·rfl
 rw [this]
theorem Wd.g5 {W:Wd} (h:W.ok) (k:Int):W.cI (W.rt k):=by
 unfold Wd.rt;rw [Ld];cases hx:W.roots[k.toNat]? with
 | none=>exact .inl ⟨rfl,rfl⟩
 | some v=>exact h.rv _ (List.mem_of_getElem? hx)
theorem Wd.ok.cB {W:Wd} (h:W.ok) {v:Vl} (hv:W.cI v) (r:Int):(W.cB r v).ok:=by
 refine ⟨by simpa [Wd.cB] using h.hr,fun u hu=>?_,h.tk,h.tv,h.gv,h.wv,h.hq,h.m1,h.m2,h.g1,h.g2,h.uy,h.uo⟩;rcases List.mem_or_eq_of_mem_set hu with h1 | rfl
 ·exact h.rv u h1
 ·exact hv
theorem Wd.lJ {W:Wd} {r k:Int} {l:List Vl} {i:Int} (h0:0≤i) (h:i<W.T.length):(W.put r k l).th i=W.th i:=by
 unfold Wd.th Wd.put;simp only [Ld];rw [List.getElem?_append_left (by omega)]
theorem Wd.fh {W:Wd} {r k:Int} {l:List Vl}:(W.put r k l).th W.T.length=⟨k,l,false,false⟩:=by
 unfold Wd.th Wd.put;simp only [Ld,Int.toNat_natCast];rw [List.getElem?_append_right (Nat.le_refl _)];simp
theorem Wd.kD {W:Wd} {r k:Int} {l:List Vl} {i:Int} (h:W.live i):(W.put r k l).live i:=by
 refine ⟨h.1,?_,?_⟩
 ·have:=h.2.1;simp [Wd.put];omega
 ·rw [Wd.lJ h.1 h.2.1];exact h.2.2
theorem Wd.fV {W:Wd} {r k:Int} {l:List Vl} {i:Int} (h:(W.put r k l).live i):W.live i∨i=W.T.length:=by
 have h1:=h.2.1;simp [Wd.put] at h1;by_cases e:i=W.T.length
 ·exact .inr e
 ·refine .inl ⟨h.1,by omega,?_⟩;have:=h.2.2;rwa [Wd.lJ h.1 (by omega)] at this
theorem Wd.wL {W:Wd} {r k:Int} {l:List Vl}:(W.put r k l).aG=W.aG+(1+l.length):=by
 unfold Wd.aG Wd.put;rw [kC];simp [de,Th.words]
theorem Wd.yj {W:Wd} {r k:Int} {l:List Vl}:(W.put r k l).cH=W.cH:=by
 unfold Wd.cH Wd.put;rw [kC];simp [de]
theorem Wd.ok.put {W:Wd} (h:W.ok) {r k:Int} {l:List Vl} (hf:bs k l.length=true) (hl:∀ v ∈ l,W.cI v) (hroom:1+(l.length:Int)≤W.most-W.aG):(W.put r k l).ok:=by
 have hm:∀ {v},W.cI v→(W.put r k l).cI v:=fun hv=>Wd.ss (fun i hi=>Wd.kD hi) hv;have he:∀ e,W.dj e→(W.put r k l).dj e:=fun e he=>⟨Wd.kD he.1,by rw [Wd.lJ he.1.1 he.1.2.1];exact he.2.1,Wd.kD he.2.2⟩;refine ⟨by simpa [Wd.put] using h.hr,fun u hu=>?_,fun i hi=>?_,fun i hi v hv=>?_,fun e h1=>he e (h.gv e h1),fun e h1=>he e (h.wv e h1),h.hq,h.m1,h.m2,h.g1,h.g2,?_,?_⟩
 ·rcases List.mem_or_eq_of_mem_set hu with h1 | rfl
  ·exact hm (h.rv u h1)
  ·refine .inr (.inr (.inr ⟨rfl,?_,?_,?_⟩))
   ·simp [iF]
   ·simp [Wd.put,iF];omega
   ·show ((W.put r k l).th (W.T.length:Int)).dead=false
    rw [Wd.fh]
 ·rcases Wd.fV hi with h1 | rfl
  ·rw [Wd.lJ h1.1 h1.2.1];exact h.tk i h1
  ·rw [Wd.fh];exact hf
 ·rcases Wd.fV hi with h1 | rfl
  ·rw [Wd.lJ h1.1 h1.2.1] at hv;exact hm (h.tv i h1 v hv)
  ·rw [Wd.fh] at hv;exact hm (hl v hv)
 ·show (W.put r k l).aG≤W.most
  rw [Wd.wL];omega
 ·show (W.put r k l).cH≤W.grow
  rw [Wd.yj];exact h.uo
theorem Wd.kg {W:Wd} {j:Int} {fs:List Vl} {i:Int} (h0:0≤i) (hj:W.live j):(W.dw j fs).th i=if i=j then { W.th j with fs:=fs } else W.th i:=by
 obtain ⟨h',e⟩:=Wd.qN hj;unfold Wd.dw;simp only [Wd.th,Ld,List.getElem?_set];by_cases e2:i=j
 ·subst e2;rw [if_pos rfl,if_pos h',if_pos rfl];rfl
 ·have:=hj.1;rw [if_neg (by omega),if_neg e2]
theorem Wd.iS {W:Wd} {j:Int} {fs:List Vl} (hj:W.live j) (i:Int):(W.dw j fs).live i↔W.live i:=by
 unfold Wd.live;constructor
 ·rintro ⟨h0,h1,h2⟩;rw [Wd.kg h0 hj] at h2;refine ⟨h0,by simpa [Wd.dw] using h1,?_⟩;by_cases e:i=j
  ·subst e;exact hj.2.2
  ·rwa [if_neg e] at h2
 ·rintro ⟨h0,h1,h2⟩;refine ⟨h0,by simpa [Wd.dw] using h1,?_⟩;rw [Wd.kg h0 hj];split
  ·exact hj.2.2
  ·exact h2
theorem Wd.wM {W:Wd} {j:Int} {fs:List Vl} (hj:W.live j) {i:Int} (h0:0≤i):((W.dw j fs).th i).k=(W.th i).k:=by
 rw [Wd.kg h0 hj];split
 ·rename_i e;subst e;rfl
 ·rfl
theorem Wd.yk {W:Wd} {j:Int} {fs:List Vl} (hj:W.live j) (hl:fs.length=(W.th j).fs.length):(W.dw j fs).aG=W.aG∧(W.dw j fs).cH=W.cH:=by
 obtain ⟨h',e⟩:=Wd.qN hj;constructor
 ·exact su _ _ _ _ h' (by simp [e]) (by simp [Th.words,hl,e])
 ·exact su _ _ _ _ h' (by simp [e]) (by simp [Th.words,hl,e])
theorem Wd.ok.dw {W:Wd} (h:W.ok) {j:Int} {fs:List Vl} (hj:W.live j) (hl:fs.length=(W.th j).fs.length) (hv:∀ v ∈ fs,W.cI v):(W.dw j fs).ok:=by
 have hm:∀ {v},W.cI v→(W.dw j fs).cI v:=fun hv=>Wd.ss (fun i hi=>(Wd.iS hj i).2 hi) hv;have he:∀ e,W.dj e→(W.dw j fs).dj e:=fun e he=>⟨(Wd.iS hj _).2 he.1,by rw [Wd.wM hj he.1.1];exact he.2.1,(Wd.iS hj _).2 he.2.2⟩;have hs:=Wd.yk hj hl;refine ⟨h.hr,fun u hu=>hm (h.rv u hu),fun i hi=>?_,fun i hi v hv'=>?_,fun e h1=>he e (h.gv e h1),fun e h1=>he e (h.wv e h1),h.hq,h.m1,h.m2,h.g1,h.g2,?_,?_⟩
 ·have h1:=(Wd.iS hj i).1 hi;rw [Wd.kg hi.1 hj];split
  ·rename_i e;subst e;show bs (W.th i).k (fs.length:Nat)=true;rw [hl];exact h.tk i h1
  ·exact h.tk i h1
 ·have h1:=(Wd.iS hj i).1 hi;rw [Wd.kg hi.1 hj] at hv';split at hv'
  ·exact hm (hv v hv')
  ·exact hm (h.tv i h1 v hv')
 ·show (W.dw j fs).aG≤W.most;rw [hs.1];exact h.uy
 ·show (W.dw j fs).cH≤W.grow;rw [hs.2];exact h.uo
theorem Wd.eK (W:Wd) (major:Bool):(W.first major).length=W.T.length:=by simp [Wd.first]
theorem Wd.jy {W:Wd} {major:Bool} {i:Int}:ax (W.first major) i=true↔0≤i∧i<W.T.length∧(((W.th i).aP=true∧(W.th i).dead=false∧major=false)∨((3,i):Vl) ∈ W.roots):=by
 constructor
 ·intro h;have hb:=kB h;rw [Wd.eK] at hb;refine ⟨hb.1,hb.2,?_⟩;unfold ax Wd.first at h
  simp only [Bool.and_eq_true,Ld,List.getElem?_map] at h;rw [List.getElem?_range (by omega)] at h;have h2:=h.2;simp only [Option.map_some,Option.getD_some,show ((i.toNat:Nat):Int)=i by omega,Bool.or_eq_true,Bool.and_eq_true,Bool.not_eq_true',List.any_eq_true,beq_iff_eq] at h2;rcases h2 with h2 | ⟨v,h3,h4,h5⟩
  ·exact .inl ⟨h2.1.1,h2.1.2,h2.2⟩
  ·right;have:v=(3,i):=by cases v;simp_all
   rwa [this] at h3
 ·rintro ⟨h0,h1,h2⟩;unfold ax Wd.first
  simp only [Bool.and_eq_true,Ld,List.getElem?_map];rw [List.getElem?_range (by omega)];refine ⟨by simpa using h0,?_⟩;simp only [Option.map_some,Option.getD_some,show ((i.toNat:Nat):Int)=i by omega,Bool.or_eq_true,Bool.and_eq_true,Bool.not_eq_true',List.any_eq_true,beq_iff_eq];rcases h2 with h2 | h2
  ·exact .inl ⟨⟨h2.1,h2.2.1⟩,h2.2.2⟩
  ·exact .inr ⟨_,h2,rfl,rfl⟩
structure Wd.dP (W:Wd) (major:Bool) (is:List Bool) (q:List (Int × Int)):Prop where
 len:is.length=W.T.length
 live:∀ i,ax is i=true→W.live i
 first:∀ i,ax (W.first major) i=true→ax is i=true
 shut:cC W.nd q fun i=>ax is i=true
 wv:∀ e ∈ q,W.dj e
theorem Wd.iT {W:Wd} (h:W.ok) {q:List (Int × Int)} (hq:∀ e ∈ q,W.dj e):cC W.nd q W.live:=by
 intro i j hi hl;rcases hl with h1 | h1 | h1 | h1
 ·exact Wd.bh (h.tv i hi _ h1.2) rfl
 ·exact Wd.bh (h.tv i hi _ (List.mem_of_getElem? h1.2)) rfl
 ·exact Wd.bh (h.tv i hi _ (List.mem_of_getElem? h1.2.1)) rfl
 ·exact (hq _ h1.2).2.2
theorem Wd.pS {W:Wd} (h:W.ok) {major:Bool} {i:Int} (hi:ax (W.first major) i=true):W.live i:=by
 obtain ⟨h0,h1,h2 | h2⟩:=Wd.jy.1 hi
 ·exact ⟨h0,h1,h2.2.1⟩
 ·exact Wd.bh (h.rv _ h2) rfl
theorem Wd.dP.start {W:Wd} (h:W.ok) (major:Bool):W.dP major (W.cX W.wait (W.first major)) W.wait:=by
 have hlen:(W.cX W.wait (W.first major)).length=W.T.length:=by unfold Wd.cX;rw [du,Wd.eK]
 have hl:∀ i,ax (W.cX W.wait (W.first major)) i=true→W.live i:=fun i hi=>
  (c6.1 hi).2.2.least (fun k hk=>Wd.pS h hk) (Wd.iT h h.wv)
 refine ⟨hlen,hl,fun i hi=>c6.2 ⟨(kB hi).1,(kB hi).2,b9.base hi⟩,?_,h.wv⟩;intro i j hi hj;have hlv:=Wd.iT h h.wv i j (hl i hi) (hj.mono (fun k hk=>hl k hk) (fun _ h=>h));refine c6.2 ⟨hlv.1,by rw [Wd.eK];exact hlv.2.1,?_⟩;exact b9.closed _ _ _ i j (c6.1 hi).2.2 (hj.mono (fun k hk=>(c6.1 hk).2.2) (fun _ h=>h))
theorem Wd.dP.ae {W:Wd} (h:W.ok) {major:Bool} {is:List Bool} {q:List (Int × Int)} (m:W.dP major is q) {g x:Int} (hx:W.live x) (hg:W.live g) (hk:(W.th g).k=5) :
  W.dP major (W.cX q (is.set x.toNat true)) (q ++ [(g,x)])∧(∀ i,ax is i=true→ax (W.cX q (is.set x.toNat true)) i=true)∧ax (W.cX q (is.set x.toNat true)) x=true:=by
 have hset:∀ i,ax (is.set x.toNat true) i=true↔i=x∨ax is i=true:=fun i=>fM hx.1 (by rw [m.len];exact hx.2.1);have hsl:(is.set x.toNat true).length=W.T.length:=by rw [List.length_set,m.len]
 have hq':∀ e ∈ q ++ [(g,x)],W.dj e:=by
  intro e he;rcases List.mem_append.1 he with h1 | h1
  ·exact m.wv e h1
  ·rw [List.mem_singleton.1 h1];exact ⟨hg,hk,hx⟩
 have hsv:∀ k,ax (is.set x.toNat true) k=true→W.live k:=by
  intro k hk;rcases (hset k).1 hk with rfl | h1
  ·exact hx
  ·exact m.live k h1
 have hl:∀ i,ax (W.cX q (is.set x.toNat true)) i=true→W.live i:=fun i hi=>(c6.1 hi).2.2.least hsv (Wd.iT h m.wv);have up:∀ i,ax (is.set x.toNat true) i=true→ax (W.cX q (is.set x.toNat true)) i=true:=fun i hi=>c6.2 ⟨(kB hi).1,(kB hi).2,b9.base hi⟩;have hxx:=up x ((hset x).2 (.inl rfl));refine ⟨⟨by unfold Wd.cX;rw [du,hsl],hl,fun i hi=>up i ((hset i).2 (.inr (m.first i hi))),?_,hq'⟩,fun i hi=>up i ((hset i).2 (.inr hi)),hxx⟩;intro i j hi hj;by_cases e:j=x
 ·subst e;exact hxx
 ·have hj':gZ W.nd q (fun k=>ax (W.cX q (is.set x.toNat true)) k=true) i j:=by
   rcases hj with h1 | h1 | h1 | ⟨h1,h2⟩
   ·exact .inl h1
   ·exact .inr (.inl h1)
   ·exact .inr (.inr (.inl h1))
   ·refine .inr (.inr (.inr ⟨h1,?_⟩));rcases List.mem_append.1 h2 with h3 | h3
    ·exact h3
    ·simp at h3;exact absurd h3.2 e
  have hlv:=Wd.iT h m.wv i j (hl i hi) (hj'.mono (fun k hk=>hl k hk) (fun _ h=>h));refine c6.2 ⟨hlv.1,by rw [hsl];exact hlv.2.1,?_⟩;exact b9.closed _ _ _ i j (c6.1 hi).2.2 (hj'.mono (fun k hk=>(c6.1 hk).2.2) (fun _ h=>h))
theorem mZ (a:Int × Int) (b:Bool) (l:List It):cV ((a,b,true) :: l)=cV l:=by rw [jx];simp
theorem nY {i:It} (h:i.2.2=false) (l:List It):cV (i :: l)=1+cV l:=by rw [jx,h];simp
theorem pg (l:List (Int × Int)) (f:Int × Int→Bool):cV (l.map fun e=>(e,f e,false))=l.length:=by
 induction l with
 | nil=>rfl
 | cons a l ih=>rw [List.map_cons,nY rfl,ih];simp;omega
theorem Wd.dP.scan {W:Wd} (h:W.ok) {major:Bool}:∀ (l:List It) (is:List Bool) (q:List (Int × Int)),W.dP major is q→(∀ i ∈ l,W.dj i.1) →
  W.dP major (scanM ax W.bx is q l).1 (scanM ax W.bx is q l).2.1∧(∀ i,ax is i=true→ax (scanM ax W.bx is q l).1 i=true) ∧
  (scanM ax W.bx is q l).2.1.length+cV (scanM ax W.bx is q l).2.2.1=q.length+cV l
 | [],is,q,m,_=>⟨m,fun _ h=>h,rfl⟩
 | i :: l,is,q,m,hl=>by
  have hi:=hl i (by simp);simp only [scanM];split
  ·rename_i hc;simp only [Bool.and_eq_true,Bool.not_eq_true'] at hc;obtain ⟨m',hm1,_⟩:=m.ae h (g:=i.1.1) (x:=i.1.2) hi.2.2 hi.1 hi.2.1;have ih:=Wd.dP.scan h l _ _ m' (fun j hj=>hl j (by simp [hj]));simp only [Wd.bx];refine ⟨ih.1,fun k hk=>ih.2.1 k (hm1 k hk),?_⟩;have h3:=ih.2.2;simp only [Wd.bx,List.length_append,List.length_cons,List.length_nil] at h3;rw [mZ,nY hc.1.2];omega
  ·have ih:=Wd.dP.scan h l is q m (fun j hj=>hl j (by simp [hj]));refine ⟨ih.1,ih.2.1,?_⟩;have h3:=ih.2.2;simp only [jx] at h3 ⊢;omega
theorem me {W:Wd} {l:List It} (is:List Bool) (q:List (Int × Int)) (hl:∀ i ∈ l,W.dj i.1):∀ i ∈ (scanM ax W.bx is q l).2.2.1,W.dj i.1:=by
 intro i hi;have h1:(i.1,i.2.1) ∈ (scanM ax W.bx is q l).2.2.1.map (fun i=>(i.1,i.2.1)):=List.mem_map.2 ⟨i,hi,rfl⟩;rw [jL] at h1;obtain ⟨j,hj,e⟩:=List.mem_map.1 h1;have:=hl j hj;have e1:j.1=i.1:=congrArg (fun p:(Int × Int) × Bool=>p.1) e;rwa [e1] at this
theorem Wd.dP.rounds {W:Wd} (h:W.ok) {major:Bool}:∀ (n:Nat) (l:List It) (is:List Bool) (q:List (Int × Int)),W.dP major is q→(∀ i ∈ l,W.dj i.1) →
  W.dP major (roundsM ax W.bx n is q l).1 (roundsM ax W.bx n is q l).2.1∧(∀ i,ax is i=true→ax (roundsM ax W.bx n is q l).1 i=true) ∧
  (roundsM ax W.bx n is q l).2.1.length+cV (roundsM ax W.bx n is q l).2.2=q.length+cV l ∧
  (roundsM ax W.bx n is q l).2.2.map (fun i=>(i.1,i.2.1))=l.map (fun i=>(i.1,i.2.1))
 | 0,l,is,q,m,_=>⟨m,fun _ h=>h,rfl,rfl⟩
 | n+1,l,is,q,m,hl=>by
  have hs:=Wd.dP.scan h l is q m hl;have hf:=jL ax W.bx l is q;simp only [roundsM];split
  ·have ih:=Wd.dP.rounds h n (scanM ax W.bx is q l).2.2.1 _ _ hs.1 (me is q hl);refine ⟨ih.1,fun k hk=>ih.2.1 k (hs.2.1 k hk),by rw [ih.2.2.1,hs.2.2],by rw [ih.2.2.2,hf]⟩
  ·exact ⟨hs.1,hs.2.1,hs.2.2,hf⟩
theorem Wd.iH {W:Wd} (h:W.ok) (major:Bool):W.dP major (W.pass major).1 (W.pass major).2.1∧(∀ i,ax (W.cX W.wait (W.first major)) i=true→ax (W.pass major).1 i=true) ∧
  (W.pass major).2.1.length+cV (W.pass major).2.2=W.wait.length+W.av.length ∧
  (W.pass major).2.2.map (fun i=>(i.1,i.2.1))=W.av.map fun e=>(e,!ax (W.cX W.wait (W.first major)) e.2):=by
 have:=Wd.dP.rounds h (W.av.length+1) (bQ ax (W.cX W.wait (W.first major)) W.av) _ _ (Wd.dP.start h major) (by
  intro i hi;simp only [bQ,List.mem_map] at hi;obtain ⟨e,he,rfl⟩:=hi
  exact h.gv e he)
 refine ⟨this.1,this.2.1,?_,?_⟩
 ·have h3:=this.2.2.1;have:cV (bQ ax (W.cX W.wait (W.first major)) W.av)=W.av.length:=pg _ _;rw [this] at h3;exact h3
 ·have h3:=this.2.2.2;rw [Wd.pass,fJ,h3];simp [bQ]
end
section
theorem dN {is:List Bool} {i:Int} (h0:0≤i):is.getD i.toNat false=ax is i:=by unfold ax;simp [h0]
theorem kW (is:List Bool) (i:Nat) (t:Th):(dv is i t).k=t.k:=by unfold dv;split <;> rfl
theorem kX {is:List Bool} {i:Nat} {t:Th} (h:is.getD i false=true):(dv is i t).dead=t.dead∧(dv is i t).aP=true:=by unfold dv;rw [if_pos h];exact ⟨rfl,rfl⟩
theorem rm {is:List Bool} {i:Nat} {t:Th} (h:is.getD i false=false):(dv is i t).dead=true:=by unfold dv;rw [if_neg (by rw [h];decide)]
theorem jz {is:List Bool} {i:Nat} {t:Th} (h:is.getD i false=true) (hf:bs t.k t.fs.length=true):(dv is i t).fs.length=t.fs.length:=by
 unfold dv;rw [if_pos h]
 show List.length (if _ then _ else _)=_
 split
 ·rename_i hc;rw [hc.1] at hf;simp [bs] at hf;simp;omega
 ·split
  ·rename_i hc;rw [hc.1] at hf;simp [bs] at hf;simp;omega
  ·rfl
theorem ym {W:Wd} {is:List Bool} {i:Int} (h0:0≤i) (h1:i<W.T.length):(ma is W.T).getD i.toNat Th.none=dv is i.toNat (W.th i):=by
 unfold ma Wd.th;simp only [Ld,List.getElem?_mapIdx];rw [Le (by omega)]
 rfl
theorem Wd.iI {W:Wd} {major:Bool} {i:Int} (h0:0≤i) (h1:i<W.T.length):(W.after major).th i=dv (W.pass major).1 i.toNat (W.th i):=ym h0 h1
theorem Wd.kY {W:Wd} {major:Bool}:(W.after major).T.length=W.T.length:=by simp [Wd.after,ma]
theorem Wd.i7 {W:Wd} (h:W.ok) {major:Bool} {i:Int}:(W.after major).live i↔ax (W.pass major).1 i=true:=by
 obtain ⟨m,_⟩:=Wd.iH h major;constructor
 ·rintro ⟨h0,h1,h2⟩;rw [Wd.kY] at h1;rw [Wd.iI h0 h1] at h2;cases hb:ax (W.pass major).1 i
  ·rw [rm (by rw [dN h0,hb])] at h2;cases h2
  ·rfl
 ·intro hb;have hl:=m.live i hb;refine ⟨hl.1,by rw [Wd.kY];exact hl.2.1,?_⟩;rw [Wd.iI hl.1 hl.2.1,(kX (by rw [dN hl.1];exact hb)).1];exact hl.2.2
theorem tJ {W:Wd} (h:W.ok) {q:List (Int × Int)} {is:List Bool} (hs:cC W.nd q fun k=>ax is k=true) {i:Int} (hi:W.live i) (hb:ax is i=true) :
  ∀ v ∈ (dv is i.toNat (W.th i)).fs,(v=(2,0))∨(v ∈ (W.th i).fs∧bJ is v=true):=by
 intro v hv;have hf:=h.tk i hi;unfold dv at hv;rw [if_pos (by rw [dN hi.1];exact hb)] at hv;have shut:∀ j,gZ W.nd q (fun k=>ax is k=true) i j→ax is j=true:=fun j hj=>hs i j hb hj;have inS_of:∀ v:Vl,(v.1=3→ax is v.2=true)→bJ is v=true:=fun v hv=>by
  unfold bJ;by_cases e:v.1=3
  ·simp [e,hv e]
  ·simp [e]
 have two:(W.th i).fs.length=2→∃ a b,(W.th i).fs=[a,b]:=fun hl=>by
  match hx:(W.th i).fs,hl with
  | [a,b],_=>exact ⟨a,b,rfl⟩
 change v ∈ (if _ then _ else _) at hv;split at hv
 ·left;simp at hv;exact hv
 ·rename_i hc4;split at hv
  ·rename_i hc3;rw [hc3.1] at hf;simp [bs] at hf;obtain ⟨a,b,e⟩:=two (by omega);rw [e] at hv;simp at hv;rcases hv with rfl | rfl
   ·exact .inl rfl
   ·refine .inr ⟨by rw [e];simp,inS_of _ fun e3=>shut _ (.inr (.inl ⟨hc3.1,?_⟩))⟩
    show (W.th i).fs[1]? = _
    rw [e];cases v;simp_all
  ·rename_i hc3;right;refine ⟨hv,inS_of v fun e3=>?_⟩;have e4:v=(3,v.2):=by cases v;simp_all
   have hk:=bP hf;by_cases k12:(W.th i).k=1∨(W.th i).k=2
   ·exact shut _ (.inl ⟨k12,by rw [←e4];exact hv⟩)
   by_cases k3:(W.th i).k=3
   ·have h0:bJ is ((W.th i).fs.getD 0 (0,0))=true:=by
     cases hx:bJ is ((W.th i).fs.getD 0 (0,0))
     ·exact absurd ⟨k3,hx⟩ hc3
     ·rfl
    rw [k3] at hf;simp [bs] at hf;obtain ⟨a,b,e⟩:=two (by omega);rw [e] at hv h0;simp at hv h0;rcases hv with rfl | rfl
    ·simp [bJ,e3] at h0;exact h0
    ·exact shut _ (.inr (.inl ⟨k3,by show (W.th i).fs[1]? = _;rw [e,←e4];rfl⟩))
   by_cases k4:(W.th i).k=4
   ·have h0:bJ is ((W.th i).fs.getD 0 (0,0))=true:=by
     cases hx:bJ is ((W.th i).fs.getD 0 (0,0))
     ·exact absurd ⟨k4,hx⟩ hc4
     ·rfl
    rw [k4] at hf;simp [bs] at hf;obtain ⟨a,b,e⟩:=two (by omega);rw [e] at hv h0;simp at hv h0;rcases hv with rfl | rfl
    ·simp [bJ,e3] at h0;exact h0
    ·refine shut _ (.inr (.inr (.inl ⟨k4,by show (W.th i).fs[1]? = _;rw [e,←e4];rfl,fun u hu hu3=>?_⟩)));have hu':(W.th i).fs[0]? = some u:=hu;rw [e] at hu';simp at hu';subst hu';simp [bJ,hu3] at h0;exact h0
   ·have k5:(W.th i).k=5:=by
     have h1:(W.th i).k≠1:=fun e=>k12 (.inl e);have h2:(W.th i).k≠2:=fun e=>k12 (.inr e);omega
    rw [k5] at hf;simp [bs] at hf;have:(W.th i).fs=[]:=by
     cases hx:(W.th i).fs with
     | nil=>rfl
     | cons a l=>rw [hx] at hf;simp at hf
    rw [this] at hv;cases hv
theorem rn (is:List Bool):∀ (l:List Th) (n:Nat) (hl:∀ j (h:j<l.length),is.getD (n+j) false=true→l[j].dead=false∧bs l[j].k l[j].fs.length=true),
  de (l.mapIdx fun i t=>dv is (n+i) t) (fun t=>!t.dead && !t.aP)=0 ∧
  de (l.mapIdx fun i t=>dv is (n+i) t) (fun t=>!t.dead && t.aP)=(l.mapIdx fun i t=>if is.getD (n+i) false then t.words else 0).sum
 | [],_,_=>⟨rfl,rfl⟩
 | t :: l,n,hl=>by
  have ih:=rn is l (n+1) (fun j h=>by
   have:=hl (j+1) (by simp;omega);simp only [List.getElem_cons_succ] at this
   rw [show n+1+j=n+(j+1) by omega];exact this)
  have e:∀ (f:Nat→Th→Th),(fun i t=>f (n+1+i) t)=fun i t=>f (n+(i+1)) t:=fun f=>by funext i t;rw [show n+1+i=n+(i+1) by omega]
  have e2:∀ (f:Nat→Th→Int),(fun i t=>f (n+1+i) t)=fun i t=>f (n+(i+1)) t:=fun f=>by funext i t;rw [show n+1+i=n+(i+1) by omega]
  rw [e (dv is),e2 (fun i t=>if is.getD i false then t.words else 0)] at ih;have h0:=hl 0 (by simp);simp only [List.getElem_cons_zero,Nat.add_zero] at h0;simp only [de] at ih ⊢;simp only [List.mapIdx_cons,List.map_cons,List.sum_cons,Nat.add_zero];rw [ih.1,ih.2];cases hb:is.getD n false
  ·have hd:=rm (t:=t) hb;simp [hd]
  ·obtain ⟨h1,h2⟩:=h0 hb;have hl2:=kX (t:=t) hb;have hl3:=jz hb h2;simp only [hl2.1,hl2.2,h1,Th.words,hl3];simp
theorem Wd.pT {W:Wd} (h:W.ok) (major:Bool):(W.after major).aG=0∧(W.after major).cH=eU (W.pass major).1 W.T:=by
 obtain ⟨m,_⟩:=Wd.iH h major;have:=rn (W.pass major).1 W.T 0 (fun j hj hb=>by
  rw [Nat.zero_add,←eV] at hb;have hl:=m.live _ hb;obtain ⟨h',e⟩:=Wd.qN hl;simp only [Int.toNat_natCast] at e;rw [←e]
  exact ⟨hl.2.2,h.tk _ hl⟩)
 simp only [Nat.zero_add] at this;exact this
theorem Wd.lK {W:Wd} (h:W.ok) {major:Bool} {i:Int} (hb:ax (W.pass major).1 i=true):((W.after major).th i).k=(W.th i).k:=by
 obtain ⟨m,_⟩:=Wd.iH h major;have hl:=m.live i hb;rw [Wd.iI hl.1 hl.2.1,kW]
theorem tK {is:List Bool} {l:List It} {e:Int × Int} (h:e ∈ bz ax eR is l):∃ i ∈ l,i.1=e∧i.2.1=false∧ax is e.1=true:=by
 unfold bz at h;simp only [List.mem_map,List.mem_filter,Bool.and_eq_true,Bool.not_eq_true'] at h;obtain ⟨i,⟨hi,h1,h2⟩,rfl⟩:=h;exact ⟨i,hi,rfl,h1,h2⟩
theorem tL {is:List Bool} {l:List (Int × Int)} {e:Int × Int} (h:e ∈ bC ax eR is l):e ∈ l∧ax is e.1=true:=by
 unfold bC at h;simp only [List.mem_map,List.mem_filter] at h;obtain ⟨i,⟨hi,h1⟩,rfl⟩:=h;exact ⟨hi,h1⟩
theorem Wd.ok.after {W:Wd} (h:W.ok) {major:Bool} (hroom:eU (W.pass major).1 W.T≤W.grow):(W.after major).ok:=by
 obtain ⟨m,hfst,hcnt,hits⟩:=Wd.iH h major;have hs:=Wd.pT h major;have lv:∀ i,ax (W.pass major).1 i=true→(W.after major).live i:=fun i hi=>(Wd.i7 h).2 hi;have clo1:∀ i,ax (W.first major) i=true→ax (W.pass major).1 i=true:=m.first
 have root:∀ v ∈ W.roots,v.1=3→ax (W.pass major).1 v.2=true:=fun v hv e=>by
  have hl:=Wd.bh (h.rv v hv) e;have e2:v=(3,v.2):=by cases v;simp_all
  exact m.first _ (Wd.jy.2 ⟨hl.1,hl.2.1, .inr (by rw [←e2];exact hv)⟩)
 refine ⟨h.hr,fun v hv=>?_,fun i hi=>?_,fun i hi v hv=>?_,fun e he=>?_,fun e he=>?_,?_,h.m1,h.m2,h.g1,h.g2,?_,?_⟩
 ·rcases h.rv v hv with h1 | h1 | h1 | h1
  ·exact .inl h1
  ·exact .inr (.inl h1)
  ·exact .inr (.inr (.inl h1))
  ·exact .inr (.inr (.inr ⟨h1.1,lv _ (root v hv h1.1)⟩))
 ·have hb:=(Wd.i7 h).1 hi;have hl:=m.live i hb;rw [Wd.iI hl.1 hl.2.1,kW,jz (by rw [dN hl.1];exact hb) (h.tk i hl)];exact h.tk i hl
 ·have hb:=(Wd.i7 h).1 hi;have hl:=m.live i hb;rw [Wd.iI hl.1 hl.2.1] at hv;rcases tJ h m.shut hl hb v hv with rfl | ⟨hv1,hv2⟩
  ·exact .inr (.inr (.inl ⟨rfl,rfl⟩))
  ·rcases h.tv i hl v hv1 with h1 | h1 | h1 | h1
   ·exact .inl h1
   ·exact .inr (.inl h1)
   ·exact .inr (.inr (.inl h1))
   ·refine .inr (.inr (.inr ⟨h1.1,lv _ ?_⟩));simp [bJ,h1.1] at hv2;exact hv2
 ·obtain ⟨i,hi,rfl,hd,hg⟩:=tK he;have h1:(i.1,i.2.1) ∈ (W.pass major).2.2.map (fun i=>(i.1,i.2.1)):=List.mem_map.2 ⟨i,hi,rfl⟩;rw [hits] at h1;obtain ⟨e,he',e2⟩:=List.mem_map.1 h1;have e3:e=i.1:=congrArg (fun p:(Int × Int) × Bool=>p.1) e2;have e4:(!ax (W.cX W.wait (W.first major)) e.2)=i.2.1:=congrArg (fun p:(Int × Int) × Bool=>p.2) e2;have hgv:=h.gv e he';rw [e3] at hgv e4;rw [hd] at e4;refine ⟨lv _ hg,?_,lv _ (hfst _ (by simpa using e4))⟩;rw [Wd.lK h hg];exact hgv.2.1
 ·obtain ⟨h1,h2⟩:=tL he;have hwv:=m.wv e h1;refine ⟨lv _ h2,by rw [Wd.lK h h2];exact hwv.2.1,lv _ (m.shut _ _ h2 (.inr (.inr (.inr ⟨hwv.2.1,h1⟩))))⟩
 ·have hq:=h.hq;have h1:(W.after major).wait.length≤(W.pass major).2.1.length:=by
   simp only [Wd.after,bC,List.length_map];exact List.length_filter_le _ _
  have h2:(W.after major).av.length≤cV (W.pass major).2.2:=by
   simp only [Wd.after,bz,List.length_map];have hmv:∀ i ∈ (W.pass major).2.2,i.2.1=false→i.2.2=false:=by
    have key:∀ (l:List It) (is:List Bool) (q:List (Int × Int)),(∀ i ∈ l,i.2.1=false→i.2.2=false)→∀ i ∈ (scanM ax W.bx is q l).2.2.1,i.2.1=false→i.2.2=false:=by
     intro l
     induction l with
     | nil=>intro is q _ i hi;simp [scanM] at hi
     | cons a l ih=>
      intro is q hl i hi;simp only [scanM] at hi;split at hi
      ·rename_i hc;simp only [Bool.and_eq_true] at hc;rcases List.mem_cons.1 hi with rfl | hi
       ·intro e;rw [hc.1.1] at e;cases e
       ·exact ih _ _ (fun j hj=>hl j (by simp [hj])) i hi
      ·rcases List.mem_cons.1 hi with rfl | hi
       ·exact hl _ (by simp)
       ·exact ih _ _ (fun j hj=>hl j (by simp [hj])) i hi
    have key2:∀ (n:Nat) (l:List It) (is:List Bool) (q:List (Int × Int)),(∀ i ∈ l,i.2.1=false→i.2.2=false)→∀ i ∈ (roundsM ax W.bx n is q l).2.2,i.2.1=false→i.2.2=false:=by
     intro n
     induction n with
     | zero=>intro l is q hl;exact hl
     | succ n ih=>
      intro l is q hl;simp only [roundsM];split
      ·exact ih _ _ _ (key l is q hl)
      ·exact key l is q hl
    exact key2 _ _ _ _ (fun i hi=>by simp only [bQ,List.mem_map] at hi;obtain ⟨e,_,rfl⟩:=hi;intro _;rfl)
   unfold cV;rw [←List.countP_eq_length_filter,←List.countP_eq_length_filter];exact List.countP_mono_left fun i hi h=>by
    simp only [Bool.and_eq_true,Bool.not_eq_true'] at h;simp [hmv i hi h.1]
  show (W.after major).av.length+(W.after major).wait.length≤24
  omega
 ·show (W.after major).aG≤W.most;rw [hs.1];have:=h.m1;omega
 ·show (W.after major).cH≤W.grow;rw [hs.2];exact hroom
theorem Wd.ok.cut {W:Wd} (h:W.ok) (major:Bool):(W.cut major).2.ok:=by
 unfold Wd.cut;split
 ·exact h
 ·split
  ·exact h
  ·exact h.after (by omega)
theorem Wd.ok.room {W:Wd} (h:W.ok) (n:Int) (hn:n≤13):(W.room n).2.ok∧((W.room n).1=0→n≤(W.room n).2.most-(W.room n).2.aG):=by
 unfold Wd.room;split
 ·refine ⟨h.cut _,fun h0=>?_⟩;unfold Wd.cut at h0 ⊢;split
  ·rename_i hc;rw [if_pos hc] at h0;simp at h0
  ·rename_i hc;rw [if_neg hc] at h0;split
   ·rename_i hd;rw [if_pos hd] at h0;simp at h0
   ·show n≤W.most-(W.after _).aG
    rw [(Wd.pT h _).1];have:=h.m1;omega
 ·exact ⟨h,fun _=>by show n≤W.most-W.aG;omega⟩
theorem Wd.ok.bR {W:Wd} (h:W.ok) {r k:Int} {l:List Int} (hf:bs k l.length=true):(W.bR r k l).2.ok:=by
 unfold Wd.bR;have hl:=(bP hf).2.2.2;have hr:=h.room (1+l.length) (by omega);split
 ·rename_i h0;refine hr.1.put (by simpa using hf) (fun v hv=>?_) (by simpa using hr.2 h0);obtain ⟨a,_,rfl⟩:=List.mem_map.1 hv;exact Wd.g5 hr.1 a
 ·exact h
theorem Wd.dT {W:Wd} (h:W.ok) {k:Int} (hk:¬ W.aj k<0):W.live (W.aj k):=by
 unfold Wd.aj at hk ⊢;split
 ·rename_i h3;exact Wd.bh (Wd.g5 h k) h3
 ·rename_i h3;rw [if_neg h3] at hk;simp at hk
theorem Wd.mf {W:Wd} (h:W.ok) {k:Int} (hk:¬ W.guard k<0):W.live (W.guard k)∧(W.th (W.guard k)).k=5∧W.guard k=W.aj k:=by
 unfold Wd.guard at hk ⊢;split
 ·rename_i h3;rw [if_pos h3] at hk;simp at hk
 ·rename_i h3;have h5:(W.th (W.aj k)).k=5:=by
   by_cases e:(W.th (W.aj k)).k=5
   ·exact e
   ·exact absurd (Or.inr e) h3
  exact ⟨Wd.dT h (fun e=>h3 (.inl e)),h5,rfl⟩
theorem kE:∀ {l:List (Int × Int)} {g:Int} {r:Int × List (Int × Int)},popW l g=some r→(g,r.1) ∈ l∧(∀ e ∈ r.2,e ∈ l)∧r.2.length+1=l.length
 | [],g,r,h=>by simp [popW] at h
 | e :: l,g,r,h=>by
  unfold popW at h;split at h
  ·rename_i hg;simp at h;subst h;refine ⟨?_,fun e he=>by simp [he],rfl⟩;rw [←hg];simp
  ·simp only [Option.map_eq_some_iff] at h;obtain ⟨r',h1,rfl⟩:=h;have ih:=kE h1;refine ⟨by simp [ih.1],fun x hx=>?_,by simp;omega⟩;rcases List.mem_cons.1 hx with rfl | hx
   ·simp
   ·simp [ih.2.1 x hx]
theorem Wd.sw {W:Wd} {x:St} (h:W.cP x=0):¬ W.aj x.a<0∧(W.th (W.aj x.a)).k≠5∧0≤x.i∧x.i<(W.th (W.aj x.a)).fs.length:=by
 unfold Wd.cP at h;split at h
 ·simp at h
 ·rename_i hc;split at h
  ·simp at h
  ·rename_i hd;exact ⟨fun e=>hc (.inl e),fun e=>hc (.inr e),by omega,by omega⟩
theorem Wd.iU {W:Wd} {n:Int} (h1:-cA≤n) (h2:n<cA):W.cI (1,n):=.inr (.inl ⟨rfl,h1,h2⟩)
theorem aI {x:St} (h:aX x=0):¬ aR x.k=-1∧(aR x.k%2=1→bD x.r=true)∧(aR x.k/2%2=1→bD x.a=true)∧(aR x.k/4%2=1→bD x.b=true) ∧
  (x.k=1→-cA≤x.n∧x.n<cA)∧(x.k=5→0≤x.n∧x.n≤12):=by
 unfold aX at h;split at h
 ·simp at h
 ·rename_i h1;split at h
  ·simp at h
  ·rename_i h2;split at h
   ·simp at h
   ·rename_i h3;split at h
    ·simp at h
    ·rename_i h4;have nb:∀ b:Bool,¬ b=false→b=true:=fun b=>by cases b <;> simp
     exact ⟨h1,fun h=>nb _ fun e=>h2 (.inl ⟨h,e⟩),fun h=>nb _ fun e=>h2 (.inr (.inl ⟨h,e⟩)),fun h=>nb _ fun e=>h2 (.inr (.inr ⟨h,e⟩)),
      fun h=>Classical.not_not.1 fun e=>h3 ⟨h,e⟩,fun h=>Classical.not_not.1 fun e=>h4 ⟨h,e⟩⟩
theorem Wd.ok.do {W:Wd} (h:W.ok) (x:St):(W.do x).2.ok:=by
 unfold Wd.do
 split
 ·rename_i hc;have hu:=aI hc;unfold Wd.step;by_cases k1:x.k=1
  ·rw [if_pos k1];exact h.cB (Wd.iU (hu.2.2.2.2.1 k1).1 (hu.2.2.2.2.1 k1).2) _
  rw [if_neg k1];by_cases k2:x.k=2
  ·rw [if_pos k2];exact h.cB (.inl ⟨rfl,rfl⟩) _
  rw [if_neg k2];by_cases k3:x.k=3
  ·rw [if_pos k3];exact h.cB (Wd.g5 h _) _
  rw [if_neg k3];by_cases k4:x.k=4
  ·rw [if_pos k4];exact h.bR rfl
  rw [if_neg k4];by_cases k5:x.k=5
  ·rw [if_pos k5];refine h.bR ?_;have:=hu.2.2.2.2.2 k5;simp [bs];omega
  rw [if_neg k5];by_cases k6:x.k=6
  ·rw [if_pos k6];exact h.bR rfl
  rw [if_neg k6];by_cases k7:x.k=7
  ·rw [if_pos k7];exact h.bR rfl
  rw [if_neg k7];by_cases k8:x.k=8
  ·rw [if_pos k8];exact h.bR rfl
  rw [if_neg k8];by_cases k9:x.k=9
  ·rw [if_pos k9];unfold Wd.ic;split
   ·exact h
   ·rename_i h1;split
    ·exact h
    ·rename_i h2;have ha:=Wd.dT h (fun e=>h1 (.inl e));have hb:=Wd.mf h (fun e=>h1 (.inr e));refine ⟨h.hr,h.rv,h.tk,h.tv,fun e he=>?_,h.wv,?_,h.m1,h.m2,h.g1,h.g2,h.uy,h.uo⟩
     ·rcases List.mem_append.1 he with he | he
      ·exact h.gv e he
      ·rw [List.mem_singleton.1 he];exact ⟨hb.1,hb.2.1,ha⟩
     ·show (W.av ++ _).length+W.wait.length≤24
      simp;omega
  rw [if_neg k9];by_cases k10:x.k=10
  ·rw [if_pos k10];unfold Wd.pop;split
   ·exact h
   ·rename_i h1;split
    ·exact h
    ·rename_i r hr;have hp:=kE hr;have hw:=h.wv _ hp.1;refine ⟨by simpa using h.hr,fun v hv=>?_,h.tk,h.tv,h.gv,fun e he=>h.wv e (hp.2.1 e he),?_,h.m1,h.m2,h.g1,h.g2,h.uy,h.uo⟩
     ·rcases List.mem_or_eq_of_mem_set hv with h2 | rfl
      ·exact h.rv v h2
      ·exact .inr (.inr (.inr ⟨rfl,hw.2.2⟩))
     ·have:=h.hq
      show W.av.length+r.2.length≤24
      omega
  rw [if_neg k10];by_cases k11:x.k=11
  ·rw [if_pos k11];unfold Wd.get;split
   ·rename_i h0;have hf:=Wd.sw h0;refine h.cB ?_ _;rw [Ld,Le (by omega)];exact h.tv _ (Wd.dT h hf.1) _ (List.getElem_mem _)
   ·exact h
  rw [if_neg k11];by_cases k12:x.k=12
  ·rw [if_pos k12];unfold Wd.set;split
   ·rename_i h0;have hf:=Wd.sw h0;have hl:=Wd.dT h hf.1;refine h.dw hl (by simp) fun v hv=>?_;rcases List.mem_or_eq_of_mem_set hv with h2 | rfl
    ·exact h.tv _ hl v h2
    ·exact Wd.g5 h _
   ·exact h
  rw [if_neg k12];by_cases k13:x.k=13
  ·rw [if_pos k13];unfold Wd.len;split
   ·exact h
   ·rename_i h1;have hl:=Wd.dT h (fun e=>h1 (.inl e));have:=bP (h.tk _ hl);exact h.cB (Wd.iU (by unfold cA;omega) (by unfold cA;omega)) _
  rw [if_neg k13];by_cases k14:x.k=14
  ·rw [if_pos k14];unfold Wd.same;exact h.cB (Wd.iU (by unfold cA;split <;> omega) (by unfold cA;split <;> omega)) _
  rw [if_neg k14];by_cases k15:x.k=15
  ·rw [if_pos k15];exact h.cut _
  rw [if_neg k15];exact h.cut _
 ·exact h
theorem Wd.jJ {n o:Int} (h1:16≤n) (h2:n≤256) (h3:0≤o) (h4:o≤1024):(Wd.new n o).ok:=by
 have nl:∀ i,¬ (Wd.new n o).live i:=fun i h=>by have h1:=h.1;have h2:=h.2.1;simp [Wd.new] at h2;omega
 refine ⟨by simp [Wd.new],fun v hv=>?_,fun i hi=>(nl i hi).elim,fun i hi=>(nl i hi).elim,fun e he=>by simp [Wd.new] at he,fun e he=>by simp [Wd.new] at he,by simp [Wd.new],h1,h2,h3,h4,?_,?_⟩
 ·simp [Wd.new] at hv;subst hv;exact .inl ⟨rfl,rfl⟩
 ·show de [] _≤n;simp [de];omega
 ·show de [] _≤o;simp [de];omega
end
section
open Go.RowKit
structure RW where
 p:Nat
 tv:Value
 rv:Value
 gv:Value
 wv:Value
 F:Nat→Prop
def g6 (w:World) (F:Nat→Prop) (t:Th) (r:List Value):Prop:=
 ∃ ao cap,r=[.int .i64 t.k, .slice ao t.fs.length cap, .bool t.aP, .bool t.dead]∧Rd w ao (aA t.fs)∧(∀ a,ao=some a→F a.block)∧t.fs.length≤maxLen
theorem g6.ae {w w':World} {F S:Nat→Prop} {t:Th} {r:List Value} (h:g6 w F t r) (k:ab S w w') (hn:∀ b,F b→b<w.heap.size→¬ S b):g6 w' F t r:=by
 obtain ⟨ao,cap,e,hr,hf,hc⟩:=h;exact ⟨ao,cap,e,hr.ae k (fun a ha hb=>hn _ (hf a ha) hb),hf,hc⟩
theorem g6.more {w:World} {F F':Nat→Prop} {t:Th} {r:List Value} (h:g6 w F t r) (hF:∀ b,F b→F' b):g6 w F' t r:=by
 obtain ⟨ao,cap,e,hr,hf,hc⟩:=h;exact ⟨ao,cap,e,hr,fun a ha=>hF _ (hf a ha),hc⟩
def iB (w:World) (v:Value) (F:Nat→Prop) (l:List Th):Prop:=∃ cs,Sl w 154 4 v l.length cs∧cn 4 (g6 w F) l cs
theorem iB.ae {w w':World} {v:Value} {F S:Nat→Prop} {l:List Th} (h:iB w v F l) (k:ab S w w') (hn:∀ b,F b→b<w.heap.size→¬ S b) (hv:∀ b,ai v b→¬ S b):iB w' v F l:=by
 obtain ⟨cs,h1,h2⟩:=h;exact ⟨cs,h1.ae k hv,h2.mono (fun a _ r hr=>hr.ae k hn)⟩
theorem iB.nth {w:World} {v:Value} {F:Nat→Prop} {l:List Th} (h:iB w v F l):∃ no nc,v=.slice no l.length nc∧∀ i,i<l.length→∃ g o ao cap,no=some ⟨g,o,none⟩∧ai v g∧g<w.heap.size∧w.cell? ⟨g,o+i*4,none⟩=some (.int .i64 (l.getD i Th.none).k) ∧
  w.cell? ⟨g,o+i*4+1,none⟩=some (.slice ao (l.getD i Th.none).fs.length cap)∧w.cell? ⟨g,o+i*4+2,none⟩=some (.bool (l.getD i Th.none).aP)∧w.cell? ⟨g,o+i*4+3,none⟩=some (.bool (l.getD i Th.none).dead) ∧
  Rd w ao (aA (l.getD i Th.none).fs)∧(∀ a,ao=some a→F a.block)∧(l.getD i Th.none).fs.length≤maxLen:=by
 obtain ⟨cs,hs,hr⟩:=h;obtain ⟨no,nc,rfl,hrd,-,-⟩:=hs.rd;refine ⟨no,nc,rfl,fun i hi=>?_⟩;obtain ⟨r,h1,⟨ao,cap,rfl,h2,h5,h3⟩,h4⟩:=hr.cell hi;have hlen:=hr.length;have hne:cs≠[]:=by intro e;subst e;simp at hlen;omega
 obtain ⟨g,o,rfl,hg,hc⟩:=hrd hne;have e:l.getD i Th.none=l[i]:=by rw [Ld,Le hi];rfl
 rw [e];refine ⟨g,o,ao,cap,rfl,rfl,hg,?_,?_,?_,?_,h2,h5,h3⟩
 ·have:=h4 0 (by decide);rw [hc (i*4) (by rw [hlen];omega)];exact this
 ·have:=h4 1 (by decide);rw [Nat.add_assoc,hc (i*4+1) (by rw [hlen];omega)];exact this
 ·have:=h4 2 (by decide);rw [Nat.add_assoc,hc (i*4+2) (by rw [hlen];omega)];exact this
 ·have:=h4 3 (by decide);rw [Nat.add_assoc,hc (i*4+3) (by rw [hlen];omega)];exact this
def RW.Own (h:RW) (k:Nat):Prop:=k=h.p∨ai h.tv k∨ai h.rv k∨ai h.gv k∨ai h.wv k∨h.F k
structure aZ (w:World) (h:RW) (W:Wd):Prop where
 hp:ah w h.p [h.tv,h.rv,h.gv,h.wv, .int .i64 W.most, .int .i64 W.grow] 147
 ht:iB w h.tv h.F W.T
 hr:Sl w 96 2 h.rv W.roots.length (aA W.roots)
 hg:Sl w 152 2 h.gv W.av.length (aA W.av)
 hw:Sl w 152 2 h.wv W.wait.length (aA W.wait)
 ap:∀ k,¬ (ai h.gv k∧ai h.wv k)
 af:∀ k,h.F k→k<w.heap.size∧(∃ c,ah w k c 96)∧¬ ai h.rv k
 ok:W.ok
def aK (w:World) (h:RW) (w':World) (W':Wd):Prop:=
 ∃ h',aZ w' h' W'∧h'.p=h.p∧ab h.Own w w'∧∀ k,h'.Own k→h.Own k∨w.heap.size≤k
section
variable {w w':World} {h:RW} {W:Wd}
theorem aZ.ae {S:Nat→Prop} (H:aZ w h W) (k:ab S w w') (hn:∀ b,h.Own b→¬ S b):aZ w' h W:=
 ⟨k.ak H.hp (hn _ (.inl rfl)),H.ht.ae k (fun b hb _=>hn b (.inr (.inr (.inr (.inr (.inr hb)))))) (fun b hb=>hn b (.inr (.inl hb))),H.hr.ae k (fun b hb=>hn b (.inr (.inr (.inl hb)))),H.hg.ae k (fun b hb=>hn b (.inr (.inr (.inr (.inl hb))))),
  H.hw.ae k (fun b hb=>hn b (.inr (.inr (.inr (.inr (.inl hb)))))),H.ap,fun b hb=>by
   obtain ⟨h1,⟨c,h2⟩,h3⟩:=H.af b hb
   exact ⟨Nat.lt_of_lt_of_le h1 k.size,⟨c,k.ak h2 (hn b (.inr (.inr (.inr (.inr (.inr hb))))))⟩,h3⟩,H.ok⟩
theorem aZ.same (H:aZ w h W) (k:ab (fun _=>False) w w'):aZ w' h W:=H.ae k (fun _ _ h=>h)
theorem aK.same (H:aZ w h W) (k:ab (fun _=>False) w w'):aK w h w' W:=⟨h,H.same k,rfl,k.mono (fun _ _ h=>h.elim),fun k hk=>.inl hk⟩
theorem aK.aW {w1:World} {W1:Wd} (k:ab (fun _=>False) w w1) (t:aK w1 h w' W1):aK w h w' W1:=by
 obtain ⟨h1,H1,e1,k1,o1⟩:=t;exact ⟨h1,H1,e1,(k.mono (fun _ _ h=>h.elim)).trans k1,fun b hb=>(o1 b hb).imp id (fun h=>Nat.le_trans k.size h)⟩
theorem aZ.bB (H:aZ w h W) {k:Nat} (hk:h.Own k):k<w.heap.size∧∃ c T,ah w k c T∧(T=147∨T=154∨T=96∨T=152):=by
 rcases hk with rfl | hk | hk | hk | hk | hk
 ·exact ⟨H.hp.lt,_,_,H.hp, .inl rfl⟩
 ·obtain ⟨cs,hs,_⟩:=H.ht;obtain ⟨h1,c,hc⟩:=hs.own hk;exact ⟨h1,c,_,hc, .inr (.inl rfl)⟩
 ·obtain ⟨h1,c,hc⟩:=H.hr.own hk;exact ⟨h1,c,_,hc, .inr (.inr (.inl rfl))⟩
 ·obtain ⟨h1,c,hc⟩:=H.hg.own hk;exact ⟨h1,c,_,hc, .inr (.inr (.inr rfl))⟩
 ·obtain ⟨h1,c,hc⟩:=H.hw.own hk;exact ⟨h1,c,_,hc, .inr (.inr (.inr rfl))⟩
 ·obtain ⟨h1,⟨c,hc⟩,_⟩:=H.af k hk;exact ⟨h1,c,_,hc, .inr (.inr (.inl rfl))⟩
theorem aZ.cells (H:aZ w h W):w.cell? ⟨h.p,0,none⟩=some h.tv∧w.cell? ⟨h.p,1,none⟩=some h.rv∧w.cell? ⟨h.p,2,none⟩=some h.gv∧w.cell? ⟨h.p,3,none⟩=some h.wv∧w.cell? ⟨h.p,4,none⟩=some (.int .i64 W.most)∧w.cell? ⟨h.p,5,none⟩=some (.int .i64 W.grow):=
 ⟨H.hp.cell 0,H.hp.cell 1,H.hp.cell 2,H.hp.cell 3,H.hp.cell 4,H.hp.cell 5⟩
theorem Wd.mg (hk:W.ok) {i:Int} (hi:W.live i):(W.th i).fs.length≤12:=by
 have:=(bP (hk.tk i hi)).2.2.2;omega
def fW (l:List Th) (n:Nat):Int × Int:=(de (l.take n) fun t=>!t.dead && !t.aP,de (l.take n) fun t=>!t.dead && t.aP)
theorem vj {l:List Th} {n:Nat} (h:n<l.length):fW l (n+1)=((fW l n).1+(if (!l[n].dead && !l[n].aP)=true then l[n].words else 0),(fW l n).2+(if (!l[n].dead && l[n].aP)=true then l[n].words else 0)):=by
 unfold fW;rw [←List.take_append_getElem h,kC,kC];simp [de]
theorem sx (hk:W.ok) (n:Nat):0≤(fW W.T n).1∧(fW W.T n).1≤1024∧0≤(fW W.T n).2∧(fW W.T n).2≤1024:=by
 have h1:=hk.uy;have h2:=hk.uo;have h3:=hk.m2;have h4:=hk.g2;have key:∀ p:Th→Bool,de (W.T.take n) p≤de W.T p:=fun p=>by
  have:=kC (W.T.take n) (W.T.drop n) p;rw [List.take_append_drop] at this;have:=fE (W.T.drop n) p;omega
 have k1:=key fun t=>!t.dead && !t.aP;have k2:=key fun t=>!t.dead && t.aP;unfold fW;refine ⟨fE _ _,?_,fE _ _,?_⟩
 ·have:de W.T (fun t=>!t.dead && !t.aP)=W.aG:=rfl;dsimp only;omega
 ·have:de W.T (fun t=>!t.dead && t.aP)=W.cH:=rfl;dsimp only;omega
theorem qO (H:aZ w h W) (hT:W.T.length≤1000000) :
  Calls Tryz.prog 34 #[.pointer (some ⟨h.p,0,none⟩)] w fun e w'=>e=.returned (.tuple #[.int .i64 W.aG, .int .i64 W.cH])∧ab (fun _=>False) w w':=by
 have HH:=Hz H;obtain ⟨no,nc,hno,-⟩:=H.ht.nth;clear H;go_enter Tryz.func34,Tryz.ntmps34;go_wp2_with fail;go_loopw [4,5,6] (fun a b i wr=>∃ k:Nat,k≤W.T.length∧i=.int .i64 k∧a=.int .i64 (fW W.T k).1∧b=.int .i64 (fW W.T k).2∧ab (fun _=>False) w wr) (fun _ _ i _=>W.T.length-(intOf i).toNat)
 case atStart=>exact ⟨0,Nat.zero_le _,rfl,rfl,rfl,ab.refl _ _⟩
 case round=>
  obtain ⟨k,hk,rfl,rfl,rfl,hkk⟩:=hrel;have HK:=Hz hkk;clear hkk;have HW:=Hz (HH.out.same HK.out);obtain ⟨c0,-,-,-,-,-⟩:=HW.out.cells;have pl:=HW.out.hp.lt;rw [hno] at c0;by_cases hlt:k<W.T.length
  ·obtain ⟨_,_,e',N⟩:=HW.out.ht.nth;rw [hno] at e';cases e';obtain ⟨g,o,ao,cap,rfl,-,hgl,t0,t1,t2,t3,-,-,hml⟩:=N k hlt;have hst:=vj hlt;have hb:=sx HH.out.ok k;have aw:=sx HH.out.ok (k+1);have he:W.T.getD k Th.none=W.T[k]:=by rw [Ld,Le hlt];rfl
   rw [he] at t0 t1 t2 t3 hml;have hwd:(W.T[k]).words=1+((W.T[k]).fs.length:Int):=rfl;generalize W.T[k]=t at *;clear N he;obtain ⟨a,ha⟩:∃ a,(fW W.T k).1=a:=⟨_,rfl⟩;obtain ⟨b,hbq⟩:∃ b,(fW W.T k).2=b:=⟨_,rfl⟩;rw [ha,hbq] at hb hst ⊢;go_upto_region 6 with (refine aV rfl 154 (.tmp 22) rfl [.int .i64 t.k, .slice ao t.fs.length cap, .bool t.aP, .bool t.dead] (by kernel_rfl) g (o+k*4) rfl (aa t0 (aa t1 (aa t2 (aa t3 aQ)))) ?_)
   cases hd:t.dead
   ·rw [hd] at hst t3;cases ho:t.aP
    ·rw [ho] at hst t2;simp only [Bool.not_false,Bool.and_self,if_true,Bool.and_false,Bool.false_eq_true,if_false] at hst;rw [hst] at aw;dsimp only at aw;rw [hwd] at hst aw;go_wp2_with fail;go_roundw
     case rel=>exact ⟨k+1,hlt,by go_num,by first | (rw [hst];done) | (rw [hst];exact int_eq (by dsimp only;rw [IntWalk.i64_in _ (by omega),IntWalk.i64_in _ (by omega)])) | (rw [hst];exact int_eq (by dsimp only;rw [IntWalk.i64_in _ (by omega)])),by first | (rw [hst];done) | (rw [hst];exact int_eq (by dsimp only;omega)),HK.out.alloc _⟩
     case measure=>simp [intOf];omega
    ·rw [ho] at hst t2;simp only [Bool.not_false,Bool.and_self,if_true,Bool.and_false,Bool.false_eq_true,if_false,Bool.not_true,Bool.true_and] at hst;rw [hst] at aw;dsimp only at aw;rw [hwd] at hst aw;go_wp2_with fail;go_roundw
     case rel=>exact ⟨k+1,hlt,by go_num,by first | (rw [hst];done) | (rw [hst];exact int_eq (by dsimp only;omega)),by first | (rw [hst];done) | (rw [hst];exact int_eq (by dsimp only;rw [IntWalk.i64_in _ (by omega),IntWalk.i64_in _ (by omega)])) | (rw [hst];exact int_eq (by dsimp only;rw [IntWalk.i64_in _ (by omega)])),HK.out.alloc _⟩
     case measure=>simp [intOf];omega
   ·rw [hd] at hst t3;simp only [Bool.not_true,Bool.false_and,Bool.false_eq_true,if_false,Int.add_zero] at hst;go_wp2_with fail;go_roundw
    case rel=>exact ⟨k+1,hlt,by go_num,by rw [hst],by rw [hst],HK.out.alloc _⟩
    case measure=>simp [intOf];omega
  ·obtain rfl:k=W.T.length:=by omega
   have hall:fW W.T W.T.length=(W.aG,W.cH):=by unfold fW Wd.aG Wd.cH;rw [List.take_length]
   rw [hall];go_wp2_with fail;go_ret2;exact ⟨rfl,HK.out⟩
end
end
section
open Go.RowKit
theorem tM (k:Int):k=1∨k=2∨k=3∨k=4∨k=5∨k=6∨k=7∨k=8∨k=9∨k=10∨k=11∨k=12∨k=13∨k=14∨k=15∨k=16∨(k<1∨16<k):=by omega
theorem bX {a b:Int} (h:a=b):(Ending.returned (.int .i64 a))=.returned (.int .i64 b):=by rw [h]
theorem wN (k:Int) (w:World):Calls Tryz.prog 148 #[.int .i64 k] w fun e w'=>e=.returned (.int .i64 (aR k))∧ab (fun _=>False) w w':=by
 rcases tM k with rfl | rfl | rfl | rfl | rfl | rfl | rfl | rfl | rfl | rfl | rfl | rfl | rfl | rfl | rfl | rfl | h
 case inr.inr.inr.inr.inr.inr.inr.inr.inr.inr.inr.inr.inr.inr.inr.inr=>
  have HE:=Hz (show aR k=-1 by unfold aR;repeat' (rw [if_neg (by omega)]));have e1:(k == 1)=false:=by simp;omega
  have e2:(k == 2)=false:=by simp;omega
  have e3:(k == 3)=false:=by simp;omega
  have e4:(k == 4)=false:=by simp;omega
  have e5:(k == 5)=false:=by simp;omega
  have e6:(k == 6)=false:=by simp;omega
  have e7:(k == 7)=false:=by simp;omega
  have e8:(k == 8)=false:=by simp;omega
  have e9:(k == 9)=false:=by simp;omega
  have e10:(k == 10)=false:=by simp;omega
  have e11:(k == 11)=false:=by simp;omega
  have e12:(k == 12)=false:=by simp;omega
  have e13:(k == 13)=false:=by simp;omega
  have e14:(k == 14)=false:=by simp;omega
  have e15:(k == 15)=false:=by simp;omega
  have e16:(k == 16)=false:=by simp;omega
  clear h;go_enter Tryz.func148,Tryz.ntmps148;go_wp2_with fail;go_ret;exact ⟨bX HE.out.symm,ab.refl _ _⟩
 all_goals
  go_enter Tryz.func148,Tryz.ntmps148;go_wp2_with fail;go_ret;exact ⟨bX rfl,ab.refl _ _⟩
theorem pU (k:Int):aR k=-1∨aR k=0∨aR k=1∨aR k=3∨aR k=6∨aR k=7:=by
 unfold aR
 repeat' split
 all_goals simp
def St.jo (x:St) (j:Nat):Int:=if j=0 then x.r else if j=1 then x.a else x.b
def gp (u:Int) (j:Nat):Bool:=decide (u/2 ^ j%2=1)
theorem oD {x:St} (h:aR x.k=-1):aX x=2:=by unfold aX;rw [if_pos h]
theorem oE {x:St} (h:aR x.k≠-1) {j:Nat} (hj:j<3) (hb:gp (aR x.k) j=true) (hr:bD (x.jo j)=false):aX x=1:=by
 unfold aX;rw [if_neg h,if_pos];unfold gp at hb;have hb:aR x.k/2 ^ j%2=1:=by simpa using hb
 rcases (by omega:j=0∨j=1∨j=2) with rfl | rfl | rfl
 ·exact .inl ⟨by simpa using hb,hr⟩
 ·exact .inr (.inl ⟨by simpa using hb,hr⟩)
 ·exact .inr (.inr ⟨by simpa using hb,hr⟩)
theorem oF {x:St} (h:aR x.k≠-1) (hb:∀ j,j<3→gp (aR x.k) j=true→bD (x.jo j)=true) :
  aX x=if x.k=1∧¬ (-cA≤x.n∧x.n<cA) then 1 else if x.k=5∧¬ (0≤x.n∧x.n≤12) then 1 else 0:=by
 unfold aX;rw [if_neg h,if_neg];rintro (⟨h1,h2⟩ | ⟨h1,h2⟩ | ⟨h1,h2⟩)
 ·have:=hb 0 (by decide) (by unfold gp;simpa using h1);rw [show x.jo 0=x.r from rfl,h2] at this;cases this
 ·have:=hb 1 (by decide) (by unfold gp;simpa using h1);rw [show x.jo 1=x.a from rfl,h2] at this;cases this
 ·have:=hb 2 (by decide) (by unfold gp;simpa using h1);rw [show x.jo 2=x.b from rfl,h2] at this;cases this
section
variable {w:World} {h:RW} {W:Wd}
theorem aZ.root (H:aZ w h W) {k:Nat} (hk:k<12):∃ g o rc,h.rv=.slice (some ⟨g,o,none⟩) W.roots.length rc∧g<w.heap.size∧w.cell? ⟨g,o+k*2,none⟩=some (.int .i64 (W.rt k).1)∧w.cell? ⟨g,o+k*2+1,none⟩=some (.int .i64 (W.rt k).2):=by
 obtain ⟨ro,rc,e,rd,-,-⟩:=H.hr.rd;obtain ⟨g,o,rfl,hg,h0,h1⟩:=rd.val k (by rw [H.ok.hr];exact hk);refine ⟨g,o,rc,e,hg,?_,?_⟩
 ·rw [h0];unfold Wd.rt;rw [Int.toNat_natCast]
 ·rw [h1];unfold Wd.rt;rw [Int.toNat_natCast]
theorem kF (k:Nat) (hk:k<12) (H:aZ w h W) :
  Calls Tryz.prog 102 #[.pointer (some ⟨h.p,0,none⟩), .int .i64 k] w fun e w'=>e=.returned (.int .i64 (W.aj k))∧ab (fun _=>False) w w':=by
 obtain ⟨g,o,rc,e,hg,r0,r1⟩:=H.root hk;have hrl:W.roots.length=12:=H.ok.hr;obtain ⟨-,c1,-,-,-,-⟩:=H.cells;have pl:=H.hp.lt;rw [e,hrl] at c1;have hth:W.aj k=if (W.rt k).1=3 then (W.rt k).2 else -1:=rfl;clear H e hrl;generalize W.rt k=v at *;obtain ⟨v1,v2⟩:=v;dsimp only at r0 r1 hth;have HT:=Hz hth;clear hth;by_cases h3:v1=3
 ·subst h3;go_enter Tryz.func102,Tryz.ntmps102;go_wp2_with fail;go_ret;exact ⟨bX (by rw [HT.out];simp),ab.refl _ _⟩
 ·have hb:(v1 != 3)=true:=by simpa using h3
  have H3:=Hz h3;clear h3;go_enter Tryz.func102,Tryz.ntmps102;go_wp2_with fail;go_ret;exact ⟨bX (by rw [HT.out];simp [H3.out]),ab.refl _ _⟩
theorem aZ.nth (H:aZ w h W) {i:Int} (hi:W.live i):∃ m:Nat,i=m∧∃ g o nc ao cap,h.tv=.slice (some ⟨g,o,none⟩) W.T.length nc∧m<W.T.length∧g<w.heap.size∧w.cell? ⟨g,o+m*4,none⟩=some (.int .i64 (W.th i).k) ∧
  w.cell? ⟨g,o+m*4+1,none⟩=some (.slice ao (W.th i).fs.length cap)∧Rd w ao (aA (W.th i).fs)∧ai h.tv g:=by
 obtain ⟨h0,h1,-⟩:=hi;obtain ⟨m,rfl⟩:∃ m:Nat,i=m:=⟨i.toNat,by omega⟩;obtain ⟨no,nc,e,N⟩:=H.ht.nth;obtain ⟨g,o,ao,cap,rfl,hog,hg,t0,t1,-,-,hrd,-,-⟩:=N m (by omega);refine ⟨m,rfl,g,o,nc,ao,cap,e,by omega,hg,?_,?_,?_,by first | exact hog | (rw [e];exact hog)⟩
 ·rw [t0];unfold Wd.th;rw [Int.toNat_natCast]
 ·rw [t1];unfold Wd.th;rw [Int.toNat_natCast]
 ·unfold Wd.th;rw [Int.toNat_natCast];exact hrd
theorem sA (k:Nat) (hk:k<12) (H:aZ w h W) :
  Calls Tryz.prog 103 #[.pointer (some ⟨h.p,0,none⟩), .int .i64 k] w fun e w'=>e=.returned (.int .i64 (W.guard k))∧ab (fun _=>False) w w':=by
 have HH:=Hz H;have hth:=kF k hk H;have hgd:W.guard k=if W.aj k<0∨(W.th (W.aj k)).k≠5 then -1 else W.aj k:=rfl;have htl:=Wd.dT (W:=W) (k:=k) H.ok;generalize W.aj k=i at *;have HGD:=Hz hgd;have HTL:=Hz (fun (hn:0≤i)=>htl (by omega));have HTH:=Hz hth;clear hgd htl hth H;go_enter Tryz.func103,Tryz.ntmps103;go_wp2_with fail;refine HTH.out.mono ?_;rintro e w1 ⟨rfl,hk1⟩;have H1:=Hz (HH.out.same hk1);have K1:=Hz hk1;clear hk1 HTH;by_cases hi:i<0
 ·have hd:decide (i<0)=true:=by simpa using hi
  have HE:=Hz (show W.guard k=-1 by rw [HGD.out,if_pos (.inl hi)]);clear hi;go_wp2_with fail;go_ret;exact ⟨bX HE.out.symm,K1.out⟩
 ·have hd:decide (i<0)=false:=by simpa using hi
  obtain ⟨m,rfl,g,o,nc,ao,cap,e,hm,hg,t0,-,-,-⟩:=H1.out.nth (HTL.out (by omega));obtain ⟨c0,-,-,-,-,-⟩:=H1.out.cells;have pl:=H1.out.hp.lt;rw [e] at c0;clear e hi;by_cases h5:(W.th m).k=5
  ·have HE:=Hz (show W.guard k=m by rw [HGD.out,if_neg (by rw [h5];simp)]);rw [h5] at t0;clear h5;go_wp2_with fail;go_ret;exact ⟨bX HE.out.symm,K1.out⟩
  ·have HE:=Hz (show W.guard k=-1 by rw [HGD.out,if_pos (.inr h5)]);have hb:((W.th m).k != 5)=true:=by simpa using h5
   clear h5;generalize (W.th m).k=q at *;go_wp2_with fail;go_ret;exact ⟨bX HE.out.symm,K1.out⟩
end
end
section
open Go.RowKit
theorem iV:∀ (l:List (Int × Int)) (k:Nat) (v:Int × Int),aA (l.set k v)=((aA l).set (k*2) (.int .i64 v.1)).set (k*2+1) (.int .i64 v.2)
 | [],k,v=>by simp [aA]
 | e :: l,0,v=>by rw [List.set_cons_zero,eY,eY];rfl
 | e :: l,k+1,v=>by
  rw [List.set_cons_succ,eY,eY,iV l k v];rw [show (k+1)*2=k*2+1+1 by omega]
  rfl
theorem yn {P:Program} {ops:Array Oper} {rest:List Oper} {o:Oper} {a:Act} {w:World} {Q:Exit→Act→World→Prop} (hgd:o.guard=none) (ty:TypeId) (x y:Operand) (ho:o.op=.store ty x y) (hd:o.dst=none)
  (g off n cap k:Nat) (xs:List Value) (e:Nat) (v0 v1:Value) (hx:a.eval x=.pointer (some ⟨g,off+k*2,none⟩)) (hy:a.eval y=.agg #[v0,v1])
  (hs:Sl w e 2 (.slice (some ⟨g,off,none⟩) n cap) n xs) (hk:k<n) (hi:(P.info? ty).map (·.size)=some 2) (h0:v0.oneCell'=true) (h1:v1.oneCell'=true)
  (h:∀ w',Sl w' e 2 (.slice (some ⟨g,off,none⟩) n cap) n ((xs.set (k*2) v0).set (k*2+1) v1)→ab (·=g) w w'→w'.heap.size=w.heap.size→wpList P ops Q rest a w'):wpList P ops Q (o :: rest) a w:=by
 obtain ⟨g',o',cap',cur,e1,hb,hc1,hc2,hc3,hc4⟩:=hs.laid (by omega);cases e1;have hth:w.there g (off+k*2) 2:=fun j hj=>by
  have hl:off+k*2+j<cur.length:=by omega
  refine ⟨?_,hb.free _⟩;rw [hb.cell,Le hl];rfl
 refine wpList_store_mid hgd ty x y ho g (off+k*2) #[v0,v1] hx hy hth (by simpa using hi) (all_oneCell_toArray (cs:=[v0,v1]) (by intro v hv;simp at hv;rcases hv with rfl | rfl <;> assumption)) ?_;rw [hd];refine h _ ?_ ?_ ?_
 ·have s1:=hs.set (j:=k*2) (u:=v0) (by omega);have s2:=s1.set (j:=k*2+1) (u:=v1) (by omega);rw [←Nat.add_assoc] at s2;exact s2
 ·exact ((ab.refl (·=g) w).setCell (p:=⟨g,off+k*2,none⟩) (.inl rfl) v0).setCell (p:=⟨g,off+k*2+1,none⟩) (.inl rfl) v1
 ·show (World.setCell _ _ _).heap.size=_
  simp
theorem cr {P:Program} {o:Oper} {a:Act} {w:World} {K:Act→World→Prop} (ty:TypeId) (x y:Operand) (ho:o.op=.store ty x y) (hd:o.dst=none)
  (g off n cap k:Nat) (xs:List Value) (e:Nat) (v0 v1:Value) (hx:a.eval x=.pointer (some ⟨g,off+k*2,none⟩)) (hy:a.eval y=.agg #[v0,v1])
  (hs:Sl w e 2 (.slice (some ⟨g,off,none⟩) n cap) n xs) (hk:k<n) (hi:(P.info? ty).map (·.size)=some 2) (h0:v0.oneCell'=true) (h1:v1.oneCell'=true)
  (h:∀ w',Sl w' e 2 (.slice (some ⟨g,off,none⟩) n cap) n ((xs.set (k*2) v0).set (k*2+1) v1)→ab (·=g) w w'→w'.heap.size=w.heap.size→K a w'):aC P o a w K:=by
 obtain ⟨g',o',cap',cur,e1,hb,hc1,hc2,hc3,hc4⟩:=hs.laid (by omega);cases e1;have hth:w.there g (off+k*2) 2:=fun j hj=>by
  have hl:off+k*2+j<cur.length:=by omega
  refine ⟨?_,hb.free _⟩;rw [hb.cell,Le hl];rfl
 have hh:K a (w.setCells g (off+k*2) [v0,v1]):=by
  refine h _ ?_ ?_ ?_
  ·have s1:=hs.set (j:=k*2) (u:=v0) (by omega);have s2:=s1.set (j:=k*2+1) (u:=v1) (by omega);rw [←Nat.add_assoc] at s2;exact s2
  ·exact ((ab.refl (·=g) w).setCell (p:=⟨g,off+k*2,none⟩) (.inl rfl) v0).setCell (p:=⟨g,off+k*2+1,none⟩) (.inl rfl) v1
  ·show (World.setCell _ _ _).heap.size=_
   simp
 unfold aC execOp;simp only [ho,hx,hy,Instr.storeAt,Instr.sureAddr,Sem.run_bind,Sem.run_pure,Result.andThen_ok,run_storeVar_mid w g (off+k*2) ty #[v0,v1] hth (by simpa using hi) (all_oneCell_toArray (cs:=[v0,v1]) (by intro v hv;simp at hv;rcases hv with rfl | rfl <;> assumption))]
 first | exact hh | (show K (a.put o.dst undef) _;rw [hd];exact hh)
end
section
open Go.RowKit
section
variable {w:World} {h:RW} {W:Wd}
theorem aZ.fN {w':World} (H:aZ w h W) {g o rc:Nat} (hrv:h.rv=.slice (some ⟨g,o,none⟩) W.roots.length rc) {k:Nat} (hk:k<12) {v:Vl} (hv:W.cI v)
  (hs:Sl w' 96 2 (.slice (some ⟨g,o,none⟩) W.roots.length rc) W.roots.length (((aA W.roots).set (k*2) (.int .i64 v.1)).set (k*2+1) (.int .i64 v.2))) (K:ab (·=g) w w'):aK w h w' (W.cB k v):=by
 have ho:ai h.rv g:=by rw [hrv];exact rfl
 obtain ⟨_,c,hc⟩:=H.hr.own ho;have ne:∀ {b:Nat} {c':List Value} {T:TypeId},ah w b c' T→T≠96→¬ b=g:=fun hb hT e=>(hb.ne hc hT) e;have hl:(W.cB k v).roots.length=W.roots.length:=by simp [Wd.cB]
 have hset:(W.cB k v).roots=W.roots.set k v:=by simp [Wd.cB]
 refine ⟨h,⟨K.ak H.hp (ne H.hp (by decide)),H.ht.ae K (fun b hb _ e=>(H.af b hb).2.2 (e ▸ ho)) (fun b hb=>?_),?_,H.hg.ae K (fun b hb=>?_),H.hw.ae K (fun b hb=>?_),H.ap,fun b hb=>?_,H.ok.cB hv k⟩,rfl,K.mono (fun b _ e=>e ▸ .inr (.inr (.inl ho))),fun b hb=>.inl hb⟩
 ·obtain ⟨cs,hs',_⟩:=H.ht;obtain ⟨_,c',hc'⟩:=hs'.own hb;exact ne hc' (by decide)
 ·rw [hl,hset,iV,hrv];exact hs
 ·obtain ⟨_,c',hc'⟩:=H.hg.own hb;exact ne hc' (by decide)
 ·obtain ⟨_,c',hc'⟩:=H.hw.own hb;exact ne hc' (by decide)
 ·obtain ⟨h1,⟨c',h2⟩,h3⟩:=H.af b hb;exact ⟨Nat.lt_of_lt_of_le h1 K.size,⟨c',K.ak h2 (fun e=>h3 (e ▸ ho))⟩,h3⟩
end
theorem aN (k:Int):bD k=true↔0≤k∧k<12:=by simp [bD]
def Sound (x:St) (j:Nat):Prop:=∀ i,i<j→gp (aR x.k) i=true→bD (x.jo i)=true
theorem Sound.next {x:St} {j:Nat} (h:Sound x j) (hb:gp (aR x.k) j=true→bD (x.jo j)=true):Sound x (j+1):=fun i hi h1=>by
 rcases Nat.lt_or_eq_of_le (Nat.le_of_lt_succ hi) with h2 | rfl
 ·exact h i h2 h1
 ·exact hb h1
theorem cj (x:St) (w:World):Calls Tryz.prog 99 #[.agg #[.int .i64 x.k, .int .i64 x.r, .int .i64 x.a, .int .i64 x.b, .int .i64 x.i, .int .i64 x.n]] w fun e w'=>e=.returned (.int .i64 (aX x))∧ab (fun _=>False) w w':=by
 have HU:=Hz (fun w=>wN x.k w);have HN:=Hz (fun h=>oD (x:=x) h);have HR:=Hz (fun j (h1:aR x.k≠-1) (h2:j<3) (h3:gp (aR x.k) j=true) h4=>oE (x:=x) (j:=j) h1 h2 h3 h4);have HX:=Hz (fun h (h2:Sound x 3)=>oF (x:=x) h h2);have S0:=Hz (show Sound x 0 from fun i hi=>by omega);have SN:=Hz (fun j=>@Sound.next x j);have hv:=pU x.k;have B1:ah (w.alloc (.cells #[.int .i64 x.k, .int .i64 x.r, .int .i64 x.a, .int .i64 x.b, .int .i64 x.i, .int .i64 x.n] 69)) w.heap.size [.int .i64 x.k, .int .i64 x.r, .int .i64 x.a, .int .i64 x.b, .int .i64 x.i, .int .i64 x.n] 69:=ah.newAt _ rfl rfl;have K1:=Hz ((Kz w).alloc (.cells #[.int .i64 x.k, .int .i64 x.r, .int .i64 x.a, .int .i64 x.b, .int .i64 x.i, .int .i64 x.n] 69));have HB:=Hz B1;clear B1;obtain ⟨xk,xr,xa,xb,xi,xn⟩:=x;dsimp only at hv;generalize hu:aR xk=u at hv;have hU:=Hz hu;dsimp only at HU;rw [hu] at HU;go_enter Tryz.func99,Tryz.ntmps99;go_wp2_with fail;refine (HU.out _).mono ?_;rintro e w1 ⟨rfl,hk⟩;have HB1:=Hz (hk.ak HB.out (fun h=>h));have K2:=Hz (K1.out.trans hk);clear hk HU hu;generalize w.heap.size=p at *;have p0:=HB1.out.cell 0;have p1:=HB1.out.cell 1;have p2:=HB1.out.cell 2;have p3:=HB1.out.cell 3;have p4:=HB1.out.cell 4;have p5:=HB1.out.cell 5;have pl:=HB1.out.lt;simp only [Lz,Ls] at p0 p1 p2 p3 p4 p5;by_cases hneg:u=-1
 ·have HE:=Hz (HN.out (hU.out.trans hneg));subst hneg;clear hv;go_wp2_with fail;go_ret;exact ⟨bX HE.out.symm,K2.out⟩
 ·have hnn:aR xk≠-1:=by rw [hU.out];exact hneg
  have HNN:=Hz hnn;have hd:decide (u<0)=false:=by simp;omega
  clear hnn;go_upto_region 5 with (fail)
  generalize hw2:w1.alloc (.cells #[.int .i64 xr, .int .i64 xa, .int .i64 xb] 3)=w2;have K3:=Hz (show ab (fun _=>False) w w2 by rw [←hw2];exact K2.out.alloc _);have HB2:=Hz (show ah w2 p _ _ by rw [←hw2];exact HB1.out.alloc _);have HL:=Hz (show ah w2 w1.heap.size [.int .i64 xr, .int .i64 xa, .int .i64 xb] 3 by rw [←hw2];exact ah.newAt _ rfl rfl);clear p0 p1 p2 p3 p4 p5 pl HB1 K2 hw2;generalize w1.heap.size=q at *;have p0:=HB2.out.cell 0;have p5:=HB2.out.cell 5;have pl:=HB2.out.lt;have q0:=HL.out.cell 0;have q1:=HL.out.cell 1;have q2:=HL.out.cell 2;have ql:=HL.out.lt;simp only [Lz,Ls] at p0 p5 q0 q1 q2;go_wp2_with fail;go_loopw [5] (fun j wr=>∃ i:Nat,i≤3∧j=.int .i64 i∧wr=w2∧Hid (Sound ⟨xk,xr,xa,xb,xi,xn⟩ i)) (fun j _=>3-(intOf j).toNat)
  case atStart=>exact ⟨0,by omega,rfl,rfl,S0⟩
  case round=>
   obtain ⟨j,hj,rfl,rfl,hS⟩:=hrel;clear S0;rcases (by omega:j=3∨j=0∨j=1∨j=2) with rfl | hj'
   ·have HX2:=Hz (HX.out HNN.out hS.out);clear HX HN HR SN hS hU HNN hv hd;by_cases k1:xk=1
    ·subst k1;by_cases n1:xn≥1152921504606846976
     ·have HE:=Hz (show aX ⟨1,xr,xa,xb,xi,xn⟩=1 by rw [HX2.out,if_pos ⟨rfl,fun h=>by unfold cA at h;omega⟩]);have d1:decide (xn≥1152921504606846976)=true:=by simpa using n1
      clear n1 HX2;go_wp2_with fail;go_ret;exact ⟨bX HE.out.symm,K3.out⟩
     ·have d1:decide (xn≥1152921504606846976)=false:=by simpa using n1
      by_cases n2:xn < -1152921504606846976
      ·have HE:=Hz (show aX ⟨1,xr,xa,xb,xi,xn⟩=1 by rw [HX2.out,if_pos ⟨rfl,fun h=>by unfold cA at h;omega⟩]);have d2:decide (xn < -1152921504606846976)=true:=by simpa using n2
       clear n1 n2 HX2;go_wp2_with fail;go_ret;exact ⟨bX HE.out.symm,K3.out⟩
      ·have HE:=Hz (show aX ⟨1,xr,xa,xb,xi,xn⟩=0 by rw [HX2.out,if_neg (fun h=>h.2 (by unfold cA;omega)),if_neg (fun h=>by omega)]);have d2:decide (xn < -1152921504606846976)=false:=by simpa using n2
       clear n1 n2 HX2;go_wp2_with fail;go_ret;exact ⟨bX HE.out.symm,K3.out⟩
    ·have e1:(xk == 1)=false:=by simpa using k1
     by_cases k5:xk=5
     ·subst k5;by_cases n1:xn<0
      ·have HE:=Hz (show aX ⟨5,xr,xa,xb,xi,xn⟩=1 by rw [HX2.out,if_neg (fun h=>by omega),if_pos ⟨rfl,fun h=>by omega⟩]);have d1:decide (xn<0)=true:=by simpa using n1
       clear n1 HX2 k1;go_wp2_with fail;go_ret;exact ⟨bX HE.out.symm,K3.out⟩
      ·have d1:decide (xn<0)=false:=by simpa using n1
       by_cases n2:xn > 12
       ·have HE:=Hz (show aX ⟨5,xr,xa,xb,xi,xn⟩=1 by rw [HX2.out,if_neg (fun h=>by omega),if_pos ⟨rfl,fun h=>by omega⟩]);have d2:decide (12<xn)=true:=by simpa using n2
        clear n1 n2 HX2 k1;go_wp2_with fail;go_ret;exact ⟨bX HE.out.symm,K3.out⟩
       ·have HE:=Hz (show aX ⟨5,xr,xa,xb,xi,xn⟩=0 by rw [HX2.out,if_neg (fun h=>by omega),if_neg (fun h=>h.2 (by omega))]);have d2:decide (12<xn)=false:=by simpa using n2
        clear n1 n2 HX2 k1;go_wp2_with fail;go_ret;exact ⟨bX HE.out.symm,K3.out⟩
     ·have e5:(xk == 5)=false:=by simpa using k5
      have HE:=Hz (show aX ⟨xk,xr,xa,xb,xi,xn⟩=0 by rw [HX2.out,if_neg (fun h=>k1 h.1),if_neg (fun h=>k5 h.1)]);clear k1 k5 HX2;go_wp2_with fail;go_ret;exact ⟨bX HE.out.symm,K3.out⟩
   ·have HB2:=Hz (fun hb=>(HR.out j HNN.out (by omega) hb));have HNX:=Hz (fun h=>(SN.out j hS.out h));clear HX HN HR SN hS HNN;cases hub:gp u j
    ·have HSN:=Hz (HNX.out (fun h=>by rw [hU.out,hub] at h;cases h));clear HNX HB2 hU;rcases hv with rfl | rfl | rfl | rfl | rfl | rfl <;> rcases hj' with rfl | rfl | rfl <;> first | (exfalso;revert hub;decide) | (exfalso;exact hneg rfl) | skip
     all_goals
      clear hub hneg;go_wp2_with fail;go_roundw
      case rel=>exact ⟨_,by decide,by first | rfl | go_num,by first | rfl | trivial,HSN⟩
      case measure=>simp [intOf]
    ·have HNX2:=Hz (fun h=>HNX.out (fun _=>h));have HBB:=Hz (HB2.out (by rw [hU.out];exact hub));clear HNX HB2 hU;cases hro:bD (St.jo ⟨xk,xr,xa,xb,xi,xn⟩ j)
     ·have HE:=Hz (HBB.out hro);clear HBB HNX2;have hlim:St.jo ⟨xk,xr,xa,xb,xi,xn⟩ j<0∨12≤St.jo ⟨xk,xr,xa,xb,xi,xn⟩ j:=by
       unfold bD at hro;simp at hro;omega
      clear hro;rcases hv with rfl | rfl | rfl | rfl | rfl | rfl <;> rcases hj' with rfl | rfl | rfl <;> first | (exfalso;revert hub;decide) | (exfalso;exact hneg rfl) | skip
      all_goals
       clear hub hneg;simp [St.jo] at hlim;rcases hlim with hlim | hlim
       ·have d1:=decide_eq_true hlim;clear hlim;go_wp2_with fail;go_ret;exact ⟨bX HE.out.symm,K3.out⟩
       ·have d1:decide (_<(0:Int))=false:=decide_eq_false (Int.not_lt.2 (Int.le_trans (by decide) hlim));have d2:=decide_eq_true hlim;clear hlim;go_wp2_with fail;go_ret;exact ⟨bX HE.out.symm,K3.out⟩
     ·have HSN:=Hz (HNX2.out hro);clear HBB HNX2;have hlim:0≤St.jo ⟨xk,xr,xa,xb,xi,xn⟩ j∧St.jo ⟨xk,xr,xa,xb,xi,xn⟩ j<12:=(aN _).1 hro;clear hro;rcases hv with rfl | rfl | rfl | rfl | rfl | rfl <;> rcases hj' with rfl | rfl | rfl <;> first | (exfalso;revert hub;decide) | (exfalso;exact hneg rfl) | skip
      all_goals
       clear hub hneg;simp [St.jo] at hlim;obtain ⟨l1,l2⟩:=hlim;have d1:decide (_<(0:Int))=false:=decide_eq_false (Int.not_lt.2 l1);have d2:decide ((12:Int)≤_)=false:=decide_eq_false (Int.not_le.2 l2);clear l1 l2;go_wp2_with fail;go_roundw
       case rel=>exact ⟨_,by decide,by first | rfl | go_num,by first | rfl | trivial,HSN⟩
       case measure=>simp [intOf]
end
section
open Go.RowKit
def yo (w w':World) (W:Wd) (e:Ending):Prop:=∃ h:RW,e=.returned (.pointer (some ⟨h.p,0,none⟩))∧aZ w' h W∧ab (fun _=>False) w w'∧∀ k,h.Own k→w.heap.size≤k
theorem AX:madeCells (Value.agg #[Value.int .i64 0,Value.int .i64 0]).cells 24=(aA (List.replicate 12 (0,0))).toArray:=by kernel_rfl
theorem tN (n o:Int) (h1:16≤n) (h2:n≤256) (h3:0≤o) (h4:o≤1024) (w:World) :
  Calls Tryz.prog 31 #[.int .i64 n, .int .i64 o] w fun e w'=>yo w w' (Wd.new n o) e:=by
 obtain ⟨i,hi,hz0,hz1,hz2⟩:=cZ iG;obtain ⟨A,hA⟩:∃ A:Array Value,A=(aA (List.replicate 12 (0,0))).toArray:=⟨_,rfl⟩;have hmk:(Instr.makeSlice 38 (.int .i64 12) (.int .i64 12)).run Tryz.prog w=.ok (.slice (some ⟨w.heap.size,0,none⟩) 12 12) (w.alloc (.cells A 96)):=by
  have:=run_make (P:=Tryz.prog) w 38 96 i _ Tryz.underlying38 hi hz0 .i64 .i64 12 12 (by decide) (by decide) (by rw [hz2];decide) (by decide);rw [this,hz1,hA,←AX]
  rfl
 have HA:=Hz hA;clear hA;have HOK:=Hz (Wd.jJ h1 h2 h3 h4);clear hi hz0 hz1 hz2;go_enter Tryz.func31,Tryz.ntmps31;go_wp2_with fail;go_ret;generalize hw1:w.alloc (.cells A 96)=w1;have k1:ab (fun _=>False) w w1:=by rw [←hw1];exact (ab.refl _ _).alloc _
 have b1:ah w1 w.heap.size (aA (List.replicate 12 (0,0))) 96:=by rw [←hw1];exact ah.newAt _ rfl (by rw [HA.out])
 have hs1:w1.heap.size=w.heap.size+1:=by rw [←hw1];simp
 have nl:∀ {b:Nat},ai (.slice none 0 0) b→False:=fun hb=>by simp [ai,Value.ownBlock] at hb
 refine ⟨⟨w.heap.size+1, .slice none 0 0, .slice (some ⟨w.heap.size,0,none⟩) 12 12, .slice none 0 0, .slice none 0 0,fun _=>False⟩,by first | rfl | (rw [←hs1];rfl),⟨?_,⟨[],Sl.nil _ _ _,rfl⟩,?_,Sl.nil _ _ _,Sl.nil _ _ _,fun k hk=>nl hk.1,fun k hk=>hk.elim,HOK.out⟩,?_,?_⟩
 ·exact ah.newAt _ (by first | rfl | omega | simp [hs1]) rfl
 ·refine ⟨rfl, .inr ⟨w.heap.size,0,12,aA (List.replicate 12 (0,0)),rfl,b1.alloc _,Nat.le_refl _,by decide,by decide,rfl⟩⟩
 ·exact k1.alloc _
 ·intro k hk;rcases hk with rfl | hk | hk | hk | hk | hk
  ·exact Nat.le_succ _
  ·exact (nl hk).elim
  ·simp [ai,Value.ownBlock] at hk;omega
  ·exact (nl hk).elim
  ·exact (nl hk).elim
  ·exact hk.elim
theorem kZ (n:Int) (w:World):Calls Tryz.prog 100 #[.int .i64 n] w fun e w'=>e=.returned (.agg #[.int .i64 1, .int .i64 n])∧ab (fun _=>False) w w':=by
 go_enter Tryz.func100,Tryz.ntmps100;go_wp2_with fail;refine bodyPost_ret (v:=.agg #[.int .i64 1, .int .i64 n]) (by simp [results,Tryz.results100,go_sem]) rfl ⟨rfl,?_⟩
 first | exact (ab.refl _ _).alloc _ | trace_state
end
section
open Go.RowKit
section
variable {w w':World} {h:RW} {W:Wd}
theorem aZ.BU (H:aZ w h W) {r:Nat} {kd:Int} {l:List Vl} {tv fv:Value} {fo:Option Addr} {fc:Nat} {cs:List Value} (hfv:fv=.slice fo l.length fc)
  (hp:ah w' h.p [tv,h.rv,h.gv,h.wv, .int .i64 W.most, .int .i64 W.grow] 147)
  (hR:cn 4 (g6 w h.F) W.T cs) (hT:Sl w' 154 4 tv (W.T.length+1) (cs ++ [.int .i64 kd, .slice fo l.length fc, .bool false, .bool false]))
  (hr:Sl w' 96 2 h.rv W.roots.length (((aA W.roots).set (r*2) (.int .i64 3)).set (r*2+1) (.int .i64 W.T.length)))
  (hf:Sl w' 96 2 fv l.length (aA l)) (hfn:∀ b,ai fv b→w.heap.size≤b)
  (K:ab (fun b=>ai h.rv b∨ai h.tv b∨b=h.p) w w') (hto:∀ b,ai tv b→ai h.tv b∨w.heap.size≤b) (hok:(W.put r kd l).ok):aK w h w' (W.put r kd l):=by
 subst hfv;have nF:∀ b,h.F b→¬ (ai h.rv b∨ai h.tv b∨b=h.p):=fun b hb e=>by
  obtain ⟨_,⟨c,hc⟩,h3⟩:=H.af b hb;rcases e with e | e | e
  ·exact h3 e
  ·obtain ⟨cs',hs',_⟩:=H.ht;obtain ⟨_,c',hc'⟩:=hs'.own e;exact hc.ne hc' (by decide) rfl
  ·exact hc.ne H.hp (by decide) e
 have nE:∀ {v:Value} {n:Nat} {xs:List Value},Sl w 152 2 v n xs→∀ b,ai v b→¬ (ai h.rv b∨ai h.tv b∨b=h.p):=fun hs b hb e=>by
  obtain ⟨_,c,hc⟩:=hs.own hb;rcases e with e | e | e
  ·obtain ⟨_,c',hc'⟩:=H.hr.own e;exact hc.ne hc' (by decide) rfl
  ·obtain ⟨cs',hs',_⟩:=H.ht;obtain ⟨_,c',hc'⟩:=hs'.own e;exact hc.ne hc' (by decide) rfl
  ·exact hc.ne H.hp (by decide) e
 have el:(W.put r kd l).T.length=W.T.length+1:=by simp [Wd.put]
 have er:(W.put r kd l).roots=W.roots.set r (3,(W.T.length:Int)):=by simp [Wd.put,iF]
 have erl:(W.put r kd l).roots.length=W.roots.length:=by rw [er];simp
 obtain ⟨fo',fc',e1,hrd,hml,-⟩:=hf.rd;cases e1;refine ⟨⟨h.p,tv,h.rv,h.gv,h.wv,fun b=>h.F b∨ai (.slice fo l.length fc) b⟩,⟨hp,⟨_,by rw [el];exact hT,?_⟩,?_,H.hg.ae K (nE H.hg),H.hw.ae K (nE H.hw),H.ap,?_,hok⟩,rfl,K.mono (fun b _ e=>?_),?_⟩
 ·have e2:(W.put r kd l).T=W.T ++ [⟨kd,l,false,false⟩]:=rfl;rw [e2];refine cn.app (hR.mono (fun a _ q hq=>(hq.ae K (fun b hb _=>nF b hb)).more (fun b hb=>.inl hb))) rfl ⟨fo,fc,rfl,hrd,fun a ha=>.inr (by rw [ha];rfl),hml⟩
 ·rw [erl,er,iV];exact hr
 ·intro b hb;rcases hb with hb | hb
  ·obtain ⟨h1,⟨c,h2⟩,h3⟩:=H.af b hb;exact ⟨Nat.lt_of_lt_of_le h1 K.size,⟨c,K.ak h2 (nF b hb)⟩,h3⟩
  ·obtain ⟨h1,c,h2⟩:=hf.own hb;exact ⟨h1,⟨c,h2⟩,fun e=>by have:=(H.hr.own e).1;have:=hfn b hb;omega⟩
 ·rcases e with e | e | e
  ·exact .inr (.inr (.inl e))
  ·exact .inr (.inl e)
  ·exact .inl e
 ·intro b hb;rcases hb with hb | hb | hb | hb | hb | hb
  ·exact .inl (.inl hb)
  ·exact (hto b hb).imp (fun h=>.inr (.inl h)) id
  ·exact .inl (.inr (.inr (.inl hb)))
  ·exact .inl (.inr (.inr (.inr (.inl hb))))
  ·exact .inl (.inr (.inr (.inr (.inr (.inl hb)))))
  ·rcases hb with hb | hb
   ·exact .inl (.inr (.inr (.inr (.inr (.inr hb)))))
   ·exact .inr (hfn b hb)
end
end
section
open Go.RowKit
theorem vm:(Tryz.prog.info? 154).map (fun i=>(i.zero,i.size,i.bytes))=some (some (.agg #[.int .i64 0, .slice none 0 0, .bool false, .bool false]),4,40):=by kernel_rfl
section
variable {w:World} {h:RW} {W:Wd}
end
end
section
open Go.RowKit
theorem fj {W:Wd} {x:St} {c:Int} (h:aX x=c) (h0:c≠0):W.do x=(c,W):=by unfold Wd.do;rw [h,if_neg h0]
theorem cD {W:Wd} {x:St} (h:aX x=0):W.do x=W.step x:=by unfold Wd.do;rw [if_pos h]
section
variable {w:World} {h:RW} {W:Wd}
theorem yp (xr xa xb xi xn:Int) (H:aZ w h W) :
  Calls Tryz.prog 33 #[.pointer (some ⟨h.p,0,none⟩), .agg #[.int .i64 1, .int .i64 xr, .int .i64 xa, .int .i64 xb, .int .i64 xi, .int .i64 xn]] w fun e w'=>e=.returned (.int .i64 (W.do ⟨1,xr,xa,xb,xi,xn⟩).1)∧aK w h w' (W.do ⟨1,xr,xa,xb,xi,xn⟩).2:=by
 have HH:=Hz H;have aw:ah (w.alloc (.cells #[.int .i64 1, .int .i64 xr, .int .i64 xa, .int .i64 xb, .int .i64 xi, .int .i64 xn] 69)) w.heap.size [.int .i64 1, .int .i64 xr, .int .i64 xa, .int .i64 xb, .int .i64 xi, .int .i64 xn] 69:=ah.newAt _ rfl rfl;have HB:=Hz aw;have KA:=Hz ((Kz w).alloc (.cells #[.int .i64 1, .int .i64 xr, .int .i64 xa, .int .i64 xb, .int .i64 xi, .int .i64 xn] 69));have s0:=aw.cell 0;have s1:=aw.cell 1;have s2:=aw.cell 2;have s3:=aw.cell 3;have s4:=aw.cell 4;have s5:=aw.cell 5;simp only [Lz,Ls] at s0 s1 s2 s3 s4 s5;have HSF:=Hz (fun w=>cj ⟨1,xr,xa,xb,xi,xn⟩ w);obtain ⟨c,hc⟩:∃ c,aX ⟨1,xr,xa,xb,xi,xn⟩=c:=⟨_,rfl⟩;rw [hc] at HSF;have HC:=Hz hc;clear H aw hc;go_enter Tryz.func33,Tryz.ntmps33;go_wp2_with (refine aV rfl 69 (.tmp 3) rfl [.int .i64 1, .int .i64 xr, .int .i64 xa, .int .i64 xb, .int .i64 xi, .int .i64 xn] (by kernel_rfl) w.heap.size 0 rfl (aa s0 (aa s1 (aa s2 (aa s3 (aa s4 (aa s5 aQ)))))) ?_);refine (HSF.out _).mono ?_;rintro e w1 ⟨rfl,hk⟩;have H1:=Hz ((HH.out.same KA.out).same hk);have K1:=Hz (KA.out.trans hk);have B1:=Hz (hk.ak HB.out (fun h=>h));clear hk s0 s1 s2 s3 s4 s5 HSF KA HB;generalize w.heap.size=sb at *;have s0:=B1.out.cell 0;have s1:=B1.out.cell 1;have s5:=B1.out.cell 5;have sl:=B1.out.lt;simp only [Lz,Ls] at s0 s1 s5;by_cases h0:c=0
 ·subst h0;have hr:=(aI HC.out).2.1 (show aR 1%2=1 by decide);have hr:0≤xr∧xr<12:=(aN _).1 hr;have hn:-cA≤xn∧xn<cA:=(aI HC.out).2.2.2.2.1 rfl;have HE:=Hz (show W.do ⟨1,xr,xa,xb,xi,xn⟩=(0,W.cB xr (1,xn)) by rw [cD HC.out];rfl);have HN:=Hz (Wd.iU (W:=W) hn.1 hn.2);obtain ⟨r,rfl⟩:∃ r:Nat,xr=r:=⟨xr.toNat,by omega⟩;have hr12:r<12:=by omega
  clear hn;obtain ⟨g,o,rc,erv,hg,-,-⟩:=H1.out.root hr12;have hrl:W.roots.length=12:=H1.out.ok.hr;obtain ⟨-,c1,-,-,-,-⟩:=H1.out.cells;have pl:=H1.out.hp.lt;have hrs:=H1.out.hr;rw [erv,hrl] at c1 hrs;have RS:=Hz hrs;have ERV:=Hz erv;have HRL:=Hz hrl;have h12:(r:Int)<12:=by omega
  clear erv hrl hrs hr;go_wp2_with fail;refine ay (.free 0 (.free 1 (.free 2 (.free 4 (.free 6 (.pure 3 (.pure 5 (.pure 7 (.free 8 (.free 9 (.run 10 (.swi [] (.fin))))))))))))) [10] (fun w'=>w'.cell? ⟨h.p,1,none⟩=some (.slice (some ⟨g,o,none⟩) 12 rc)∧w'.cell? ⟨sb,1,none⟩=some (.int .i64 r)∧w'.cell? ⟨sb,5,none⟩=some (.int .i64 xn)) (by kernel_rfl) (by kernel_rfl) ⟨c1,s1,s5⟩ ?_
  iterate 10 ((first | refine au rfl rfl fun K hK=>?_ | refine aq rfl rfl fun K hK=>?_ | refine aF rfl rfl fun K hK=>?_ | refine az rfl rfl fun K hK=>?_ | refine aE rfl rfl fun K hK=>?_);go_simp;refine hK _ ?_;clear hK K)
  refine aJ rfl rfl rfl (fun K hK=>?_);refine cr 96 (.tmp 34) (.tmp 33) rfl rfl g o 12 rc r (aA W.roots) 96 (.int .i64 1) (.int .i64 xn) rfl rfl (RS.out.ae (Kz w1).drew (fun _ _ h=>h)) hr12 (by kernel_rfl) rfl rfl ?_;intro w3 hs3 hk3 hz3;refine hK _ _ ?_;clear hK K;refine aH (fun _=>True) trivial (aB ?_);have hkw:ab (·=g) w1 w3:=((Kz w1).drew.mono (fun _ _ h=>h.elim)).trans hk3;have TO:=Hz (aK.aW K1.out (H1.out.fN (w':=w3) (by rw [ERV.out]) hr12 HN.out (by rw [HRL.out];exact hs3) hkw));clear hkw hs3 hk3 hz3 c1 s1 s5 s0;go_wp2_with fail;go_ret;exact ⟨by rw [HE.out];rfl,by rw [HE.out];exact TO.out⟩
 ·have HE:=Hz (fj (W:=W) HC.out h0);have hd:(c != 0)=true:=by simpa using h0
  clear h0;go_wp2_with fail;go_ret;exact ⟨by rw [HE.out];rfl,by rw [HE.out];exact aK.same HH.out K1.out⟩
end
end
section
open Go.RowKit
theorem mP (w:World) (o:Obj) (a:Addr) (v:Value) (h:a.block<w.heap.size):(w.alloc o).setCell a v=(w.setCell a v).alloc o:=by
 unfold World.setCell World.alloc;congr 1;apply Array.ext
 ·simp
 ·intro i h1 h2;simp only [Array.getElem_modify,Array.getElem_push,Array.size_modify];simp only [Array.size_modify,Array.size_push] at h1;by_cases e:a.block=i
  ·subst e;simp [h]
  ·simp [e]
end
section
def mQ (n:Nat) (v:Vl):Prop:=v.1=3→0≤v.2∧v.2<n
def fF (l:List Bool) (v:Vl):List Bool:=if bJ l v=true then l else l.set v.2.toNat true
theorem ng {l:List Bool} {v:Vl} (h:bJ l v=false):v.1=3∧ax l v.2=false:=by
 unfold bJ at h;simp only [Bool.or_eq_false_iff,bne_eq_false_iff_eq] at h;exact h
theorem lL {l:List Bool} {v:Vl} (h:bJ l v=true):v.1=3→ax l v.2=true:=fun h3=>by
 unfold bJ at h;simpa [h3] using h
def nh (l:List Bool):Nat:=(l.filter (! ·)).length
theorem uG:∀ {l:List Bool} {i:Nat},i<l.length→l.getD i false=false→nh (l.set i true)+1=nh l
 | [],i,h,_=>by simp at h
 | b :: l,0,_,h=>by
  have:b=false:=by simpa using h
  subst this;simp [nh]
 | b :: l,i+1,h,h2=>by
  have ih:=uG (l:=l) (i:=i) (by simpa using h) (by simpa using h2);unfold nh at *;cases b <;> simp at ih ⊢ <;> omega
theorem zX {l:List Bool} {v:Vl} (hv:mQ l.length v) (h:bJ l v=false):nh (fF l v)+1=nh l:=by
 obtain ⟨h3,h4⟩:=ng h;obtain ⟨h0,h1⟩:=hv h3;unfold fF;rw [if_neg (by rw [h];decide)];exact uG (by omega) (by unfold ax at h4;simpa [h0] using h4)
structure gA (W:Wd) (q:List (Int × Int)) (is l:List Bool):Prop where
 len:l.length=is.length
 base:∀ i,ax is i=true→ax l i=true
 al:∀ i,ax l i=true→b9 W.nd q (fun k=>ax is k=true) i
theorem gA.start (W:Wd) (q:List (Int × Int)) (is:List Bool):gA W q is is:=⟨rfl,fun _ h=>h,fun _ h=>b9.base h⟩
theorem gA.add {W:Wd} {q:List (Int × Int)} {is l:List Bool} (h:gA W q is l) {v:Vl} (hv:mQ l.length v) (ha:v.1=3→b9 W.nd q (fun k=>ax is k=true) v.2):gA W q is (fF l v):=by
 cases hi:bJ l v
 ·obtain ⟨h3,h4⟩:=ng hi;obtain ⟨h0,h1⟩:=hv h3;have e:fF l v=l.set v.2.toNat true:=by unfold fF;rw [hi];simp
  rw [e];refine ⟨by rw [List.length_set];exact h.len,fun i hb=>(fM h0 h1).2 (.inr (h.base i hb)),fun i hb=>?_⟩;rcases (fM h0 h1).1 hb with rfl | hb
  ·exact ha h3
  ·exact h.al i hb
 ·have e:fF l v=l:=by unfold fF;rw [hi];rfl
  rw [e];exact h
def Fl (m:Bool) (lp l:List Bool):Prop:=(m=false∧l=lp)∨(m=true∧nh l<nh lp)
theorem Fl.start (l:List Bool):Fl false l l:=.inl ⟨rfl,rfl⟩
theorem Fl.add {m:Bool} {lp l:List Bool} {v:Vl} (h:Fl m lp l) (hv:mQ l.length v):Fl (!bJ l v || m) lp (fF l v):=by
 cases hi:bJ l v
 ·have hu:=zX hv hi;right;refine ⟨rfl,?_⟩;rcases h with ⟨_,rfl⟩ | ⟨_,h⟩ <;> omega
 ·have e:fF l v=l:=by unfold fF;rw [hi];rfl
  rw [e];simpa using h
def cQ (W:Wd) (q:List (Int × Int)) (l:List Bool) (i:Int):Prop:=ax l i=true→∀ k,gZ W.nd q (fun k=>ax l k=true) i k→ax l k=true
def lM (m:Bool) (p:Prop):Prop:=m=false→p
theorem lM.add {m:Bool} {lp l:List Bool} {v:Vl} {p r:Prop} (hf:Fl m lp l) (h:lM m p) (hr:p→bJ lp v=true→r):lM (!bJ l v || m) r:=fun hm=>by
 simp only [Bool.or_eq_false_iff,Bool.not_eq_false'] at hm;rcases hf with ⟨_,rfl⟩ | ⟨h1,_⟩
 ·exact hr (h hm.2) hm.1
 ·rw [h1] at hm;exact absurd hm.2 (by decide)
theorem gA.live {W:Wd} (h:W.ok) {q:List (Int × Int)} (hq:∀ e ∈ q,W.dj e) {is l:List Bool} (hl:∀ i,ax is i=true→W.live i) (g:gA W q is l) {i:Int} (hi:ax l i=true):W.live i:=
 (g.al i hi).least hl (Wd.iT h hq)
theorem gA.done {W:Wd} {q:List (Int × Int)} {is l:List Bool} (g:gA W q is l) (hc:∀ j:Nat,j<l.length→cQ W q l j):l=W.cX q is:=
 zW g.len g.base g.al (fun i j hi hj=>by
  have:=kB hi;have hc':=hc i.toNat (by omega);rw [show ((i.toNat:Nat):Int)=i by omega] at hc'
  exact hc' hi j hj)
theorem gA.lead {W:Wd} {q:List (Int × Int)} {is l:List Bool} (g:gA W q is l) {i:Int} (hi:ax l i=true) {v:Vl} (h:v.1=3→gZ W.nd q (fun k=>ax l k=true) i v.2):v.1=3→b9 W.nd q (fun k=>ax is k=true) v.2:=fun h3=>
 b9.closed W.nd q _ i v.2 (g.al i hi) ((h h3).mono (fun k hk=>g.al k hk) (fun _ h=>h))
theorem oG {W:Wd} {q:List (Int × Int)} {l:List Bool} {i:Int} (h:ax l i=false):cQ W q l i:=fun h'=>by rw [h] at h';cases h'
theorem gI {W:Wd} {q:List (Int × Int)} {l:List Bool} {i:Int} (hk:(W.th i).k=1∨(W.th i).k=2) (h:∀ v ∈ (W.th i).fs,bJ l v=true):cQ W q l i:=fun _ k hl=>by
 rcases hl with ⟨_,h2⟩ | ⟨h1,_⟩ | ⟨h1,_⟩ | ⟨h1,_⟩
 ·exact lL (h _ h2) rfl
 all_goals (have h1:(W.th i).k=_:=h1;omega)
theorem rM {W:Wd} {q:List (Int × Int)} {l:List Bool} {i:Int} (hk:(W.th i).k=3) {u v:Vl} (hf:(W.th i).fs=[u,v]) (h:bJ l v=true):cQ W q l i:=fun _ k hl=>by
 rcases hl with ⟨h1,_⟩ | ⟨_,h2⟩ | ⟨h1,_⟩ | ⟨h1,_⟩
 ·have h1:(W.th i).k=1∨(W.th i).k=2:=h1;omega
 ·have h2:(W.th i).fs[1]? = some (3,k):=h2;rw [hf] at h2;simp at h2;rw [h2] at h;exact lL h rfl
 all_goals (have h1:(W.th i).k=_:=h1;omega)
theorem kG {W:Wd} {q:List (Int × Int)} {l:List Bool} {i:Int} (hk:(W.th i).k=4) {u v:Vl} (hf:(W.th i).fs=[u,v]) (h:bJ l u=true→bJ l v=true):cQ W q l i:=fun _ k hl=>by
 rcases hl with ⟨h1,_⟩ | ⟨h1,_⟩ | ⟨_,h2,h3⟩ | ⟨h1,_⟩
 ·have h1:(W.th i).k=1∨(W.th i).k=2:=h1;omega
 ·have h1:(W.th i).k=_:=h1;omega
 ·have h2:(W.th i).fs[1]? = some (3,k):=h2;have h3:∀ v,(W.th i).fs[0]? = some v→v.1=3→ax l v.2=true:=h3;rw [hf] at h2 h3;simp at h2;rw [h2] at h;refine lL (h ?_) rfl;unfold bJ;by_cases c:u.1=3
  ·simp [h3 u rfl c]
  ·simp [c]
 ·have h1:(W.th i).k=_:=h1;omega
theorem lN {W:Wd} {q:List (Int × Int)} {l:List Bool} {i:Int} (hk:(W.th i).k=5) (h:∀ e ∈ q,e.1=i→bJ l (3,e.2)=true):cQ W q l i:=fun _ k hl=>by
 rcases hl with ⟨h1,_⟩ | ⟨h1,_⟩ | ⟨h1,_⟩ | ⟨_,h2⟩
 ·have h1:(W.th i).k=1∨(W.th i).k=2:=h1;omega
 ·have h1:(W.th i).k=_:=h1;omega
 ·have h1:(W.th i).k=_:=h1;omega
 ·exact lL (h _ h2 rfl) rfl
theorem oH {W:Wd} {q:List (Int × Int)} {l:List Bool} {i:Int} (hk:(W.th i).k=1∨(W.th i).k=2) {v:Vl} (hv:v ∈ (W.th i).fs):v.1=3→gZ W.nd q (fun k=>ax l k=true) i v.2:=fun h3=>
 .inl ⟨hk,by show (3,v.2) ∈ (W.th i).fs;rw [←h3];exact hv⟩
theorem wO {W:Wd} {q:List (Int × Int)} {l:List Bool} {i:Int} (hk:(W.th i).k=3) {u v:Vl} (hf:(W.th i).fs=[u,v]):v.1=3→gZ W.nd q (fun k=>ax l k=true) i v.2:=fun h3=>
 .inr (.inl ⟨hk,by show (W.th i).fs[1]? = _;rw [hf,←h3];rfl⟩)
theorem yq {W:Wd} {q:List (Int × Int)} {l:List Bool} {i:Int} (hk:(W.th i).k=4) {u v:Vl} (hf:(W.th i).fs=[u,v]) (h:bJ l u=true):v.1=3→gZ W.nd q (fun k=>ax l k=true) i v.2:=fun h3=>
 .inr (.inr (.inl ⟨hk,by show (W.th i).fs[1]? = _;rw [hf,←h3];rfl,fun x hx h3'=>by
  have hx:(W.th i).fs[0]? = some x:=hx;rw [hf] at hx;simp at hx;subst hx
  exact lL h h3'⟩))
theorem vp {W:Wd} {q:List (Int × Int)} {l:List Bool} {i:Int} (hk:(W.th i).k=5) {e:Int × Int} (he:e ∈ q) (h1:e.1=i):((3,e.2):Vl).1=3→gZ W.nd q (fun k=>ax l k=true) i ((3,e.2):Vl).2:=fun _=>
 .inr (.inr (.inr ⟨hk,by rw [←h1];exact he⟩))
end
end Go.Proofs.YtjifdalflepcoacGreat
