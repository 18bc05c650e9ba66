/-
  Parts of the proof, merged: what the functions do, and plain laws.
-/
import Derived.WalkKit
import Derived.WalkSpells
import Derived.WalkLawsBesides
import Derived.Deep.QuietTactic
import Derived.BigQuiet
import Derived.Lib.Hide
import Derived.ProofKit
import Derived.OpenShut
import Derived.Deep.Slices
import Derived.Deep.Fields
import Derived.ChangeSame
import Derived.Lib.SmallJoins
import Derived.Carry
import Derived.Deep.MidRow
import Derived.Test.YtjifdalflepcoabProg
import Derived.Laws.CopyRow
import Derived.Deep.DeepCutAuto
import Derived.Outline
import Derived.Maps.Own
import Derived.Maps.OwnSet
import Derived.Deep.CutBlock
set_option maxHeartbeats 16000000
set_option maxRecDepth 100000
set_option linter.unusedVariables false
set_option linter.unusedSimpArgs false
namespace Go.Proofs.Ytjifdalflepcoab
section
open Go.RowKit
theorem Lz.{u} {α:Type u} {a:α} {l:List α}:(a::l)[0]?=some a:=List.getElem?_cons_zero
theorem Ls.{u} {α:Type u} {a:α} {i:Nat} {l:List α}:(a::l)[i+1]?=l[i]?:=List.getElem?_cons_succ
theorem Ld.{u} {α:Type u} {l:List α} {i:Nat} {a:α}:l.getD i a=l[i]?.getD a:=List.getD_eq_getElem?_getD
theorem Le.{u} {α:Type u} {l:List α} {i:Nat} (h:i<l.length):l[i]?=some l[i]:=List.getElem?_eq_getElem h
theorem Hz {p:Prop} (h:p):Hid p:=Lib.hid h
theorem int_eq {k:IntKind} {a b:Int} (h:a=b):Value.int k a=Value.int k b:=by rw [h]
theorem rM {a b:Value} (h:a=b):Ending.returned a=Ending.returned b:=by rw [h]
theorem ij {k:IntKind} {a b:Int} (h:a=b):Ending.returned (.int k a)=Ending.returned (.int k b):=by rw [h]
theorem cW {a b:Bool} (h:a=b):Ending.returned (.bool a)=Ending.returned (.bool b):=by rw [h]
def ah (w:World) (b:Nat) (c:List Value) (T:TypeId):Prop:=w.heap[b]? = some (.cells c.toArray T (0,0))
theorem ah.lt {w:World} {b:Nat} {c:List Value} {T:TypeId} (h:ah w b c T):b<w.heap.size:=lt_of_block h
theorem ah.cell {w:World} {b:Nat} {c:List Value} {T:TypeId} (h:ah w b c T) (i:Nat):w.cell? ⟨b,i,none⟩=c[i]? := by
 unfold ah at h;simp [World.cell?,h]
theorem ah.free {w:World} {b:Nat} {c:List Value} {T:TypeId} (h:ah w b c T) (i:Nat):w.frozen? ⟨b,i,none⟩=false:=by
 unfold ah at h;simp [World.frozen?,h]
theorem ah.ne {w:World} {a b:Nat} {c d:List Value} {T U:TypeId} (h:ah w a c T) (k:ah w b d U) (hTU:T≠U):a≠b:=by
 rintro rfl;unfold ah at h k;rw [h] at k;simp at k;exact hTU k.2
theorem ah.aF {w:World} {b:Nat} {c:List Value} {T:TypeId} (h:ah w b c T) (i:Nat) (v:Value):ah (w.setCell ⟨b,i,none⟩ v) b (c.set i v) T:=by
 unfold ah at *;simp [World.setCell,Array.getElem?_modify,h]
theorem ah.cA {w:World} {b:Nat} {c:List Value} {T:TypeId} (h:ah w b c T) {a:Addr} (hn:b≠a.block) (v:Value):ah (w.setCell a v) b c T:=by
 unfold ah at *;rw [Below.heap_setCell _ _ _ _ hn];exact h
theorem ah.alloc {w:World} {b:Nat} {c:List Value} {T:TypeId} (h:ah w b c T) (o:Obj):ah (w.alloc o) b c T:=by
 have:=h.lt;unfold ah at *;rw [Below.heap_alloc _ _ _ this];exact h
theorem ah.drew {w:World} {b:Nat} {c:List Value} {T:TypeId} (h:ah w b c T):ah w.drew b c T:=h
theorem ah.new (w:World) (c:List Value) (T:TypeId):ah (w.alloc (.cells c.toArray T)) w.heap.size c T:=by
 unfold ah
 show (w.heap.push _)[w.heap.size]? = _
 simp
theorem ah.newAt {w:World} {b:Nat} {c:List Value} {T:TypeId} (a:Array Value) (hb:b=w.heap.size) (hc:a.toList=c):ah (w.alloc (.cells a T)) b c T:=by
 subst hb;subst hc;simpa using ah.new w a.toList T
structure aa (S:Nat→Prop) (w w':World):Prop where
 os:w'.os=w.os
 tape:w'.tape=w.tape
 output:w'.output=w.output
 size:w.heap.size≤w'.heap.size
 block:∀ k,k<w.heap.size→¬ S k→w'.heap[k]? = w.heap[k]?
theorem aa.refl (S:Nat→Prop) (w:World):aa S w w:=⟨rfl,rfl,rfl,Nat.le_refl _,fun _ _ _=>rfl⟩
theorem Kz (w:World):aa (fun _=>False) w w:=aa.refl _ w
theorem aa.trans {S:Nat→Prop} {a b c:World} (h:aa S a b) (k:aa S b c):aa S a c:=
 ⟨k.os.trans h.os,k.tape.trans h.tape,k.output.trans h.output,Nat.le_trans h.size k.size,
  fun i hi hn=>(k.block i (Nat.lt_of_lt_of_le hi h.size) hn).trans (h.block i hi hn)⟩
theorem aa.mono {S T:Nat→Prop} {w w':World} (h:aa S w w') (hST:∀ k,k<w.heap.size→S k→T k):aa T w w':=
 ⟨h.os,h.tape,h.output,h.size,fun i hi hn=>h.block i hi (fun hs=>hn (hST i hi hs))⟩
theorem aa.ai {S:Nat→Prop} {w w':World} (h:aa S w w') {b:Nat} {c:List Value} {T:TypeId} (k:ah w b c T) (hn:¬ S b):ah w' b c T:=by
 have:=h.block b k.lt hn;unfold ah at *;rw [this];exact k
theorem aa.drew {S:Nat→Prop} {w w':World} (h:aa S w w'):aa S w w'.drew:=⟨h.os,h.tape,h.output,h.size,h.block⟩
theorem aa.alloc {S:Nat→Prop} {w w':World} (h:aa S w w') (o:Obj):aa S w (w'.alloc o):=
 h.trans ⟨rfl,rfl,rfl,by simp,fun k hk _=>Below.heap_alloc _ _ _ hk⟩
theorem aa.setCell {S:Nat→Prop} {w w':World} (h:aa S w w') {p:Addr} (hp:S p.block∨w.heap.size≤p.block) (u:Value):aa S w (w'.setCell p u):=by
 refine ⟨h.os,h.tape,h.output,by simpa using h.size,fun k hk hn=>?_⟩;rw [Below.heap_setCell _ _ _ _ (by rintro rfl;rcases hp with hp | hp;exact hn hp;omega)];exact h.block k hk hn
theorem aa.below {S:Nat→Prop} {w w':World} (h:aa S w w') (hS:∀ k,k<w.heap.size→¬ S k):Below w.heap.size w w':=
 ⟨h.os,h.tape,h.output,h.size,fun k hk=>h.block k hk (hS k hk)⟩
theorem aa.from {S:Nat→Prop} {w₀ w w':World} (h₀:aa S w₀ w) (h:aa (fun k=>S k∨w₀.heap.size≤k) w w'):aa S w₀ w':=
 ⟨h.os.trans h₀.os,h.tape.trans h₀.tape,h.output.trans h₀.output,Nat.le_trans h₀.size h.size,
  fun i hi hn=>(h.block i (Nat.lt_of_lt_of_le hi h₀.size) (by rintro (hs | hs);exact hn hs;omega)).trans (h₀.block i hi hn)⟩
theorem aa.then {S T:Nat→Prop} {w₀ w w':World} (h₀:aa S w₀ w) (h:aa T w w') (hT:∀ k,T k→S k∨w₀.heap.size≤k):aa S w₀ w':=
 h₀.from (h.mono fun k _ hk=>hT k hk)
end
section
open Go.RowKit
theorem ah.setRow {w:World} {b:Nat} {c:List Value} {T:TypeId} (h:ah w b c T) (d:List Value):ah (w.setRow b d.toArray) b d T:=
 setRow_heap w b _ _ T _ h
theorem jE (w:World) (g k:Nat) (cs:Array Value) (h:k≠g):(w.setRow g cs).heap[k]? = w.heap[k]? := by
 unfold World.setRow;simp only [Array.getElem?_modify];rw [if_neg (fun e=>h e.symm)]
theorem size_setRow (w:World) (g:Nat) (cs:Array Value):(w.setRow g cs).heap.size=w.heap.size:=by simp [World.setRow]
theorem aa.setRow {S:Nat→Prop} {w w':World} (h:aa S w w') {g:Nat} (hp:S g∨w.heap.size≤g) (cs:Array Value):aa S w (w'.setRow g cs):=by
 refine ⟨h.os,h.tape,h.output,by rw [size_setRow];exact h.size,fun k hk hn=>?_⟩;rw [jE _ _ _ _ (by rintro rfl;rcases hp with hp | hp;exact hn hp;omega)];exact h.block k hk hn
theorem lG (z:Value) (hz:z.cells=#[z]) (n:Nat):madeCells z.cells n=(List.replicate n z).toArray:=by
 rw [hz];apply Array.ext
 ·simp [size_madeCells]
 ·intro i h1 h2;simp [madeCells,Nat.mod_one]
theorem cR {P:Program} (w:World) (t e:TypeId) (i:TypeInfo) (z:Value) (ht:P.underlying t=some (.slice e)) (hi:P.info? e=some i) (hz:i.zero=some z) (hc:z.cells=#[z]) (hs:i.size=1)
  (n:Nat) (hbytes:i.bytes*n≤281474976710656) (h63:n≤9223372036854775807) :
  (Instr.makeSlice t (.int .i64 n) (.int .i64 n)).run P w=.ok (.slice (some ⟨w.heap.size,0,none⟩) n n) (w.alloc (.cells (List.replicate n z).toArray e)):=by
 have hb':(i.bytes:Int)*(n:Int)≤281474976710656:=by
  have h:((i.bytes*n:Nat):Int)≤281474976710656:=by omega
  rwa [Int.natCast_mul] at h
 rw [run_make (P:=P) w t e i z ht hi hz .i64 .i64 n n (by omega) (Int.le_refl _) hb' (by omega)];simp only [Int.toNat_natCast,hs,Nat.mul_one];rw [lG z hc]
def Rd (w:World) (ao:Option Addr) (xs:List Value):Prop:=
 xs≠[]→∃ g o,ao=some ⟨g,o,none⟩∧g<w.heap.size∧∀ j,j<xs.length→w.cell? ⟨g,o+j,none⟩=xs[j]?
theorem Rd.nil (w:World) (ao:Option Addr):Rd w ao []:=fun h=>(h rfl).elim
theorem Rd.ae {w w':World} {ao:Option Addr} {xs:List Value} {S:Nat→Prop} (h:Rd w ao xs) (k:aa S w w') (hn:∀ a,ao=some a→a.block<w.heap.size→¬ S a.block):Rd w' ao xs:=by
 intro hx;obtain ⟨g,o,rfl,hg,hc⟩:=h hx;refine ⟨g,o,rfl,Nat.lt_of_lt_of_le hg k.size,fun j hj=>?_⟩;rw [←hc j hj];exact World.cell?_of_block (w:=w) (a:=⟨g,o+j,none⟩) (k.block g hg (hn _ rfl hg))
theorem Rd.ai {w:World} {g:Nat} {c:List Value} {T:TypeId} (h:ah w g c T) (o:Nat) (xs:List Value) (hx:(c.drop o).take xs.length=xs):Rd w (some ⟨g,o,none⟩) xs:=by
 intro _;refine ⟨g,o,rfl,h.lt,fun j hj=>?_⟩;rw [h.cell];have:((c.drop o).take xs.length)[j]? = xs[j]? := by rw [hx]
 rw [←this,List.getElem?_take,if_pos hj,List.getElem?_drop]
def ag (v:Value) (k:Nat):Prop:=v.ownBlock=some k
def Sl (w:World) (e size:Nat) (v:Value) (n:Nat) (xs:List Value):Prop:=
 xs.length=n*size∧((v=.slice none 0 0∧n=0) ∨
  ∃ g o cap cur,v=.slice (some ⟨g,o,none⟩) n cap∧ah w g cur e∧n≤cap∧cap≤maxLen∧o+cap*size≤cur.length∧(cur.drop o).take (n*size)=xs)
theorem Sl.nil (w:World) (e size:Nat):Sl w e size (.slice none 0 0) 0 []:=⟨by simp, .inl ⟨rfl,rfl⟩⟩
theorem Sl.own {w:World} {e size:Nat} {v:Value} {n:Nat} {xs:List Value} (h:Sl w e size v n xs) {k:Nat} (hk:ag v k):k<w.heap.size∧∃ cur,ah w k cur e:=by
 obtain ⟨_,⟨rfl,_⟩ | ⟨g,o,cap,cur,rfl,hb,_⟩⟩:=h
 ·simp [ag,Value.ownBlock] at hk
 ·simp [ag,Value.ownBlock] at hk;subst hk;exact ⟨hb.lt,_,hb⟩
theorem Sl.ae {w w':World} {e size:Nat} {v:Value} {n:Nat} {xs:List Value} {S:Nat→Prop} (h:Sl w e size v n xs) (k:aa S w w') (hn:∀ g,ag v g→¬ S g):Sl w' e size v n xs:=by
 refine ⟨h.1,?_⟩;rcases h.2 with h | ⟨g,o,cap,cur,rfl,hb,r⟩
 ·exact .inl h
 ·exact .inr ⟨g,o,cap,cur,rfl,k.ai hb (hn g rfl),r⟩
theorem Sl.rd {w:World} {e size:Nat} {v:Value} {n:Nat} {xs:List Value} (h:Sl w e size v n xs):∃ ao cap,v=.slice ao n cap∧Rd w ao xs∧n≤maxLen∧n≤cap:=by
 obtain ⟨hl,⟨rfl,rfl⟩ | ⟨g,o,cap,cur,rfl,hb,h1,h2,h3,h4⟩⟩:=h
 ·refine ⟨none,0,rfl,?_,Nat.zero_le _,Nat.le_refl _⟩;have:xs=[]:=by simpa using hl
  subst this;exact Rd.nil _ _
 ·exact ⟨_,cap,rfl,Rd.ai hb o xs (by rw [hl];exact h4),Nat.le_trans h1 h2,h1⟩
theorem ej (g o j:Nat):(⟨g,o,none⟩:Addr).add j=⟨g,o+j,none⟩:=by unfold Addr.add;split <;> simp_all
theorem m3 {P:Program} (w:World) (t ty e:TypeId) (i:TypeInfo) (z:Value) (size bytes:Nat) (ht:P.underlying t=some (.slice e)) (hi:P.info? e=some i) (hz:i.zero=some z)
  (hsize:i.size=size) (hby:i.bytes=bytes) (hzs:z.cells.size=size) (hsz:0<size)
  (v:Value) (n:Nat) (xs:List Value) (hs:Sl w e size v n xs)
  (a:Addr) (m c:Nat) (news:List Value) (hl:news.length=m*size) (hnews:∀ j u,news[j]? = some u→w.cell? (a.add j)=some u) (h1:∀ u ∈ news,u.oneCell'=true)
  (h63:n+m≤maxLen) (hbytes:(n+m)*bytes≤140737488355328) :
  ∃ v' w',(Builtin.append_ #[t,t] ty #[v, .slice (some a) m c]).run P w=.ok v' w'∧Sl w' e size v' (n+m) (xs ++ news)∧aa (ag v) w w'∧(∀ k,ag v' k→ag v k∨w.heap.size≤k):=by
 subst hsize;subst hby
 obtain ⟨hxl,hv⟩:=hs;have hlen:(xs ++ news).length=(n+m)*i.size:=by rw [List.length_append,hxl,hl,Nat.add_mul]
 have h63':n+m≤9223372036854775807:=by simpa [maxLen] using h63
 have grown:∀ (aV:Nat) (S:Nat→Prop),
   Sl (w.drew.alloc (.cells (xs.toArray ++ news.toArray ++ Builtin.zeroCells z.cells (grownCap w (n+m) aV e-(n+m))) e)) e i.size (.slice (some ⟨w.heap.size,0,none⟩) (n+m) (grownCap w (n+m) aV e)) (n+m) (xs ++ news) ∧
   aa S w (w.drew.alloc (.cells (xs.toArray ++ news.toArray ++ Builtin.zeroCells z.cells (grownCap w (n+m) aV e-(n+m))) e)):=by
  intro aV S;have hge:=grownCap_ge w (n+m) aV e;have hcm:grownCap w (n+m) aV e≤maxLen:=grownCap_le_maxLen w (n+m) aV e h63;refine ⟨⟨hlen, .inr ⟨w.heap.size,0,_,_,rfl,ah.newAt _ rfl rfl,hge,hcm,?_,?_⟩⟩,((aa.refl _ _).drew).alloc _⟩
  ·simp only [Array.length_toList,Array.size_append,List.size_toArray,size_zeroCells,hzs,hxl,hl,←Nat.add_mul,Nat.zero_add];apply Nat.mul_le_mul_right;omega
  ·simp only [Array.toList_append,List.append_assoc,List.drop_zero];rw [←List.append_assoc,←hlen];exact List.take_left
 rcases hv with ⟨rfl,rfl⟩ | ⟨g,o,cap,cur,rfl,hb,hnc,hcm,hoc,hx⟩
 ·have hx:xs=[]:=List.eq_nil_of_length_eq_zero (by simpa using hxl);subst hx;by_cases hm:m=0
  ·subst hm;have hn:news=[]:=List.eq_nil_of_length_eq_zero (by simpa using hl);subst hn;refine ⟨.slice none 0 0,w,?_,Sl.nil _ _ _,aa.refl _ _,fun k hk=>.inl hk⟩;simp [Builtin.append_,run_underlying ht,sizeOf,typeInfo,hi,Builtin.lenOf,Builtin.firstCells,loadCells,loadCellsFrom]
  ·have hr:=run_append_nil (P:=P) w t ty e i z ht hi hz a m c news hl hnews (by omega) (by omega) (by have hb:=hbytes;simp only [Nat.zero_add] at hb;omega);have hgr:=grown 0 (ag (.slice none 0 0));simp only [Nat.zero_add,List.nil_append,Array.empty_append] at hgr ⊢;refine ⟨_,_,hr,hgr.1,hgr.2,fun k hk=>.inr ?_⟩;simp [ag,Value.ownBlock] at hk;omega
 ·by_cases hr:n+m≤cap
  ·have hf:=run_firstCells_some (P:=P) w i.size m a m c news hl hnews;have hfit:o+n*i.size+news.length≤cur.length:=by
    have:(n+m)*i.size≤cap*i.size:=Nat.mul_le_mul_right _ hr;rw [Nat.add_mul] at this;omega
   have hst:=run_storeCells_at P g (o+n*i.size) e news 0 cur.toArray w hb (by simpa using hfit) h1;simp only [Nat.add_zero] at hst;refine ⟨.slice (some ⟨g,o,none⟩) (n+m) cap,w.setRow g (cur.take (o+n*i.size) ++ news ++ cur.drop (o+n*i.size+news.length)).toArray,?_,?_,?_,?_⟩
   ·simp [Builtin.append_,run_underlying ht,sizeOf,typeInfo,hi,Builtin.lenOf,hr,hf,ej,hst]
   ·refine ⟨hlen, .inr ⟨g,o,cap,_,rfl,ah.setRow hb _,hr,hcm,?_,?_⟩⟩
    ·simp;omega
    ·have h1:(cur.take (o+n*i.size) ++ news ++ cur.drop (o+n*i.size+news.length)).drop o=(cur.drop o).take (n*i.size) ++ news ++ cur.drop (o+n*i.size+news.length):=by
      rw [List.append_assoc,List.drop_append_of_le_length (by simp;omega),List.drop_take,←List.append_assoc];congr 3;omega
     rw [h1,hx,←hlen,List.take_append_of_le_length (by simp),List.take_length]
   ·exact (aa.refl (ag (.slice (some ⟨g,o,none⟩) n cap)) w).setRow (g:=g) (.inl rfl) _
   ·intro k hk;exact .inl hk
  ·have holds:∀ j u,xs[j]? = some u→w.cell? ((⟨g,o,none⟩:Addr).add j)=some u:=by
    intro j u hu;have:=(List.getElem?_eq_some_iff.1 hu).1;rw [ej,hb.cell,←hu,←hx,List.getElem?_take,List.getElem?_drop,if_pos (by omega)]
   have hr:=run_append_grow (P:=P) w t ty e i z ht hi hz ⟨g,o,none⟩ n cap xs hxl holds a m c news hl hnews (by omega) (by omega) (growslice_fits (by omega) hbytes);have hgr:=grown cap (ag (.slice (some ⟨g,o,none⟩) n cap));refine ⟨_,_,hr,hgr.1,hgr.2,fun k hk=>.inr ?_⟩;simp [ag,Value.ownBlock] at hk;omega
theorem cB {P:Program} {w:World} {ops:Array Oper} {rest:List Oper} {o:Oper} {a:Act} {Q:Exit→Act→World→Prop} (hgd:o.guard=none) (s x:Operand) (t:TypeId)
  (ho:o.op=.call { callee:=.builtin .append,args:=#[s,x],argTypes:=#[t,t] })
  (e:TypeId) (i:TypeInfo) (z:Value) (size bytes:Nat) (ht:P.underlying t=some (.slice e)) (hi:P.info? e=some i) (hz:i.zero=some z)
  (hsize:i.size=size) (hby:i.bytes=bytes) (hzs:z.cells.size=size) (hsz:0<size)
  (v:Value) (n:Nat) (xs:List Value) (hs:a.eval s=v) (hown:Sl w e size v n xs)
  (ad:Addr) (m c:Nat) (news:List Value) (hx:a.eval x=.slice (some ad) m c) (hl:news.length=m*size) (hnews:∀ j u,news[j]? = some u→w.cell? (ad.add j)=some u) (h1:∀ u ∈ news,u.oneCell'=true)
  (h63:n+m≤maxLen) (hbytes:(n+m)*bytes≤140737488355328)
  (h:∀ v' w',Sl w' e size v' (n+m) (xs ++ news)→aa (ag v) w w'→(∀ k,ag v' k→ag v k∨w.heap.size≤k)→wpList P ops Q rest (a.put o.dst v') w'):wpList P ops Q (o :: rest) a w:=by
 refine wpList_plain hgd fun _ hK=>?_;obtain ⟨v',w',hr,h2,h3,h4⟩:=m3 (P:=P) w t o.type e i z size bytes ht hi hz hsize hby hzs hsz v n xs hown ad m c news hl hnews h1 h63 hbytes;unfold Oper.wp execOp;simp only [ho,resolve,invoke,builtin,Sem.run_bind,Sem.run_pure,Result.andThen_ok,List.map_toArray,List.map_cons,List.map_nil,hs,hx,hr];exact hK _ _ (h v' w' h2 h3 h4)
theorem bM (w:World) (T:TypeId) (a:Array Value):∀ (j:Nat) (u:Value),a.toList[j]? = some u→(w.alloc (.cells a T)).cell? ((⟨w.heap.size,0,none⟩:Addr).add j)=some u:=by
 intro j u h;rw [ej,(ah.newAt (w:=w) (T:=T) a rfl rfl).cell,Nat.zero_add];exact h
theorem lO {P:Program} (w:World) (t ty e:TypeId) (i:TypeInfo) (size:Nat) (ht:P.underlying t=some (.slice e)) (hi:P.info? e=some i) (hsize:i.size=size)
  (g o n cap:Nat) (cur:List Value) (hb:ah w g cur e) (a:Addr) (m c:Nat) (news:List Value) (hl:news.length=m*size) (hnews:∀ j u,news[j]? = some u→w.cell? (a.add j)=some u) (h1:∀ u ∈ news,u.oneCell'=true)
  (hr:n+m≤cap) (hoc:o+cap*size≤cur.length) :
  (Builtin.append_ #[t,t] ty #[.slice (some ⟨g,o,none⟩) n cap, .slice (some a) m c]).run P w=.ok (.slice (some ⟨g,o,none⟩) (n+m) cap) (w.setRow g (cur.take (o+n*size) ++ news ++ cur.drop (o+n*size+news.length)).toArray):=by
 subst hsize;have hf:=run_firstCells_some (P:=P) w i.size m a m c news hl hnews;have hfit:o+n*i.size+news.length≤cur.length:=by
  have:(n+m)*i.size≤cap*i.size:=Nat.mul_le_mul_right _ hr;rw [Nat.add_mul] at this;omega
 have hst:=run_storeCells_at P g (o+n*i.size) e news 0 cur.toArray w hb (by simpa using hfit) h1;simp only [Nat.add_zero] at hst;simp [Builtin.append_,run_underlying ht,sizeOf,typeInfo,hi,Builtin.lenOf,hr,hf,ej,hst]
theorem iZ {P:Program} (w:World) (t ty e:TypeId) (z:Value) (ht:P.underlying t=some (.slice e)) (hz:∀ w,(zeroValue e).run P w=.ok z w) (h1:∀ u ∈ z.cells,u.oneCell'=true) (hpos:0<z.cells.size)
  (g o n cap:Nat) (cur:List Value) (hb:ah w g cur e) (hfit:o+n*z.cells.size≤cur.length) :
  ∃ zs:List Value,zs.length=n*z.cells.size∧(Builtin.clear_ #[t] ty #[.slice (some ⟨g,o,none⟩) n cap]).run P w=.ok (.tuple #[]) (w.setRow g (cur.take o ++ zs ++ cur.drop (o+zs.length)).toArray):=by
 refine ⟨(Builtin.zeroCells z.cells n).toList,by simp [size_zeroCells],?_⟩;cases n with
 | zero=>
  have hz0:(Builtin.zeroCells z.cells 0).toList=[]:=by simp [Builtin.zeroCells]
  have:w.setRow g (cur.take o ++ [] ++ cur.drop (o+0)).toArray=w:=by
   have:=setRow_self w g _ e (0,0) hb;simpa using this
  rw [hz0];simp only [List.length_nil];rw [this];simp [Builtin.clear_,run_underlying ht]
 | succ n=>
  have hlen:(Builtin.zeroCells z.cells (n+1)).toList.length=(n+1)*z.cells.size:=by simp [size_zeroCells]
  have hst:=run_storeCells_at P g o e (Builtin.zeroCells z.cells (n+1)).toList 0 cur.toArray w hb (by simp only [Nat.add_zero,hlen,List.size_toArray];exact hfit) (by
   intro v hv;simp only [Builtin.zeroCells,Array.toList_map,List.mem_map] at hv;obtain ⟨i,_,rfl⟩:=hv;apply h1;have hm:i%z.cells.size<z.cells.size:=Nat.mod_lt _ hpos;rw [getElem!_pos z.cells _ hm]
   exact Array.getElem_mem hm)
  simp only [Nat.add_zero] at hst;simp [Builtin.clear_,run_underlying ht,hz,hst]
end
section
open Go.RowKit Go.ChangeShapes Go.WideShapes Go.Deep Go.Joins
theorem Rd.pH {w:World} {a:Addr} {xs:List Value} (h:∀ j u,xs[j]? = some u→w.cell? (a.add j)=some u):Rd w (some a) xs:=by
 intro hx;have hl:0<xs.length:=by cases xs with | nil=>exact (hx rfl).elim | cons _ _=>simp
 obtain ⟨b,off,spot⟩:=a;have h0:=h 0 xs[0] (by simp [hl]);have hspot:spot=none:=by simpa [Addr.add] using World.cell?_spot h0
 subst hspot;refine ⟨b,off,rfl,World.block_lt_of_cell? _ _ h0,fun j hj=>?_⟩;have:=h j xs[j] (by simp [hj]);rw [ej] at this;rw [this];simp [hj]
theorem cP {n:Int} (h:(Lit.int .i64 n).wf=true):-9223372036854775808≤n∧n≤9223372036854775807:=by
 simp [Lit.wf,IntKind.min,IntKind.max,IntKind.bits,IntKind.signed] at h;omega
section
variable {H:Type} {enc:TypeId × Value→H} {P:Program} {w:World} {base:Nat} {spare:Nat→Bool} {held:Bool}
def qy (c:Value):Prop:=∃ n:Int,c=.int .i64 n∧-9223372036854775808≤n∧n≤9223372036854775807
def Flat (enc:TypeId × Value→H) (P:Program) (w:World) (base:Nat) (spare:Nat→Bool) (held:Bool) (e:TypeId):Prop:=
 ∀ fuel cs x,DataW.trod enc P w base spare held fuel e cs=some x→cs.length=P.cellsOf e∧∀ c ∈ cs,qy c
theorem bI {e:TypeId} (he:P.underlying e=some (.int .i64)) (hC:P.cellsOf e=1):Flat enc P w base spare held e:=by
 intro fuel cs x h;obtain ⟨n,rfl,_,hn⟩:=DataW.trod_int he h;refine ⟨by simp [hC],?_⟩;intro c hc;simp at hc;subst hc;exact ⟨n,rfl,cP hn⟩
def rN (P:Program) (e:TypeId) (fs:Array Field):Bool:=
 (List.range (P.cellsOf e)).all fun j=>fs.toList.any fun f=>decide (f.offset≤j) && decide (j<f.offset+P.cellsOf f.type)
theorem hY {e:TypeId} {fs:Array Field} (he:P.underlying e=some (.struct fs)) (hcov:rN P e fs=true)
  (hf:∀ (i:Nat) (f:Field),fs[i]? = some f→Flat enc P w base spare held f.type):Flat enc P w base spare held e:=by
 intro fuel cs x h;obtain ⟨ys,n,_,hy,hlen,hyl,hg⟩:=DataW.trod_struct he h;refine ⟨hlen,?_⟩;intro c hc;obtain ⟨j,hj,rfl⟩:=List.getElem_of_mem hc;have hcj:=List.all_eq_true.1 hcov j (List.mem_range.2 (by omega));obtain ⟨f,hfm,hfj⟩:=List.any_eq_true.1 hcj;simp only [Bool.and_eq_true,decide_eq_true_eq] at hfj;obtain ⟨i,hi,hif⟩:=List.getElem_of_mem hfm;have hfi:fs[i]? = some f:=by
  rw [←Array.getElem?_toList,Le hi,hif]
 have h1:=hg i f hfi;have hys:ys[i]? = some (ys[i]'(by rw [hyl];simpa using hi)):=Le _;rw [hys] at h1;have h2:=(hf i f hfi n _ _ h1).2;refine h2 _ ?_;rw [List.mem_iff_getElem?];refine ⟨j-f.offset,?_⟩;rw [List.getElem?_take,if_pos (by omega),List.getElem?_drop,show f.offset+(j-f.offset)=j by omega];simp [hj]
theorem sJ {t e:TypeId} {k:Nat} (ht:P.underlying t=some (.array k e)) (hC:P.cellsOf t=k*P.cellsOf e) (he:Flat enc P w base spare held e):Flat enc P w base spare held t:=by
 intro fuel cs x h;obtain ⟨ys,n,_,hy,hlen,hyl,hg⟩:=DataW.trod_array ht h;refine ⟨hlen,?_⟩;intro c hc;obtain ⟨j,hj,rfl⟩:=List.getElem_of_mem hc;rw [hlen,hC] at hj;have hpos:0<P.cellsOf e:=by
  apply Nat.pos_of_ne_zero;intro h0;rw [h0] at hj;simp at hj
 have hi:j/P.cellsOf e<k:=Nat.div_lt_of_lt_mul (by rwa [Nat.mul_comm] at hj);have h1:=hg _ hi;have hys:ys[j/P.cellsOf e]? = some (ys[j/P.cellsOf e]'(by omega)):=Le _;rw [hys] at h1;have h2:=(he n _ _ h1).2;refine h2 _ ?_;rw [List.mem_iff_getElem?];refine ⟨j%P.cellsOf e,?_⟩;rw [List.getElem?_take,if_pos (Nat.mod_lt _ hpos),List.getElem?_drop,Nat.mul_comm,Nat.div_add_mod];simp
theorem lP {r:Reach} {b0:Nat} {t e:TypeId} {C:Nat} {v:Value} {d:DataW H} {p:List MemPlace} (ht:P.underlying t=some (.slice e)) (hC:P.cellsOf e=C) (hpos:0<C) (he:Flat enc P w base spare held e)
  (hv:Value.okWide P w r b0 t v) (h:DataW.Trod enc P w base spare held t v d p) :
  ∃ (ao:Option Addr) (cap n:Nat) (xs:List Value),v=.slice ao n cap∧xs.length=n*C∧Rd w ao xs∧n≤maxLen∧∀ c ∈ xs,qy c:=by
 obtain ⟨a0,len0,cap0,rfl⟩:=okWide_slice ht hv;obtain ⟨fuel,hf⟩:=h;rcases open_slice ht hf with ⟨hcs,_⟩ | ⟨a,l,c,m,n,D,Pl,hcs,_,hl,hm,hmm,_,hi⟩
 ·simp [Value.cells] at hcs;obtain ⟨rfl,rfl,rfl⟩:=hcs;exact ⟨none,0,0,[],rfl,by simp,Rd.nil _ _,Nat.zero_le _,by simp⟩
 ·simp [Value.cells] at hcs;obtain ⟨rfl,rfl,rfl⟩:=hcs;have hle:len0≤m:=by rw [hmm];split <;> omega
  have key:∀ j,j<len0*C→∃ u,w.cell? (a.add j)=some u∧qy u:=by
   intro j hj;have hi':j/C<len0:=Nat.div_lt_of_lt_mul (by rwa [Nat.mul_comm] at hj);obtain ⟨cs',h1,h2⟩:=hi (j/C) (by omega);obtain ⟨hlen,hall⟩:=he _ _ _ h2;obtain ⟨_,hcl,hat⟩:=World.cells?_some h1;have hr:j%C<cs'.length:=by rw [hlen,hC];exact Nat.mod_lt _ hpos
   have:=hat (j%C) (by rw [hC];exact Nat.mod_lt _ hpos);rw [Go.Deep.add_add,hC,Nat.mul_comm,Nat.div_add_mod,Le hr] at this;exact ⟨_,this,hall _ (List.getElem_mem hr)⟩
  refine ⟨some a,cap0,len0,(List.range (len0*C)).map fun j=>(w.cell? (a.add j)).getD undef,rfl,by simp,?_,Nat.le_trans hl hm,?_⟩
  ·refine Rd.pH ?_;intro j u hu;simp only [List.getElem?_map,Option.map_eq_some_iff] at hu;obtain ⟨j',hj',rfl⟩:=hu;have hjl:=(List.getElem?_eq_some_iff.1 hj').1;have:j=j':=by
    rw [Le hjl] at hj';simpa using hj'
   subst this;obtain ⟨u,hu,_⟩:=key j (by simpa using hjl);rw [hu];rfl
  ·intro c hc;simp only [List.mem_map,List.mem_range] at hc;obtain ⟨j,hj,rfl⟩:=hc;obtain ⟨u,hu,h64⟩:=key j hj;rw [hu];exact h64
theorem jM:∀ {xs:List Value},(∀ c ∈ xs,qy c)→∃ l:List Int,xs=l.map (Value.int .i64)∧∀ x ∈ l,-9223372036854775808≤x∧x≤9223372036854775807
 | [],_=>⟨[],rfl,by simp⟩
 | c :: xs,h=>by
  obtain ⟨n,rfl,hn⟩:=h c (by simp);obtain ⟨l,rfl,hl⟩:=jM (xs:=xs) (fun c hc=>h c (List.mem_cons_of_mem _ hc));exact ⟨n :: l,rfl,by intro x hx;rcases List.mem_cons.1 hx with rfl | hx;exact hn;exact hl x hx⟩
theorem te {r:Reach} {b0:Nat} {t e:TypeId} {v:Value} {d:DataW H} {p:List MemPlace} (ht:P.underlying t=some (.slice e)) (he:P.underlying e=some (.int .i64)) (hC:P.cellsOf e=1)
  (hv:Value.okWide P w r b0 t v) (h:DataW.Trod enc P w base spare held t v d p) :
  ∃ (ao:Option Addr) (cap:Nat) (l:List Int),v=.slice ao l.length cap∧Rd w ao (l.map (Value.int .i64))∧l.length≤maxLen∧∀ x ∈ l,-9223372036854775808≤x∧x≤9223372036854775807:=by
 obtain ⟨ao,cap,n,xs,rfl,hl,hr,hm,h64⟩:=lP ht hC (by omega) (bI he hC) hv h;obtain ⟨l,rfl,hb⟩:=jM h64;simp at hl;subst hl;exact ⟨ao,cap,l,rfl,hr,hm,hb⟩
theorem tg {r:Reach} {b0:Nat} {t:TypeId} {f0 f1:Field} {v:Value} {d:DataW H} {p:List MemPlace} (hs:P.underlying t=some (.struct #[f0,f1])) (hone:oneCellFields P #[f0,f1]=true) (hC:P.cellsOf t=2)
  (h0:P.underlying f0.type=some (.int .i64)) (h1:P.underlying f1.type=some (.int .i64))
  (hv:Value.okWide P w r b0 t v) (h:DataW.Trod enc P w base spare held t v d p) :
  ∃ a:Int × Int,v=.agg #[.int .i64 a.1, .int .i64 a.2]∧(-9223372036854775808≤a.1∧a.1≤9223372036854775807)∧-9223372036854775808≤a.2∧a.2≤9223372036854775807:=by
 obtain ⟨c0,c1,y0,y1,m,rfl,_,_,hy0,hy1⟩:=open_agg2 hs hone hC hv h;obtain ⟨a,ea,_,wa⟩:=DataW.trod_int h0 hy0;obtain ⟨b,eb,_,wb⟩:=DataW.trod_int h1 hy1;simp at ea eb;subst ea;subst eb;exact ⟨(a,b),rfl,cP wa,cP wb⟩
end
end
section
open Go.RowKit Go.ChangeShapes Go.WideShapes Go.ChangeAt Go.Joins
section
variable {H:Type} {enc:TypeId × Value→H} {P:Program} {w:World} {base:Nat} {spare:Nat→Bool} {held:Bool}
theorem jN {r:Reach} {b0:Nat} {t e:TypeId} {C:Nat} {v:Value} {d:DataW H} {p:List MemPlace} (ht:P.underlying t=some (.slice e)) (hC:P.cellsOf e=C) (hpos:0<C) (he:Flat enc P w base spare held e)
  (hv:Value.okWide P w r b0 t v) (h:DataW.Trod enc P w base spare held t v d p) :
  ∃ (ao:Option Addr) (cap m:Nat) (l:List Int),v=.slice ao m cap∧Rd w ao (l.map (Value.int .i64))∧l.length=m*C∧m≤maxLen∧∀ x ∈ l,-9223372036854775808≤x∧x≤9223372036854775807:=by
 obtain ⟨ao,cap,n,xs,rfl,hl,hr,hm,h64⟩:=lP ht hC hpos he hv h;obtain ⟨l,rfl,hb⟩:=jM h64;exact ⟨ao,cap,n,l,rfl,hr,by simpa using hl,hm,hb⟩
theorem tj {r:Reach} {b n c:Nat} {t e:TypeId} {a:Addr} (ht:P.underlying t=some (.slice e)) (hv:Value.okWide P w r b t (.slice (some a) n c)):a.block<w.heap.size:=by
 simp only [Value.okWide,ht,Cell.okWide,Cell.ok] at hv;obtain ⟨_,_,_,_,row,cells,hs,_⟩:=hv;unfold World.shape? at hs;cases hb:w.heap[a.block]? with
 | none=>rw [hb] at hs;simp at hs
 | some o=>exact (Array.getElem?_eq_some_iff.1 hb).1
end
end
section
open Go.RowKit
section
variable {P:Program} {ops:Array Oper} {md:Region.Mode} {G:World→Prop}
def gUpon (P:Program) (o:Oper) (a:Act) (K:Act→World→Prop):Result Next→Prop
 | .ok (.value v) w'=>K (a.put o.dst v) w'
 | .ok .skip w'=>K (a.put o.dst undef) w'
 | .ok (.enter f args) w'=>Calls P f args w' fun
   | .returned v,w''=>K (a.put o.dst v) w''
   | _,_=>False
 | _=>False
def aM (P:Program) (o:Oper) (a:Act) (w:World) (K:Act→World→Prop):Prop:=gUpon P o a K ((execOp a.eval o).run P w)
def gOp (P:Program) (ops:Array Oper) (i:Nat) (K:Act→World→Prop) (a:Act) (w:World):Prop:=
 match ops[i]? with
 | none=>K a w
 | some o=>if Region.wanted o (yielded ops a.tmps)=true then aM P o a w K else K (a.put o.dst undef) w
theorem ov {o:Oper} {a:Act} {w:World} {K K':Act→World→Prop} (h:∀ a w,K a w→K' a w) (hh:aM P o a w K):aM P o a w K':=by
 unfold aM at *;generalize (execOp a.eval o).run P w=r at *;cases r with
 | ok n w'=>
  cases n <;> simp only [gUpon] at hh ⊢
  case value u=>exact h _ _ hh
  case skip=>exact h _ _ hh
  case enter f args=>exact hh.mono fun e w'' hq=>by cases e <;> first | exact h _ _ hq | exact hq
 | halt x w'=>exact hh
theorem dN {i:Nat} {a:Act} {w:World} {K K':Act→World→Prop} (h:∀ a w,K a w→K' a w) (hh:gOp P ops i K a w):gOp P ops i K' a w:=by
 unfold gOp at *;split
 ·rename_i ho;simp only [ho] at hh;exact h _ _ hh
 ·rename_i o ho;simp only [ho] at hh;split
  ·rename_i hw;rw [if_pos hw] at hh;exact ov h hh
  ·rename_i hw;rw [if_neg hw] at hh;exact h _ _ hh
theorem jF {i:Nat} {a:Act} {w:World} {K:Act→World→Prop} {Q':Exit→Act→World→Prop} (hh:gOp P ops i K a w):wpOp P ops Q' i K a w:=by
 unfold gOp at hh;unfold wpOp;split
 ·rename_i ho;simp only [ho] at hh;exact hh
 ·rename_i o ho;simp only [ho] at hh;split
  ·rename_i hw;rw [if_pos hw] at hh;left;unfold aM at hh;unfold Oper.wp;generalize (execOp a.eval o).run P w=r at *;cases r with
   | ok n w'=>
    cases n <;> simp only [gUpon] at hh <;> simp only [Oper.upon]
    case value u=>exact hh
    case skip=>exact hh
    case enter f args=>exact hh.mono fun e w'' hq=>by cases e <;> first | exact hq | exact hq.elim
   | halt x w'=>exact hh.elim
  ·rename_i hw;rw [if_neg hw] at hh;exact hh
def waitsT (md:Region.Mode) (ops:Array Oper):Nat→Nat→Nat→Bool
 | 0,_,_=>false
 | n+1,j,i=>match ops[j]? with
  | none=>false
  | some o=>o.after.any fun e=>Region.binds md e && (e.on == i || waitsT md ops n e.on i)
def gI (md:Region.Mode) (ops:Array Oper) (listed:Array Bool):Prop:=
 ∀ (j:Nat) (o:Oper),ops[j]? = some o→listed.getD j false=true→∀ e ∈ o.after,Region.binds md e=true→listed.getD e.on false=true
theorem gI.waits {listed:Array Bool} (h:gI md ops listed):∀ (n j i:Nat),(∃ o,ops[j]? = some o∧∀ e ∈ o.after,Region.binds md e=true→listed.getD e.on false=true)→waitsT md ops n j i=true→listed.getD i false=true
 | 0,_,_,_,hw=>by simp [waitsT] at hw
 | n+1,j,i,⟨o,ho,hall⟩,hw=>by
  simp only [waitsT,ho,Array.any_eq_true] at hw;obtain ⟨k,hk,hb⟩:=hw;simp only [Bool.and_eq_true,Bool.or_eq_true,beq_iff_eq] at hb;have he:=hall _ (Array.getElem_mem hk) hb.1;rcases hb.2 with e | e
  ·rw [←e];exact he
  ·refine h.waits n _ i ?_ e;cases hx:ops[(o.after[k]).on]? with
   | none=>exfalso;cases n <;> simp [waitsT,hx] at e
   | some ox=>exact ⟨ox,rfl,h _ ox hx he⟩
theorem gI.next {listed:Array Bool} (h:gI md ops listed) {i:Nat} (hi:i ∈ Region.ready md ops listed):gI md ops (listed.setIfInBounds i true):=by
 intro j o ho hl e he hb;by_cases hji:j=i
 ·subst hji;obtain ⟨_,o',ho',hall⟩:=mem_ready.1 hi;rw [ho] at ho';cases ho';exact getD_set_true (hall e he hb)
 ·rw [getD_set_ne false (Ne.symm hji)] at hl;exact getD_set_true (h j o ho hl e he hb)
def i1 (P:Program) (md:Region.Mode) (ops:Array Oper) (z:List Nat) (G:World→Prop) (Q:Act→World→Prop):Nat→Array Bool→Act→World→Prop
 | 0,listed,a,w=>Region.ready md ops listed=[]∧Q a w
 | f+1,listed,a,w=>
  (Region.ready md ops listed=[]→Q a w) ∧
  ∀ i ∈ Region.ready md ops listed,gOp P ops i (fun a' w'=>(z.contains i=false→G w')∧i1 P md ops z G Q f (listed.setIfInBounds i true) a' w') a w
theorem j8 {z:List Nat} {Q:Act→World→Prop} {Q':Exit→Act→World→Prop} (hQ:∀ a w,Q a w→Q' .normal a w):∀ (f:Nat) (listed:Array Bool) (a:Act) (w:World),
  i1 P md ops z G Q f listed a w→wpAny P md ops Q' f listed a w
 | 0,_,_,_,h=>⟨h.1,hQ _ _ h.2⟩
 | f+1,_,_,_,h=>⟨fun h0=>hQ _ _ (h.1 h0),fun i hi=>jF (dN (fun a w ⟨_,hk⟩=>j8 hQ f _ a w hk) (h.2 i hi))⟩
def bA (v:Value) (w:World) (r:Result Next):Prop:=r=.ok (.value v) w
theorem bA.mk (v:Value) (w:World):bA v w (.ok (.value v) w):=rfl
def dm (P:Program) (ops:Array Oper) (G:World→Prop) (o:Oper) (v:Value) (a:Act):Prop:=
 (Region.wanted o (yielded ops a.tmps)=true∧∀ w,G w→bA v w ((execOp a.eval o).run P w))∨(Region.wanted o (yielded ops a.tmps)=false∧v=undef)
theorem dm.gOp {i:Nat} {o:Oper} {v:Value} {a:Act} {w:World} (hi:ops[i]? = some o) (hy:dm P ops G o v a) (hw:G w) {K:Act→World→Prop} (h:K (a.put o.dst v) w):gOp P ops i K a w:=by
 unfold Go.Proofs.Ytjifdalflepcoab.gOp;simp only [hi];rcases hy with ⟨hwt,hv⟩ | ⟨hwt,rfl⟩
 ·rw [if_pos hwt];unfold aM;rw [show (execOp a.eval o).run P w=_ from hv w hw];exact h
 ·rw [if_neg (by simp [hwt])];exact h
theorem m4 {j:Nat} {oi oj:Oper} {v:Value} (hj:ops[j]? = some oj) (hap:oi.apart ops oj=true)
  (hsi:∀ cs b,oi.op≠.select cs b) (hsj:∀ cs b,oj.op≠.select cs b) {K:Act→World→Prop} {a:Act} {w:World}
  (hy:dm P ops G oi v a) (h:gOp P ops j K (a.put oi.dst v) w) :
  gOp P ops j (fun a' w'=>dm P ops G oi v a'∧K (a'.put oi.dst v) w') a w:=by
 obtain ⟨h1,h2,h3⟩:=Oper.apart_spec hap;have ae:∀ u,dm P ops G oi v (a.put oj.dst u):=fun u=>by
  unfold dm at *;rw [execOp_put oi hsi a oj.dst u h3,wanted_put oi a oj.dst u h3];exact hy
 have com:∀ u,(a.put oi.dst v).put oj.dst u=(a.put oj.dst u).put oi.dst v:=fun u=>Act.put_comm a v u h2;unfold gOp at *;simp only [hj] at *;rw [wanted_put oj a oi.dst v h1] at h;split
 ·rename_i hw;rw [if_pos hw] at h;unfold aM at *;rw [execOp_put oj hsj a oi.dst v h1] at h;generalize (execOp a.eval oj).run P w=r at *;cases r with
  | ok n w'=>
   cases n <;> simp only [gUpon] at h ⊢
   case value u=>exact ⟨ae u,by rw [←com];exact h⟩
   case skip=>exact ⟨ae undef,by rw [←com];exact h⟩
   case enter f args=>
    refine h.mono fun e w'' hq=>?_;cases e with
    | returned u=>exact ⟨ae u,by rw [←com];exact hq⟩
    | panicked _=>exact hq
    | outgrown=>exact hq
  | halt x w'=>exact h
 ·rename_i hw;rw [if_neg hw] at h;exact ⟨ae undef,by rw [←com];exact h⟩
theorem lQ {z:List Nat} {Q:Act→World→Prop} {i:Nat} {oi:Oper} {v:Value} (hi:ops[i]? = some oi) (hsel:∀ (j:Nat) (o:Oper) cs b,ops[j]? = some o→o.op≠.select cs b)
  (hz:∀ j,z.contains j=true→waitsT md ops ops.size j i=true) :
  ∀ (fuel:Nat) (listed:Array Bool) (a:Act) (w:World),G w→gI md ops listed →
   (∀ j oj,ops[j]? = some oj→j≠i→listed.getD j true=false→(∀ e ∈ oj.after,Region.binds md e=true→e.on≠i)→oi.apart ops oj=true) →
   i ∈ Region.ready md ops listed→dm P ops G oi v a →
   i1 P md ops z G Q fuel (listed.setIfInBounds i true) (a.put oi.dst v) w→i1 P md ops z G Q (fuel+1) listed a w:=by
 intro fuel
 induction fuel with
 | zero=>
  intro listed a w hG hS _ hr hy H;refine ⟨fun h=>(by rw [h] at hr;cases hr),fun j hj=>?_⟩;by_cases hji:j=i
  ·subst hji;exact hy.gOp hi hG ⟨fun _=>hG,H⟩
  ·have:=ready_mono hj hji;rw [H.1] at this;cases this
 | succ fuel ih=>
  intro listed a w hG hS hfree hr hy H;refine ⟨fun h=>(by rw [h] at hr;cases hr),fun j hj=>?_⟩;by_cases hji:j=i
  ·subst hji;exact hy.gOp hi hG ⟨fun _=>hG,H⟩
  ·have h1:=H.2 j (ready_mono hj hji);obtain ⟨hjun,oj,hoj,hall⟩:=mem_ready.1 hj;have hin:listed.getD i false=false:=by
    have h0:=(mem_ready.1 hr).1;rcases Nat.lt_or_ge i listed.size with h' | h'
    ·simp [h'] at h0 ⊢;exact h0
    ·simp [Array.getElem?_eq_none h'] at h0
   have hjz:z.contains j=false:=by
    cases hc:z.contains j
    ·rfl
    ·have:=hS.waits _ j i ⟨oj,hoj,hall⟩ (hz j hc);rw [hin] at this;cases this
   have hnot:∀ e ∈ oj.after,Region.binds md e=true→e.on≠i:=fun e he hb heq=>by
    have h1:=hall e he hb;rw [heq,hin] at h1;cases h1
   have h2:=m4 hoj (hfree j oj hoj hji hjun hnot) (fun cs b=>hsel i oi cs b hi) (fun cs b=>hsel j oj cs b hoj) hy h1;have hfree':∀ k ok,ops[k]? = some ok→k≠i→(listed.setIfInBounds j true).getD k true=false →
     (∀ e ∈ ok.after,Region.binds md e=true→e.on≠i)→oi.apart ops ok=true:=fun k ok hk hki hun hno=>by
    refine hfree k ok hk hki ?_ hno;by_cases hjk:j=k
    ·subst hjk;exact hjun
    ·rw [getD_set_ne true hjk] at hun;exact hun
   refine dN (fun a' w' ⟨hy',hG',h3⟩=>?_) h2;refine ⟨fun _=>hG' hjz,ih (listed.setIfInBounds j true) a' w' (hG' hjz) (hS.next hj) hfree' (ready_mono hr (Ne.symm hji)) hy' ?_⟩;rw [Array.setIfInBounds_comm _ _ hji];exact h3
def lR (ord:List (Nat × Nat)):List Nat:=(ord.filter fun p=>p.2 == 2).map (·.1)
def ordB (md:Region.Mode) (ops:Array Oper) (z:List Nat):List (Nat × Nat)→Array Bool→Bool
 | [],listed=>(Region.ready md ops listed).isEmpty
 | (i,k) :: r,listed=>
  (if k=0 then (Region.ready md ops listed).contains i && Region.free md ops listed i && z.all fun j=>waitsT md ops ops.size j i
  else Region.ready md ops listed == [i] && (k == 1 || z.contains i && r.all fun p=>p.2 != 0)) && ordB md ops z r (listed.setIfInBounds i true)
def fg (P:Program) (ops:Array Oper) (z:List Nat) (G:World→Prop) (Q:Act→World→Prop):List (Nat × Nat)→Act→World→Prop
 | [],a,w=>Q a w
 | (i,0) :: r,a,w=>∃ o v,ops[i]? = some o∧dm P ops G o v a∧fg P ops z G Q r (a.put o.dst v) w
 | (i,k+1) :: r,a,w=>gOp P ops i (fun a' w'=>(k=0→G w')∧fg P ops z G Q r a' w') a w
theorem gu {z:List Nat} {Q:Act→World→Prop} (hs:Region.noSelect ops=true):∀ (ord:List (Nat × Nat)) (listed:Array Bool) (a:Act) (w:World),gI md ops listed→(G w∨∀ p ∈ ord,p.2≠0) →
  ordB md ops z ord listed=true→fg P ops z G Q ord a w→i1 P md ops z G Q ord.length listed a w
 | [],_,_,_,_,_,hB,h=>⟨by simpa [ordB] using hB,h⟩
 | (i,0) :: r,listed,a,w,hS,hG,hB,h=>by
  have hG:G w:=by
   rcases hG with h | h
   ·exact h
   ·exact absurd rfl (h (i,0) (by simp))
  simp only [ordB,if_true,Bool.and_eq_true] at hB;obtain ⟨⟨⟨hr,hf⟩,hz⟩,hB'⟩:=hB;obtain ⟨o,v,ho,hy,hn⟩:=h;have hr':i ∈ Region.ready md ops listed:=by simpa using hr
  refine lQ ho (Region.noSelect_spec hs) (fun j hj=>?_) r.length listed a w hG hS (Region.free_spec ho hf) hr' hy ?_
  ·have:=List.all_eq_true.1 hz j (by simpa using hj);exact this
  ·exact gu hs r _ _ w (hS.next hr') (.inl hG) hB' hn
 | (i,k+1) :: r,listed,a,w,hS,hG,hB,h=>by
  have h0:¬ (k+1=0):=by omega
  simp only [ordB,if_neg h0,Bool.and_eq_true] at hB;obtain ⟨⟨hr,hk⟩,hB'⟩:=hB;have hr1:Region.ready md ops listed=[i]:=by simpa using hr
  have hin:i ∈ Region.ready md ops listed:=by rw [hr1];simp
  refine ⟨(fun h0=>by rw [hr1] at h0;cases h0),fun j hj=>?_⟩;rw [hr1] at hj;obtain rfl:j=i:=by simpa using hj
  refine dN (fun a' w' ⟨hG',hn⟩=>?_) h;by_cases hk0:k=0
  ·exact ⟨fun _=>hG' hk0,gu hs r _ a' w' (hS.next hin) (.inl (hG' hk0)) hB' hn⟩
  ·have hk1:(k+1 == 1)=false:=by simpa using hk0
   simp only [hk1,Bool.false_or,Bool.and_eq_true] at hk;refine ⟨(fun hz=>by rw [hk.1] at hz;cases hz),gu hs r _ a' w' (hS.next hin) (.inr fun p hp=>?_) hB' hn⟩;have:=List.all_eq_true.1 hk.2 p hp;simpa using this
theorem cI {id:Nat} {Q:Exit→Act→World→Prop} {a:Act} {w:World} {l:List Oper} (ord:List (Nat × Nat)) (G:World→Prop) (hm:P.follows .mixedOrders=true)
  (hB:(Region.noSelect l.toArray && ord.length == l.toArray.size && ordB .any l.toArray (lR ord) ord (Array.replicate l.toArray.size false))=true) (hG:G w.drew)
  (h:fg P l.toArray (lR ord) G (fun a' w'=>Q .normal a' w') ord a w.drew):(Code.region id l.toArray true).wp P Q a w:=by
 simp only [Bool.and_eq_true,beq_iff_eq] at hB;obtain ⟨⟨hs,hl⟩,hB⟩:=hB;refine wp_region_any hm ?_;have hshut:gI .any l.toArray (Array.replicate l.toArray.size false):=by
  intro j o ho hx;have h0:(Array.replicate l.toArray.size false).getD j false=false:=by
   rw [Array.getD_eq_getD_getElem?,Array.getElem?_replicate];split <;> rfl
  rw [h0] at hx;cases hx
 have:=gu (z:=lR ord) (md:=.any) hs ord _ a w.drew hshut (.inl hG) hB h;rw [hl] at this;exact j8 (fun _ _ h=>h) _ _ _ _ this
theorem bj {z:List Nat} {Q:Act→World→Prop} {i:Nat} {r:List (Nat × Nat)} {a:Act} {w:World} {o:Oper} (ho:ops[i]? = some o) (hw:Region.wanted o (yielded ops a.tmps)=true) (v:Value)
  (h:∀ w',G w'→bA v w' ((execOp a.eval o).run P w')) (hn:∀ K:Act→Prop,(∀ a',fg P ops z G Q r a' w→K a')→K (a.put o.dst v)):fg P ops z G Q ((i,0) :: r) a w:=
 ⟨o,v,ho, .inl ⟨hw,h⟩,hn _ (fun _ h=>h)⟩
theorem bF {z:List Nat} {Q:Act→World→Prop} {i:Nat} {r:List (Nat × Nat)} {a:Act} {w:World} {o:Oper} (ho:ops[i]? = some o) (hw:Region.wanted o (yielded ops a.tmps)=true)
  (h:∀ K:Act→World→Prop,(∀ a' w',G w'→fg P ops z G Q r a' w'→K a' w')→aM P o a w K):fg P ops z G Q ((i,1) :: r) a w:=by
 show gOp P ops i _ a w
 unfold gOp;simp only [ho,hw,if_true];exact h _ (fun a' w' hg hk=>⟨fun _=>hg,hk⟩)
theorem j9 {z:List Nat} {Q:Act→World→Prop} {i:Nat} {r:List (Nat × Nat)} {a:Act} {w:World} {o:Oper} (ho:ops[i]? = some o) (hw:Region.wanted o (yielded ops a.tmps)=true)
  (h:∀ K:Act→World→Prop,(∀ a' w',fg P ops z G Q r a' w'→K a' w')→aM P o a w K):fg P ops z G Q ((i,2) :: r) a w:=by
 show gOp P ops i _ a w
 unfold gOp;simp only [ho,hw,if_true];exact h _ (fun a' w' hk=>⟨(fun h=>by cases h),hk⟩)
theorem dI {z:List Nat} {Q:Act→World→Prop} {a:Act} {w:World} (h:Q a w):fg P ops z G Q [] a w:=h
theorem de {w:World} {o:Oper} {a:Act} {K:Act→World→Prop} (s x:Operand) (t:TypeId)
  (ho:o.op=.call { callee:=.builtin .append,args:=#[s,x],argTypes:=#[t,t] })
  (e:TypeId) (i:TypeInfo) (z:Value) (size bytes:Nat) (ht:P.underlying t=some (.slice e)) (hi:P.info? e=some i) (hz:i.zero=some z)
  (hsize:i.size=size) (hby:i.bytes=bytes) (hzs:z.cells.size=size) (hsz:0<size)
  (v:Value) (n:Nat) (xs:List Value) (hs:a.eval s=v) (hown:Sl w e size v n xs)
  (ad:Addr) (m c:Nat) (news:List Value) (hx:a.eval x=.slice (some ad) m c) (hl:news.length=m*size) (hnews:∀ j u,news[j]? = some u→w.cell? (ad.add j)=some u) (h1:∀ u ∈ news,u.oneCell'=true)
  (h63:n+m≤maxLen) (hbytes:(n+m)*bytes≤140737488355328)
  (h:∀ v' w',Sl w' e size v' (n+m) (xs ++ news)→aa (ag v) w w'→(∀ k,ag v' k→ag v k∨w.heap.size≤k)→K (a.put o.dst v') w'):aM P o a w K:=by
 obtain ⟨v',w',hr,h2,h3,h4⟩:=m3 (P:=P) w t o.type e i z size bytes ht hi hz hsize hby hzs hsz v n xs hown ad m c news hl hnews h1 h63 hbytes;unfold aM execOp;simp only [ho,resolve,invoke,builtin,Sem.run_bind,Sem.run_pure,Result.andThen_ok,List.map_toArray,List.map_cons,List.map_nil,hs,hx,hr];exact h v' w' h2 h3 h4
theorem iX {w:World} {o:Oper} {a:Act} {K:Act→World→Prop} (s x:Operand) (t:TypeId)
  (ho:o.op=.call { callee:=.builtin .append,args:=#[s,x],argTypes:=#[t,t] })
  (e:TypeId) (i:TypeInfo) (size:Nat) (ht:P.underlying t=some (.slice e)) (hi:P.info? e=some i) (hsize:i.size=size)
  (g off n cap:Nat) (cur:List Value) (hs:a.eval s=.slice (some ⟨g,off,none⟩) n cap) (hb:ah w g cur e)
  (ad:Addr) (m c:Nat) (news:List Value) (hx:a.eval x=.slice (some ad) m c) (hl:news.length=m*size) (hnews:∀ j u,news[j]? = some u→w.cell? (ad.add j)=some u) (h1:∀ u ∈ news,u.oneCell'=true)
  (hr:n+m≤cap) (hoc:off+cap*size≤cur.length)
  (h:K (a.put o.dst (.slice (some ⟨g,off,none⟩) (n+m) cap)) (w.setRow g (cur.take (off+n*size) ++ news ++ cur.drop (off+n*size+news.length)).toArray)):aM P o a w K:=by
 have hr:=lO (P:=P) w t o.type e i size ht hi hsize g off n cap cur hb ad m c news hl hnews h1 hr hoc;unfold aM execOp;simp only [ho,resolve,invoke,builtin,Sem.run_bind,Sem.run_pure,Result.andThen_ok,List.map_toArray,List.map_cons,List.map_nil,hs,hx,hr];exact h
end
end
section
open Go.RowKit
inductive RO where
 | fin
 | pure (i:Nat) (r:RO)
 | free (i:Nat) (r:RO)
 | base (i:Nat) (r:RO)
 | run (i:Nat) (r:RO)
 | two (i:Nat) (r:RO) (j:Nat) (s:RO)
 | swi (z:List Nat) (r:RO)
namespace RO
def size:RO→Nat
 | fin=>0
 | pure _ r=>r.size+1
 | free _ r=>r.size+1
 | base _ r=>r.size+1
 | run _ r=>r.size+1
 | two _ r _ _=>r.size+1
 | swi _ r=>r.size
def dQ:RO→Bool
 | fin=>true
 | pure _ _=>false
 | free _ r=>r.dQ
 | base _ r=>r.dQ
 | run _ r=>r.dQ
 | two _ r _ s=>r.dQ && s.dQ
 | swi _ _=>true
end RO
section
variable {P:Program} {ops:Array Oper} {md:Region.Mode}
def roB (md:Region.Mode) (ops:Array Oper):RO→List Nat→Array Bool→Bool
 | .fin,_,listed=>(Region.ready md ops listed).isEmpty
 | .pure i r,z,listed=>(Region.ready md ops listed).contains i && Region.free md ops listed i && (z.all fun j=>waitsT md ops ops.size j i) && roB md ops r z (listed.setIfInBounds i true)
 | .free i r,z,listed=>(Region.ready md ops listed).contains i && Region.free md ops listed i && roB md ops r z (listed.setIfInBounds i true)
 | .base i r,z,listed=>(Region.ready md ops listed).contains i && Region.free md ops listed i && roB md ops r z (listed.setIfInBounds i true)
 | .run i r,z,listed=>Region.ready md ops listed == [i] && (!z.contains i || r.dQ) && roB md ops r z (listed.setIfInBounds i true)
 | .two i r j s,z,listed=>Region.ready md ops listed == [i,j] && (!z.contains i || r.dQ) && (!z.contains j || s.dQ) && r.size == s.size && roB md ops r z (listed.setIfInBounds i true) && roB md ops s z (listed.setIfInBounds j true)
 | .swi z' r,z,listed=>((List.range ops.size).all fun k=>listed.getD k true || z.contains k) && roB md ops r z' listed
def dX (P:Program) (ops:Array Oper) (B:World→Prop) (Q:Act→World→Prop):RO→List Nat→(World→Prop)→Act→World→Prop
 | .fin,_,_,a,w=>Q a w
 | .pure i r,z,G,a,w=>∃ o v,ops[i]? = some o∧dm P ops G o v a∧dX P ops B Q r z G (a.put o.dst v) w
 | .free i r,z,G,a,w=>∃ o v,ops[i]? = some o∧dm P ops (fun _=>True) o v a∧dX P ops B Q r z G (a.put o.dst v) w
 | .base i r,z,G,a,w=>∃ o v,ops[i]? = some o∧dm P ops B o v a∧dX P ops B Q r z G (a.put o.dst v) w
 | .run i r,z,G,a,w=>gOp P ops i (fun a' w'=>(B w→B w')∧(z.contains i=false→G w→G w')∧dX P ops B Q r z G a' w') a w
 | .two i r j s,z,G,a,w=>gOp P ops i (fun a' w'=>(B w→B w')∧(z.contains i=false→G w→G w')∧dX P ops B Q r z G a' w') a w∧gOp P ops j (fun a' w'=>(B w→B w')∧(z.contains j=false→G w→G w')∧dX P ops B Q s z G a' w') a w
 | .swi z' r,_,_,a,w=>∃ G':World→Prop,G' w∧dX P ops B Q r z' G' a w
def wpAnyH (P:Program) (md:Region.Mode) (ops:Array Oper) (B:World→Prop) (z:List Nat) (G:World→Prop) (Q:Act→World→Prop):Nat→Array Bool→Act→World→Prop
 | 0,listed,a,w=>Region.ready md ops listed=[]∧Q a w
 | f+1,listed,a,w=>
  (Region.ready md ops listed=[]→Q a w) ∧
  ∀ i ∈ Region.ready md ops listed,gOp P ops i (fun a' w'=>(B w→B w')∧(z.contains i=false→G w→G w')∧wpAnyH P md ops B z G Q f (listed.setIfInBounds i true) a' w') a w
variable {B:World→Prop}
theorem kf {z:List Nat} {G:World→Prop} {Q:Act→World→Prop} {Q':Exit→Act→World→Prop} (hQ:∀ a w,Q a w→Q' .normal a w):∀ (f:Nat) (listed:Array Bool) (a:Act) (w:World),
  wpAnyH P md ops B z G Q f listed a w→wpAny P md ops Q' f listed a w
 | 0,_,_,_,h=>⟨h.1,hQ _ _ h.2⟩
 | f+1,_,_,_,h=>⟨fun h0=>hQ _ _ (h.1 h0),fun i hi=>jF (dN (fun a w ⟨_,_,hk⟩=>kf hQ f _ a w hk) (h.2 i hi))⟩
theorem pI {listed:Array Bool} {i:Nat} (hi:i ∈ Region.ready md ops listed):i<ops.size∧listed.getD i true=false:=by
 obtain ⟨hun,oi,hoi,_⟩:=mem_ready.1 hi;refine ⟨?_,hun⟩;rcases Nat.lt_or_ge i ops.size with h | h
 ·exact h
 ·rw [Array.getElem?_eq_none h] at hoi;cases hoi
theorem kg {z z':List Nat} {G G':World→Prop} {Q:Act→World→Prop}:∀ (fuel:Nat) (listed:Array Bool) (a:Act) (w:World),
  (∀ k,k<ops.size→listed.getD k true=false→z.contains k=true)→wpAnyH P md ops B z' G' Q fuel listed a w→wpAnyH P md ops B z G Q fuel listed a w
 | 0,_,_,_,_,h=>h
 | f+1,listed,a,w,hz,h=>⟨h.1,fun i hi=>dN (fun a' w' ⟨hb,_,hk⟩=>by
   obtain ⟨hil,hun⟩:=pI hi;refine ⟨hb,fun hc=>?_,kg f _ a' w' (fun k hk hl=>?_) hk⟩
   ·have:=hz i hil hun;rw [hc] at this;cases this
   ·by_cases hki:i=k
    ·subst hki;exact hz i hil hun
    ·rw [getD_set_ne true hki] at hl;exact hz k hk hl) (h.2 i hi)⟩
theorem wpAnyH_first {G Gy:World→Prop} {z:List Nat} {Q:Act→World→Prop} {i:Nat} {oi:Oper} {v:Value} (hi:ops[i]? = some oi) (hsel:∀ (j:Nat) (o:Oper) cs b,ops[j]? = some o→o.op≠.select cs b)
  (hz:(Gy=G∧∀ j,z.contains j=true→waitsT md ops ops.size j i=true)∨Gy=B∨∀ w,Gy w) :
  ∀ (fuel:Nat) (listed:Array Bool) (a:Act) (w:World),Gy w→gI md ops listed →
   (∀ j oj,ops[j]? = some oj→j≠i→listed.getD j true=false→(∀ e ∈ oj.after,Region.binds md e=true→e.on≠i)→oi.apart ops oj=true) →
   i ∈ Region.ready md ops listed→dm P ops Gy oi v a →
   wpAnyH P md ops B z G Q fuel (listed.setIfInBounds i true) (a.put oi.dst v) w→wpAnyH P md ops B z G Q (fuel+1) listed a w:=by
 intro fuel
 induction fuel with
 | zero=>
  intro listed a w hG hS _ hr hy H;refine ⟨fun h=>(by rw [h] at hr;cases hr),fun j hj=>?_⟩;by_cases hji:j=i
  ·subst hji;exact hy.gOp hi hG ⟨fun h=>h,fun _ h=>h,H⟩
  ·have:=ready_mono hj hji;rw [H.1] at this;cases this
 | succ fuel ih=>
  intro listed a w hG hS hfree hr hy H;refine ⟨fun h=>(by rw [h] at hr;cases hr),fun j hj=>?_⟩;by_cases hji:j=i
  ·subst hji;exact hy.gOp hi hG ⟨fun h=>h,fun _ h=>h,H⟩
  ·have h1:=H.2 j (ready_mono hj hji);obtain ⟨hjun,oj,hoj,hall⟩:=mem_ready.1 hj;have hin:listed.getD i false=false:=by
    have h0:=(mem_ready.1 hr).1;rcases Nat.lt_or_ge i listed.size with h' | h'
    ·simp [h'] at h0 ⊢;exact h0
    ·simp [Array.getElem?_eq_none h'] at h0
   have hnot:∀ e ∈ oj.after,Region.binds md e=true→e.on≠i:=fun e he hb heq=>by
    have h1:=hall e he hb;rw [heq,hin] at h1;cases h1
   have h2:=m4 hoj (hfree j oj hoj hji hjun hnot) (fun cs b=>hsel i oi cs b hi) (fun cs b=>hsel j oj cs b hoj) hy h1;have hfree':∀ k ok,ops[k]? = some ok→k≠i→(listed.setIfInBounds j true).getD k true=false →
     (∀ e ∈ ok.after,Region.binds md e=true→e.on≠i)→oi.apart ops ok=true:=fun k ok hk hki hun hno=>by
    refine hfree k ok hk hki ?_ hno;by_cases hjk:j=k
    ·subst hjk;exact hjun
    ·rw [getD_set_ne true hjk] at hun;exact hun
   refine dN (fun a' w' ⟨hy',hB',hG',h3⟩=>?_) h2;refine ⟨hB',hG',ih (listed.setIfInBounds j true) a' w' ?_ (hS.next hj) hfree' (ready_mono hr (Ne.symm hji)) hy' ?_⟩
   ·rcases hz with ⟨rfl,hzz⟩ | rfl | h2
    ·refine hG' ?_ hG;cases hc:z.contains j
     ·rfl
     ·have:=hS.waits _ j i ⟨oj,hoj,hall⟩ (hzz j hc);rw [hin] at this;cases this
    ·exact hB' hG
    ·exact h2 w'
   ·rw [Array.setIfInBounds_comm _ _ hji];exact h3
theorem dJ {Q:Act→World→Prop} (hs:Region.noSelect ops=true):∀ (t:RO) (z:List Nat) (G:World→Prop) (listed:Array Bool) (a:Act) (w:World),gI md ops listed→B w→(G w∨t.dQ=true) →
  roB md ops t z listed=true→dX P ops B Q t z G a w→wpAnyH P md ops B z G Q t.size listed a w
 | .fin,_,_,_,_,_,_,_,_,hB,h=>⟨by simpa [roB] using hB,h⟩
 | .pure i r,z,G,listed,a,w,hS,hb,hG,hB,h=>by
  have hG:G w:=by
   rcases hG with h | h
   ·exact h
   ·simp [RO.dQ] at h
  simp only [roB,Bool.and_eq_true] at hB;obtain ⟨⟨⟨hr,hf⟩,hz⟩,hB'⟩:=hB;obtain ⟨o,v,ho,hy,hn⟩:=h;have hr':i ∈ Region.ready md ops listed:=by simpa using hr
  refine wpAnyH_first ho (Region.noSelect_spec hs) (.inl ⟨rfl,fun j hj=>?_⟩) r.size listed a w hG hS (Region.free_spec ho hf) hr' hy ?_
  ·exact List.all_eq_true.1 hz j (by simpa using hj)
  ·exact dJ hs r z G _ _ w (hS.next hr') hb (.inl hG) hB' hn
 | .free i r,z,G,listed,a,w,hS,hb,hG,hB,h=>by
  simp only [roB,Bool.and_eq_true] at hB;obtain ⟨⟨hr,hf⟩,hB'⟩:=hB;obtain ⟨o,v,ho,hy,hn⟩:=h;have hr':i ∈ Region.ready md ops listed:=by simpa using hr
  refine wpAnyH_first ho (Region.noSelect_spec hs) (.inr (.inr fun _=>trivial)) r.size listed a w trivial hS (Region.free_spec ho hf) hr' hy ?_;exact dJ hs r z G _ _ w (hS.next hr') hb hG hB' hn
 | .base i r,z,G,listed,a,w,hS,hb,hG,hB,h=>by
  simp only [roB,Bool.and_eq_true] at hB;obtain ⟨⟨hr,hf⟩,hB'⟩:=hB;obtain ⟨o,v,ho,hy,hn⟩:=h;have hr':i ∈ Region.ready md ops listed:=by simpa using hr
  refine wpAnyH_first ho (Region.noSelect_spec hs) (.inr (.inl rfl)) r.size listed a w hb hS (Region.free_spec ho hf) hr' hy ?_;exact dJ hs r z G _ _ w (hS.next hr') hb hG hB' hn
 | .run i r,z,G,listed,a,w,hS,hb,hG,hB,h=>by
  simp only [roB,Bool.and_eq_true] at hB;obtain ⟨⟨hr,hk⟩,hB'⟩:=hB;have hr1:Region.ready md ops listed=[i]:=by simpa using hr
  have hin:i ∈ Region.ready md ops listed:=by rw [hr1];simp
  refine ⟨(fun h0=>by rw [hr1] at h0;cases h0),fun j hj=>?_⟩;rw [hr1] at hj;obtain rfl:j=i:=by simpa using hj
  refine dN (fun a' w' ⟨hb',hG',hn⟩=>⟨hb',hG',dJ hs r z G _ a' w' (hS.next hin) (hb' hb) ?_ hB' hn⟩) h;cases hc:z.contains j
  ·rcases hG with hG | hG
   ·exact .inl (hG' hc hG)
   ·exact .inr hG
  ·rw [hc] at hk;exact .inr (by simpa using hk)
 | .two i r k s,z,G,listed,a,w,hS,hb,hG,hB,h=>by
  simp only [roB,Bool.and_eq_true,beq_iff_eq] at hB;obtain ⟨⟨⟨⟨⟨hr,hki⟩,hkk⟩,hsz⟩,hB1⟩,hB2⟩:=hB;have hr1:Region.ready md ops listed=[i,k]:=by simpa using hr
  refine ⟨(fun h0=>by rw [hr1] at h0;cases h0),fun j hj=>?_⟩;have hin:j ∈ Region.ready md ops listed:=hj;rw [hr1] at hj;have hj:j=i∨j=k:=by simpa using hj
  rcases hj with rfl | rfl
  ·refine dN (fun a' w' ⟨hb',hG',hn⟩=>⟨hb',hG',dJ hs r z G _ a' w' (hS.next hin) (hb' hb) ?_ hB1 hn⟩) h.1;cases hc:z.contains j
   ·rcases hG with hG | hG
    ·exact .inl (hG' hc hG)
    ·simp only [RO.dQ,Bool.and_eq_true] at hG;exact .inr hG.1
   ·rw [hc] at hki;exact .inr (by simpa using hki)
  ·show gOp P ops j (fun a' w'=>(B w→B w')∧(z.contains j=false→G w→G w')∧wpAnyH P md ops B z G Q r.size (listed.setIfInBounds j true) a' w') a w
   rw [hsz];refine dN (fun a' w' ⟨hb',hG',hn⟩=>⟨hb',hG',dJ hs s z G _ a' w' (hS.next hin) (hb' hb) ?_ hB2 hn⟩) h.2;cases hc:z.contains j
   ·rcases hG with hG | hG
    ·exact .inl (hG' hc hG)
    ·simp only [RO.dQ,Bool.and_eq_true] at hG;exact .inr hG.2
   ·rw [hc] at hkk;exact .inr (by simpa using hkk)
 | .swi z' r,z,G,listed,a,w,hS,hb,hG,hB,h=>by
  simp only [roB,Bool.and_eq_true] at hB;obtain ⟨hz,hB'⟩:=hB;obtain ⟨G',hG',hn⟩:=h;refine kg _ listed a w (fun k hk hl=>?_) (dJ hs r z' G' listed a w hS hb (.inl hG') hB' hn);have:=List.all_eq_true.1 hz k (List.mem_range.2 hk);rw [hl] at this;simpa using this
structure bS (P:Program) (ops:Array Oper) (B:World→Prop) (Q:Act→World→Prop) (t:RO) (z:List Nat) (G:World→Prop) (a:Act) (w:World):Prop where
 raw:dX P ops B Q t z G a w
abbrev lS (P:Program) (ops:Array Oper) (Q:Act→World→Prop) (t:RO) (z:List Nat) (G:World→Prop) (a:Act) (w:World):Prop:=bS P ops (fun _=>True) Q t z G a w
theorem lH {id:Nat} {Q:Exit→Act→World→Prop} {a:Act} {w:World} {l:List Oper} (t:RO) (z:List Nat) (B G:World→Prop) (hm:P.follows .mixedOrders=true)
  (hB:(Region.noSelect l.toArray && t.size == l.toArray.size && roB .any l.toArray t z (Array.replicate l.toArray.size false))=true) (hb:B w.drew) (hG:G w.drew)
  (h:bS P l.toArray B (fun a' w'=>Q .normal a' w') t z G a w.drew):(Code.region id l.toArray true).wp P Q a w:=by
 simp only [Bool.and_eq_true,beq_iff_eq] at hB;obtain ⟨⟨hs,hl⟩,hB⟩:=hB;refine wp_region_any hm ?_;have hshut:gI .any l.toArray (Array.replicate l.toArray.size false):=by
  intro j o ho hx;have h0:(Array.replicate l.toArray.size false).getD j false=false:=by
   rw [Array.getD_eq_getD_getElem?,Array.getElem?_replicate];split <;> rfl
  rw [h0] at hx;cases hx
 have:=dJ (md:=.any) hs t z G _ a w.drew hshut hb (.inl hG) hB h.raw;rw [hl] at this;exact kf (fun _ _ h=>h) _ _ _ _ this
theorem aq {id:Nat} {Q:Exit→Act→World→Prop} {a:Act} {w:World} {l:List Oper} (t:RO) (z:List Nat) (G:World→Prop) (hm:P.follows .mixedOrders=true)
  (hB:(Region.noSelect l.toArray && t.size == l.toArray.size && roB .any l.toArray t z (Array.replicate l.toArray.size false))=true) (hG:G w.drew)
  (h:lS P l.toArray (fun a' w'=>Q .normal a' w') t z G a w.drew):(Code.region id l.toArray true).wp P Q a w:=lH t z _ G hm hB trivial hG h
section
variable {z:List Nat} {G:World→Prop} {Q:Act→World→Prop} {i:Nat} {r:RO} {a:Act} {w:World} {o:Oper}
theorem gU (ho:ops[i]? = some o) (hw:Region.wanted o (yielded ops a.tmps)=true) (v:Value)
  (h:∀ w',G w'→bA v w' ((execOp a.eval o).run P w')) (hn:∀ K:Act→Prop,(∀ a',bS P ops B Q r z G a' w→K a')→K (a.put o.dst v)):bS P ops B Q (.pure i r) z G a w:=
 ⟨⟨o,v,ho, .inl ⟨hw,h⟩,hn (fun a'=>dX P ops B Q r z G a' w) (fun _ h=>h.raw)⟩⟩
theorem ow (ho:ops[i]? = some o) (hw:Region.wanted o (yielded ops a.tmps)=true) (v:Value)
  (h:∀ w',bA v w' ((execOp a.eval o).run P w')) (hn:∀ K:Act→Prop,(∀ a',bS P ops B Q r z G a' w→K a')→K (a.put o.dst v)):bS P ops B Q (.free i r) z G a w:=
 ⟨⟨o,v,ho, .inl ⟨hw,fun w' _=>h w'⟩,hn (fun a'=>dX P ops B Q r z G a' w) (fun _ h=>h.raw)⟩⟩
theorem aA (ho:ops[i]? = some o) (hw:Region.wanted o (yielded ops a.tmps)=false)
  (hn:∀ K:Act→Prop,(∀ a',bS P ops B Q r z G a' w→K a')→K (a.put o.dst undef)):bS P ops B Q (.pure i r) z G a w:=
 ⟨⟨o,undef,ho, .inr ⟨hw,rfl⟩,hn (fun a'=>dX P ops B Q r z G a' w) (fun _ h=>h.raw)⟩⟩
theorem aj (ho:ops[i]? = some o) (hw:Region.wanted o (yielded ops a.tmps)=false)
  (hn:∀ K:Act→Prop,(∀ a',bS P ops B Q r z G a' w→K a')→K (a.put o.dst undef)):bS P ops B Q (.free i r) z G a w:=
 ⟨⟨o,undef,ho, .inr ⟨hw,rfl⟩,hn (fun a'=>dX P ops B Q r z G a' w) (fun _ h=>h.raw)⟩⟩
theorem jy {K:Act→World→Prop} (ho:ops[i]? = some o) (hw:Region.wanted o (yielded ops a.tmps)=true) (h:aM P o a w K):gOp P ops i K a w:=by
 unfold gOp;simp only [ho,hw,if_true];exact h
theorem pJ {K:Act→World→Prop} (ho:ops[i]? = some o) (hw:Region.wanted o (yielded ops a.tmps)=false) (h:K (a.put o.dst undef) w):gOp P ops i K a w:=by
 unfold gOp;simp only [ho,hw];exact h
theorem oA (ho:ops[i]? = some o) (hw:Region.wanted o (yielded ops a.tmps)=true)
  (h:∀ K:Act→World→Prop,(∀ a' w',(B w→B w')→(G w→G w')→bS P ops B Q r z G a' w'→K a' w')→aM P o a w K):bS P ops B Q (.run i r) z G a w:=
 ⟨jy ho hw (h _ (fun a' w' hb hg hk=>⟨hb,fun _=>hg,hk.raw⟩))⟩
theorem bO (ho:ops[i]? = some o) (hw:Region.wanted o (yielded ops a.tmps)=true)
  (h:∀ K:Act→World→Prop,(∀ a' w',(G w→G w')→lS P ops Q r z G a' w'→K a' w')→aM P o a w K):lS P ops Q (.run i r) z G a w:=
 oA ho hw fun K hK=>h K fun a' w' hg hk=>hK a' w' (fun h=>h) hg hk
theorem oB (ho:ops[i]? = some o) (hz:z.contains i=true) (hw:Region.wanted o (yielded ops a.tmps)=true)
  (h:∀ K:Act→World→Prop,(∀ a' w',(B w→B w')→bS P ops B Q r z G a' w'→K a' w')→aM P o a w K):bS P ops B Q (.run i r) z G a w:=
 ⟨jy ho hw (h _ (fun a' w' hb hk=>⟨hb,(fun hc=>by rw [hz] at hc;cases hc),hk.raw⟩))⟩
theorem aK (ho:ops[i]? = some o) (hz:z.contains i=true) (hw:Region.wanted o (yielded ops a.tmps)=true)
  (h:∀ K:Act→World→Prop,(∀ a' w',lS P ops Q r z G a' w'→K a' w')→aM P o a w K):lS P ops Q (.run i r) z G a w:=
 oB ho hz hw fun K hK=>h K fun a' w' hk=>hK a' w' (fun h=>h) hk
theorem iB (ho:ops[i]? = some o) (hw:Region.wanted o (yielded ops a.tmps)=false)
  (hn:∀ K:Act→Prop,(∀ a',bS P ops B Q r z G a' w→K a')→K (a.put o.dst undef)):bS P ops B Q (.run i r) z G a w:=
 ⟨pJ ho hw ⟨fun h=>h,fun _ h=>h,hn (fun a'=>dX P ops B Q r z G a' w) (fun _ h=>h.raw)⟩⟩
theorem lT {j:Nat} {s:RO} {o':Oper} (ho:ops[i]? = some o) (hw:Region.wanted o (yielded ops a.tmps)=true) (ho':ops[j]? = some o') (hw':Region.wanted o' (yielded ops a.tmps)=true)
  (h:∀ K:Act→World→Prop,(∀ a' w',(B w→B w')→(z.contains i=false→G w→G w')→bS P ops B Q r z G a' w'→K a' w')→aM P o a w K)
  (h':∀ K:Act→World→Prop,(∀ a' w',(B w→B w')→(z.contains j=false→G w→G w')→bS P ops B Q s z G a' w'→K a' w')→aM P o' a w K):bS P ops B Q (.two i r j s) z G a w:=
 ⟨⟨jy ho hw (h _ (fun a' w' hb hg hk=>⟨hb,hg,hk.raw⟩)),jy ho' hw' (h' _ (fun a' w' hb hg hk=>⟨hb,hg,hk.raw⟩))⟩⟩
theorem aH {z':List Nat} (G':World→Prop) (hG:G' w) (h:bS P ops B Q r z' G' a w):bS P ops B Q (.swi z' r) z G a w:=⟨⟨G',hG,h.raw⟩⟩
theorem aD (h:Q a w):bS P ops B Q .fin z G a w:=⟨h⟩
def rowB (P:Program) (t:TypeId) (n:Nat):Bool:=(match P.underlying t with | some d=>d.isRow | none=>false) && (P.info? t).map (·.size) == some n
theorem fX {t:TypeId} {n:Nat} (h:rowB P t n=true):∃ d,P.underlying t=some d∧d.isRow=true∧(P.info? t).map (·.size)=some n:=by
 unfold rowB at h;simp only [Bool.and_eq_true,beq_iff_eq] at h;cases hd:P.underlying t with
 | none=>rw [hd] at h;cases h.1
 | some d=>rw [hd] at h;exact ⟨d,rfl,h.1,h.2⟩
theorem jO {b off:Nat} {v0 v1:Value} (h0:w.cell? ⟨b,off,none⟩=some v0) (h1:w.cell? ⟨b,off+1,none⟩=some v1):w.rangeAt b off [v0,v1]:=by
 intro j v hj
 match j with
 | 0=>simp at hj;subst hj;exact h0
 | 1=>simp at hj;subst hj;exact h1
 | j+2=>simp at hj
theorem nK {t:TypeId} {x:Operand} {b off:Nat} {v0 v1:Value} (ho:o.op=.load t x) (hr:rowB P t 2=true) (hx:a.eval x=.pointer (some ⟨b,off,none⟩))
  (h0:w.cell? ⟨b,off,none⟩=some v0) (h1:w.cell? ⟨b,off+1,none⟩=some v1):bA (.agg #[v0,v1]) w ((execOp a.eval o).run P w):=by
 obtain ⟨d,hu,hd,hi⟩:=fX hr;have:=run_loadAt_mid (P:=P) w b off t [v0,v1] d (jO h0 h1) hu hd hi;unfold bA execOp;simp only [ho,hx,Sem.run_bind,Sem.run_pure,Result.andThen_ok,this]
theorem ak {v:Value} (ho:ops[i]? = some o) (hw:Region.wanted o (yielded ops a.tmps)=true) (hn:∀ K:Act→Prop,(∀ a',bS P ops B Q r z G a' w→K a')→K (a.put o.dst v))
  (h:∀ w',bA v w' ((execOp a.eval o).run P w'):=by intro w';go_simp;exact bA.mk _ _):bS P ops B Q (.free i r) z G a w:=ow ho hw v h hn
theorem aw {v:Value} (ho:ops[i]? = some o) (hw:Region.wanted o (yielded ops a.tmps)=true) (hn:∀ K:Act→Prop,(∀ a',bS P ops B Q r z G a' w→K a')→K (a.put o.dst v))
  (h:∀ w',G w'→bA v w' ((execOp a.eval o).run P w'):=by intro w' hG;(repeat (have:=And.left hG;replace hG:=And.right hG));go_simp;exact bA.mk _ _):bS P ops B Q (.pure i r) z G a w:=gU ho hw v h hn
theorem aB {v:Value} (ho:ops[i]? = some o) (hw:Region.wanted o (yielded ops a.tmps)=true) (hn:∀ K:Act→Prop,(∀ a',bS P ops B Q r z G a' w→K a')→K (a.put o.dst v))
  (h:∀ w',G w'→bA v w' ((execOp a.eval o).run P w'):=by intro w' hG;(repeat (have:=And.left hG;replace hG:=And.right hG));exact nK rfl (by decide +kernel) rfl (by assumption) (by assumption)):bS P ops B Q (.pure i r) z G a w:=gU ho hw v h hn
theorem bd {rest:List Oper} {Q:Exit→Act→World→Prop} (hgd:o.guard=none) (t:TypeId) (x:Operand) (ho:o.op=.load t x) (hr:rowB P t 2=true) (b off:Nat) (hx:a.eval x=.pointer (some ⟨b,off,none⟩)) (v0 v1:Value)
  (h0:w.cell? ⟨b,off,none⟩=some v0) (h1:w.cell? ⟨b,off+1,none⟩=some v1) (h:wpList P ops Q rest (a.put o.dst (.agg #[v0,v1])) w):wpList P ops Q (o :: rest) a w:=by
 obtain ⟨d,hu,hd,hi⟩:=fX hr;exact wpList_load_mid hgd t x ho b off hx [v0,v1] d (jO h0 h1) hu hd hi h
end
end
end
section
open Go.RowKit
section
variable {P:Program} {w:World} {ops:Array Oper} {o:Oper} {a:Act}
theorem kZ {t:TypeId} {x:Operand} {b off:Nat} {cs:List Value} (ho:o.op=.load t x) (hr:rowB P t cs.length=true) (hx:a.eval x=.pointer (some ⟨b,off,none⟩)) (h:w.rangeAt b off cs):bA (.agg cs.toArray) w ((execOp a.eval o).run P w):=by
 obtain ⟨d,hu,hd,hi⟩:=fX hr;have:=run_loadAt_mid (P:=P) w b off t cs d h hu hd hi;unfold bA execOp;simp only [ho,hx,Sem.run_bind,Sem.run_pure,Result.andThen_ok,this]
theorem fh {rest:List Oper} {Q:Exit→Act→World→Prop} (hgd:o.guard=none) (t:TypeId) (x:Operand) (ho:o.op=.load t x) (cs:List Value) (hr:rowB P t cs.length=true) (b off:Nat) (hx:a.eval x=.pointer (some ⟨b,off,none⟩))
  (h0:w.rangeAt b off cs) (h:wpList P ops Q rest (a.put o.dst (.agg cs.toArray)) w):wpList P ops Q (o :: rest) a w:=by
 obtain ⟨d,hu,hd,hi⟩:=fX hr;exact wpList_load_mid hgd t x ho b off hx cs d h0 hu hd hi h
theorem dw {b off:Nat}:w.rangeAt b off []:=by intro j v hj;simp at hj
theorem aE {b off:Nat} {v:Value} {cs:List Value} (h:w.cell? ⟨b,off,none⟩=some v) (hr:w.rangeAt b (off+1) cs):w.rangeAt b off (v :: cs):=by
 intro j u hj;cases j with
 | zero=>simp at hj;subst hj;exact h
 | succ j=>simp at hj;rw [show off+(j+1)=off+1+j by omega];exact hr j u hj
end
end
section
open Go.RowKit
theorem lU (n:Int):bits .and .i64 n 3=n%4:=by
 have h3:(BitVec.ofInt 64 3).toNat=2 ^ 2-1:=by decide
 have key:(BitVec.ofInt 64 n &&& BitVec.ofInt 64 3).toNat=(n%((2 ^ 64:Nat):Int)).toNat%2 ^ 2:=by
  rw [BitVec.toNat_and,BitVec.toNat_ofInt,h3,Nat.and_two_pow_sub_one_eq_mod]
 show IntKind.i64.wrap ((BitVec.ofInt 64 n &&& BitVec.ofInt 64 3).toNat:Nat)=n%4
 rw [key,IntKind.wrap_i64];omega
theorem oC (n:Int):bits .and .i64 n 15=n%16:=by
 have h3:(BitVec.ofInt 64 15).toNat=2 ^ 4-1:=by decide
 have key:(BitVec.ofInt 64 n &&& BitVec.ofInt 64 15).toNat=(n%((2 ^ 64:Nat):Int)).toNat%2 ^ 4:=by
  rw [BitVec.toNat_and,BitVec.toNat_ofInt,h3,Nat.and_two_pow_sub_one_eq_mod]
 show IntKind.i64.wrap ((BitVec.ofInt 64 n &&& BitVec.ofInt 64 15).toNat:Nat)=n%16
 rw [key,IntKind.wrap_i64];omega
theorem oD (n:Int) (h₀:0≤n) (h₁:n<2 ^ 63):IntKind.i64.wrap n=n:=by rw [IntKind.wrap_i64];omega
theorem gJ (f k:Int) (h1:0≤f) (h2:f≤100) (h3:0≤k) (h4:k<16):bits .or .i64 (f*16) k=f*16+k:=
 bits_join .i64 63 (by decide) oD 4 (f*16) k (by omega) (by omega) (by omega) (by omega) (by omega) (by omega)
def dy:Int:=1152921504606846976
def rO (x:Int):Int × Int × Int:=
 if x%4=0 then if -dy≤x/4∧x/4<dy then (1,x/4,0) else (0,0,1)
 else if x%4=1 then if 0≤x/4∧x/4<dy then (3,x/4,0) else (0,0,1)
 else if x/4=0 then if x=2 then (0,0,0) else (2,0,0)
 else (0,0,7)
def aQ (k f:Int):Bool:=((k == 1 || k == 3 || k == 4) && f == 2) || (k == 5 && f == 0) || (k == 2 && decide (0≤f) && decide (f≤12))
def fj (k f:Int):Int × Int:=if k<1∨5<k then (0,2) else if aQ k f=true then (16*f+k,0) else (0,1)
def eM (h:Int):Int × Int × Int:=if aQ (h%16) (h/16)=true then (h%16,h/16,0) else (0,0,7)
theorem aX {k f:Int} (h:aQ k f=true):1≤k∧k≤5∧0≤f∧f≤12:=by
 simp [aQ] at h;omega
end
section
open Go.RowKit
theorem qQ {a b c d:Int} (h1:a=c) (h2:b=d):Ending.returned (.tuple #[.int .i64 a, .int .i64 b])=Ending.returned (.tuple #[.int .i64 c, .int .i64 d]):=by rw [h1,h2]
theorem sK (w:World):Calls Try.prog 89 #[] w fun e w'=>e=.returned (.int .i64 2)∧w=w':=by
 go_enter Try.func89,Try.ntmps89
 go_wp2
 go_ret;exact ⟨rfl,rfl⟩
theorem ik (x:Int) (w:World) (h:x%4=1) :
  Calls Try.prog 52 #[.int .i64 x] w fun e w'=>e=.returned (.tuple #[.int .i64 (x/4), .bool true])∧w=w':=by
 have ha:bits .and .i64 x 3=1:=by rw [lU,h]
 clear h;go_enter Try.func52,Try.ntmps52
 go_wp2
 go_ret2;exact ⟨rfl,rfl⟩
theorem qz (x:Int) (w:World) (h:x%4≠1) :
  Calls Try.prog 52 #[.int .i64 x] w fun e w'=>e=.returned (.tuple #[.int .i64 0, .bool false])∧w=w':=by
 have ha:(bits .and .i64 x 3 != 1)=true:=by rw [lU];simpa using h
 clear h;go_enter Try.func52,Try.ntmps52
 go_wp2
 go_ret2;exact ⟨rfl,rfl⟩
end
section
open Go.RowKit
theorem kh {k f:Int} (h:k<1∨5<k):fj k f=(0,2):=if_pos h
theorem fG {k f:Int} (h:1≤k∧k≤5) (hf:aQ k f=false):fj k f=(0,1):=by
 unfold fj;rw [if_neg (by omega),if_neg (by simp [hf])]
theorem eW {k f:Int} (h:1≤k∧k≤5) (hf:aQ k f=true):fj k f=(16*f+k,0):=by
 unfold fj;rw [if_neg (by omega),if_pos hf]
theorem kK {k f:Int} (hk:k=1∨k=3∨k=4):aQ k f=(f == 2):=by
 rcases hk with rfl | rfl | rfl <;> simp [aQ]
theorem qR {f:Int}:aQ 5 f=(f == 0):=by simp [aQ]
theorem i3 {f:Int}:aQ 2 f=(decide (0≤f) && decide (f≤12)):=by simp [aQ]
theorem oE (k f:Int) (w:World) (h1:-9223372036854775808≤f) (h2:f≤9223372036854775807) :
  Calls Try.prog 128 #[.int .i64 k, .int .i64 f] w fun e w'=>e=.returned (.tuple #[.int .i64 (fj k f).1, .int .i64 (fj k f).2])∧w=w':=by
 by_cases c1:k<1
 ·have HE:=Hz (kh (f:=f) (.inl c1));go_enter Try.func128,Try.ntmps128
  go_wp2
  go_ret2;exact ⟨by rw [HE.out];rfl,rfl⟩
 by_cases c2:5<k
 ·have HE:=Hz (kh (f:=f) (.inr c2));go_enter Try.func128,Try.ntmps128
  go_wp2
  go_ret2;exact ⟨by rw [HE.out];rfl,rfl⟩
 have hk:k=1∨k=2∨k=3∨k=4∨k=5:=by omega
 clear c1 c2;rcases hk with rfl | rfl | rfl | rfl | rfl
 ·by_cases c:f=2
  ·subst c;have hor:=gJ 2 1 (by omega) (by omega) (by omega) (by omega);have HE:=Hz (eW (k:=1) (f:=2) (by omega) (by decide));go_enter Try.func128,Try.ntmps128
   go_wp2
   go_ret2;exact ⟨by rw [HE.out];rfl,rfl⟩
  ·have hne:(f != 2)=true:=by simpa using c
   have HE:=Hz (fG (k:=1) (f:=f) (by omega) (by rw [kK (by omega)];simpa using c));clear c;go_enter Try.func128,Try.ntmps128
   go_wp2
   go_ret2;exact ⟨by rw [HE.out];rfl,rfl⟩
 ·by_cases c1:f<0
  ·have HE:=Hz (fG (k:=2) (f:=f) (by omega) (by rw [i3];simp;omega));go_enter Try.func128,Try.ntmps128
   go_wp2
   go_ret2;exact ⟨by rw [HE.out];rfl,rfl⟩
  by_cases c2:12<f
  ·have HE:=Hz (fG (k:=2) (f:=f) (by omega) (by rw [i3];simp;omega));go_enter Try.func128,Try.ntmps128
   go_wp2
   go_ret2;exact ⟨by rw [HE.out];rfl,rfl⟩
  have hor:=gJ f 2 (by omega) (by omega) (by omega) (by omega);have HE:=Hz (eW (k:=2) (f:=f) (by omega) (by rw [i3];simp;omega));go_enter Try.func128,Try.ntmps128
  go_wp2
  go_ret2;exact ⟨by rw [HE.out];exact qQ (by omega) rfl,rfl⟩
 ·by_cases c:f=2
  ·subst c;have hor:=gJ 2 3 (by omega) (by omega) (by omega) (by omega);have HE:=Hz (eW (k:=3) (f:=2) (by omega) (by decide));go_enter Try.func128,Try.ntmps128
   go_wp2
   go_ret2;exact ⟨by rw [HE.out];rfl,rfl⟩
  ·have hne:(f != 2)=true:=by simpa using c
   have HE:=Hz (fG (k:=3) (f:=f) (by omega) (by rw [kK (by omega)];simpa using c));clear c;go_enter Try.func128,Try.ntmps128
   go_wp2
   go_ret2;exact ⟨by rw [HE.out];rfl,rfl⟩
 ·by_cases c:f=2
  ·subst c;have hor:=gJ 2 4 (by omega) (by omega) (by omega) (by omega);have HE:=Hz (eW (k:=4) (f:=2) (by omega) (by decide));go_enter Try.func128,Try.ntmps128
   go_wp2
   go_ret2;exact ⟨by rw [HE.out];rfl,rfl⟩
  ·have hne:(f != 2)=true:=by simpa using c
   have HE:=Hz (fG (k:=4) (f:=f) (by omega) (by rw [kK (by omega)];simpa using c));clear c;go_enter Try.func128,Try.ntmps128
   go_wp2
   go_ret2;exact ⟨by rw [HE.out];rfl,rfl⟩
 ·by_cases c:f=0
  ·subst c;have hor:=gJ 0 5 (by omega) (by omega) (by omega) (by omega);have HE:=Hz (eW (k:=5) (f:=0) (by omega) (by decide));go_enter Try.func128,Try.ntmps128
   go_wp2
   go_ret2;exact ⟨by rw [HE.out];rfl,rfl⟩
  ·have hne:(f != 0)=true:=by simpa using c
   have HE:=Hz (fG (k:=5) (f:=f) (by omega) (by rw [qR];simpa using c));clear c;go_enter Try.func128,Try.ntmps128
   go_wp2
   go_ret2;exact ⟨by rw [HE.out];rfl,rfl⟩
theorem gV {a b c:Int} {y:Int × Int × Int} (h:y=(a,b,c)) :
  Ending.returned (.tuple #[.int .i64 a, .int .i64 b, .int .i64 c])=Ending.returned (.tuple #[.int .i64 y.1, .int .i64 y.2.1, .int .i64 y.2.2]):=by subst h;rfl
theorem lg {h:Int} (hf:aQ (h%16) (h/16)=false):eM h=(0,0,7):=by unfold eM;rw [if_neg (by simp [hf])]
theorem nM {h:Int} (hf:aQ (h%16) (h/16)=true):eM h=(h%16,h/16,0):=by unfold eM;rw [if_pos hf]
theorem ki {h:Int} (c:h<0∨207<h):eM h=(0,0,7):=by
 apply lg;cases hf:aQ (h%16) (h/16)
 ·rfl
 ·have:=aX hf;omega
theorem nN {k f:Int} (h:aQ k f=false):(fj k f).1=0∧((fj k f).2 != 0)=true:=by
 unfold fj;split
 ·exact ⟨rfl,rfl⟩
 ·rw [if_neg (by simp [h])];exact ⟨rfl,rfl⟩
theorem nO {k f:Int} (h:aQ k f=true):fj k f=(16*f+k,0):=eW ⟨(aX h).1,(aX h).2.1⟩ h
theorem qS (h:Int) (w:World) (h1:-9223372036854775808≤h) (h2:h≤9223372036854775807) :
  Calls Try.prog 84 #[.int .i64 h] w fun e w'=>e=.returned (.tuple #[.int .i64 (eM h).1, .int .i64 (eM h).2.1, .int .i64 (eM h).2.2])∧w=w':=by
 by_cases c1:h<0
 ·have HE:=Hz (ki (.inl c1));go_enter Try.func84,Try.ntmps84;go_wp2_with fail
  go_ret3
  exact ⟨gV HE.out,rfl⟩
 by_cases c2:207<h
 ·have HE:=Hz (ki (.inr c2));go_enter Try.func84,Try.ntmps84;go_wp2_with fail
  go_ret3
  exact ⟨gV HE.out,rfl⟩
 have ha:=oC h;cases hf:aQ (h%16) (h/16)
 ·have HE:=Hz (lg hf);have hc:=(nN hf).2;have HF:=Hz hf;clear hf;go_enter Try.func84,Try.ntmps84;go_wp2_with fail;refine (oE (h%16) (h/16) _ (by omega) (by omega)).mono ?_;rintro e w' ⟨rfl,rfl⟩;go_wp2_with fail
  go_ret3
  exact ⟨gV HE.out,rfl⟩
 ·have HE:=Hz (nM hf);have HC:=Hz (nO hf);have HF:=Hz hf;clear hf;go_enter Try.func84,Try.ntmps84;go_wp2_with fail;refine (oE (h%16) (h/16) _ (by omega) (by omega)).mono ?_;rintro e w' ⟨rfl,rfl⟩;rw [HC.out];go_wp2_with fail
  go_ret3
  exact ⟨gV HE.out,rfl⟩
end
section
def dz (x:Int):Prop:=-9223372036854775808≤x∧x≤9223372036854775807
structure Ar where
 ws:List Int
 nur:Nat
 yng:Nat
 grn:Nat
structure Ar.ok (A:Ar):Prop where
 h1:A.yng≤A.nur
 h2:A.nur≤A.grn
 h3:A.grn≤A.ws.length
 h4:A.ws.length≤1280
 hw:∀ x ∈ A.ws,dz x
def Ar.aL (A:Ar) (i:Int):Bool:=decide (0≤i) && decide (i<A.yng)
def Ar.aV (A:Ar) (i:Int):Bool:=decide ((A.nur:Int)≤i) && decide (i<A.grn)
def Ar.dY (A:Ar) (i:Int):Bool:=A.aL i || A.aV i
def Ar.load (A:Ar) (i:Int):Int:=if A.dY i then A.ws.getD i.toNat 0 else 0
def Ar.store (A:Ar) (i x:Int):Ar:=if A.dY i then { A with ws:=A.ws.set i.toNat x } else A
def lay (l:List Int) (i:Nat) (m:List Int):List Int:=l.take i ++ m ++ l.drop (i+m.length)
def rP (k f:Int):List Int:=(16*f+k) :: List.replicate f.toNat 2
def Ar.make (A:Ar) (k f:Int):Int × Ar:=
 if aQ k f=true∧1+f≤(A.nur:Int)-A.yng then (A.yng, { A with yng:=A.yng+(1+f).toNat,ws:=lay A.ws A.yng (rP k f) }) else (-1,A)
def Ar.au (A:Ar) (i:Int):Int × Int × Int:=eM (A.load i)
def Ar.whole (A:Ar) (i n:Int):Bool:=(A.aL i && A.aL (i+n)) || (A.aV i && A.aV (i+n))
def Ar.copy (A:Ar) (i:Int):Int × Ar:=
 let n:=(A.au i).2.1
 if (A.au i).2.2=0∧A.whole i n=true∧1+n≤(A.ws.length:Int)-A.grn then
  (A.grn, { A with grn:=A.grn+(1+n).toNat,ws:=lay A.ws A.grn ((A.ws.drop i.toNat).take (1+n).toNat) })
 else (-1,A)
theorem Ar.ok.lV {A:Ar} (h:A.ok) {i:Int} (hy:A.aL i=true):0≤i∧i<A.ws.length:=by
 have:=h.h1;have:=h.h2;have:=h.h3;simp [Ar.aL] at hy;omega
theorem Ar.ok.oF {A:Ar} (h:A.ok) {i:Int} (hy:A.aV i=true):0≤i∧i<A.ws.length:=by
 have:=h.h3;simp [Ar.aV] at hy;omega
theorem Ar.ok.lW {A:Ar} (h:A.ok) {i:Int} (hy:A.dY i=true):0≤i∧i<A.ws.length:=by
 unfold Ar.dY at hy;rw [Bool.or_eq_true] at hy;rcases hy with hy | hy
 ·exact h.lV hy
 ·exact h.oF hy
theorem Ar.ok.load {A:Ar} (h:A.ok) (i:Int):dz (A.load i):=by
 unfold Ar.load;split
 ·rename_i hu;have:=h.lW hu;have hi:i.toNat<A.ws.length:=by omega
  rw [Ld,Le hi];exact h.hw _ (List.getElem_mem hi)
 ·unfold dz;omega
theorem Ar.ok.store {A:Ar} (h:A.ok) (i x:Int) (hx:dz x):(A.store i x).ok:=by
 unfold Ar.store;split
 ·refine ⟨h.h1,h.h2,by simpa using h.h3,by simpa using h.h4,fun y hy=>?_⟩;rcases List.mem_or_eq_of_mem_set hy with h1 | rfl
  ·exact h.hw y h1
  ·exact hx
 ·exact h
theorem Ar.oG {A:Ar} {i:Int} (h:(A.au i).2.2=0):A.dY i=true:=by
 cases hu:A.dY i
 ·have:A.load i=0:=by unfold Ar.load;rw [hu];simp
  unfold Ar.au at h;rw [this] at h;exact absurd h (by decide)
 ·rfl
theorem Ar.i4 (A:Ar) (i:Int):0≤(A.au i).2.1∧(A.au i).2.1≤12:=by
 unfold Ar.au eM;split
 ·rename_i h;have:=aX h;exact ⟨this.2.2.1,this.2.2.2⟩
 ·decide
def Ar.fits (n o:Int):Bool:=decide (16≤n) && decide (n≤256) && decide (0≤o) && decide (o≤1024)
def Ar.new (n o:Int):Ar:=⟨List.replicate (n+o).toNat 0,n.toNat,0,n.toNat⟩
theorem Ar.fY {n o:Int} (h:Ar.fits n o=true):(Ar.new n o).ok:=by
 simp [Ar.fits] at h;refine ⟨Nat.zero_le _,Nat.le_refl _,?_,?_,fun x hx=>?_⟩
 ·simp [Ar.new];omega
 ·simp [Ar.new];omega
 ·simp [Ar.new] at hx;unfold dz;omega
def Ar.list (A:Ar):Nat→Int→Int→List Int
 | 0,_,_=>[]
 | n+1,at_,e_=>if at_<e_ then (if (A.au at_).2.2=0 then at_ :: A.list n (at_+1+(A.au at_).2.1) e_ else []) else []
def Ar.oH (A:Ar):List Int × List Int:=(A.list 1300 0 A.yng,A.list 1300 A.nur A.grn)
end
section
open Go.RowKit
structure bP (w:World) (p g:Nat) (A:Ar):Prop where
 hp:ah w p [.slice (some ⟨g,0,none⟩) A.ws.length A.ws.length, .int .i64 A.nur, .int .i64 A.yng, .int .i64 A.grn] 120
 hg:ah w g (A.ws.map (Value.int .i64)) 2
 ok:A.ok
theorem bP.ne {w:World} {p g:Nat} {A:Ar} (h:bP w p g A):p≠g:=h.hp.ne h.hg (by decide)
theorem bP.ae {w w':World} {p g:Nat} {A:Ar} {S:Nat→Prop} (h:bP w p g A) (k:aa S w w') (h1:¬ S p) (h2:¬ S g):bP w' p g A:=
 ⟨k.ai h.hp h1,k.ai h.hg h2,h.ok⟩
theorem bP.cells {w:World} {p g:Nat} {A:Ar} (h:bP w p g A) :
  w.cell? ⟨p,0,none⟩=some (.slice (some ⟨g,0,none⟩) A.ws.length A.ws.length)∧w.cell? ⟨p,1,none⟩=some (.int .i64 A.nur)∧w.cell? ⟨p,2,none⟩=some (.int .i64 A.yng)∧w.cell? ⟨p,3,none⟩=some (.int .i64 A.grn):=
 ⟨h.hp.cell 0,h.hp.cell 1,h.hp.cell 2,h.hp.cell 3⟩
theorem bP.word {w:World} {p g:Nat} {A:Ar} (h:bP w p g A) (i:Nat) (hi:i<A.ws.length):w.cell? ⟨g,i,none⟩=some (.int .i64 (A.ws.getD i 0)):=by
 rw [h.hg.cell i,List.getElem?_map,Le hi];simp [List.getD,hi]
structure jz (w:World) (p g:Nat) (w':World) (A:Ar):Prop where
 at_:bP w' p g A
 k:aa (fun b=>b=p∨b=g) w w'
section
variable {p g:Nat} {A:Ar}
theorem eD (i:Int) (w:World) (h:bP w p g A) :
  Calls Try.prog 39 #[.pointer (some ⟨p,0,none⟩), .int .i64 i] w fun e w'=>e=.returned (.bool (A.aL i))∧w=w':=by
 obtain ⟨c0,c1,c2,c3⟩:=h.cells;have pl:=h.hp.lt;have HY:Hid (A.aL i=(decide (0≤i) && decide (i<A.yng))):=rfl;clear h c0 c1 c3;by_cases hi:0≤i
 ·have hd:decide (0≤i)=true:=by simpa using hi
  have HX:=Hz (show A.aL i=decide (i<(A.yng:Int)) by rw [HY.out,hd];rfl);clear HY;go_enter Try.func39,Try.ntmps39;go_wp2_with fail;go_ret;exact ⟨cW HX.out.symm,rfl⟩
 ·have hd:decide (0≤i)=false:=by simpa using hi
  have HX:=Hz (show A.aL i=false by rw [HY.out,hd];rfl);clear HY;go_enter Try.func39,Try.ntmps39;go_wp2_with fail;go_ret;exact ⟨cW HX.out.symm,rfl⟩
theorem jA (i:Int) (w:World) (h:bP w p g A) :
  Calls Try.prog 40 #[.pointer (some ⟨p,0,none⟩), .int .i64 i] w fun e w'=>e=.returned (.bool (A.aV i))∧w=w':=by
 obtain ⟨c0,c1,c2,c3⟩:=h.cells;have pl:=h.hp.lt;have HY:Hid (A.aV i=(decide ((A.nur:Int)≤i) && decide (i<A.grn))):=rfl;clear h c0 c2;by_cases hi:(A.nur:Int)≤i
 ·have hd:decide ((A.nur:Int)≤i)=true:=by simpa using hi
  have HX:=Hz (show A.aV i=decide (i<(A.grn:Int)) by rw [HY.out,hd];rfl);clear HY;go_enter Try.func40,Try.ntmps40;go_wp2_with fail;go_ret;exact ⟨cW HX.out.symm,rfl⟩
 ·have hd:decide ((A.nur:Int)≤i)=false:=by simpa using hi
  have HX:=Hz (show A.aV i=false by rw [HY.out,hd];rfl);clear HY;go_enter Try.func40,Try.ntmps40;go_wp2_with fail;go_ret;exact ⟨cW HX.out.symm,rfl⟩
theorem oI (i:Int) (w:World) (h:bP w p g A) :
  Calls Try.prog 37 #[.pointer (some ⟨p,0,none⟩), .int .i64 i] w fun e w'=>e=.returned (.int .i64 (A.load i))∧w=w':=by
 have H:=Hz h;obtain ⟨c0,-,-,-⟩:=h.cells;have pl:=h.hp.lt;have hok:=h.ok;cases hy:A.aL i
 ·cases ho:A.aV i
  ·have HX:=Hz (show A.load i=0 by unfold Ar.load Ar.dY;rw [hy,ho];rfl);clear h c0;go_enter Try.func37,Try.ntmps37;go_wp2_with fail;refine (eD i _ H.out).mono ?_;rintro e w1 ⟨rfl,rfl⟩;rw [hy];go_wp2_with fail;refine (jA i _ H.out).mono ?_;rintro e w1 ⟨rfl,rfl⟩;rw [ho];go_wp2_with fail;go_ret;exact ⟨ij HX.out.symm,rfl⟩
  ·have hlt:=h.ok.oF ho;have HX:=Hz (show A.load i=A.ws.getD i.toNat 0 by unfold Ar.load Ar.dY;rw [hy,ho];rfl);obtain ⟨n,rfl⟩:∃ n:Nat,i=n:=⟨i.toNat,by omega⟩;have c4:=h.word n (by omega);have hlt2:(n:Int)<A.ws.length:=hlt.2;clear h hlt;go_enter Try.func37,Try.ntmps37;go_wp2_with fail;refine (eD n _ H.out).mono ?_;rintro e w1 ⟨rfl,rfl⟩;rw [hy];go_wp2_with fail;refine (jA n _ H.out).mono ?_;rintro e w1 ⟨rfl,rfl⟩;rw [ho];go_wp2_with fail;go_ret;exact ⟨ij (by rw [HX.out];simp),rfl⟩
 ·have hlt:=h.ok.lV hy;have HX:=Hz (show A.load i=A.ws.getD i.toNat 0 by unfold Ar.load Ar.dY;rw [hy];rfl);obtain ⟨n,rfl⟩:∃ n:Nat,i=n:=⟨i.toNat,by omega⟩;have c4:=h.word n (by omega);have hlt2:(n:Int)<A.ws.length:=hlt.2;clear h hlt;go_enter Try.func37,Try.ntmps37;go_wp2_with fail;refine (eD n _ H.out).mono ?_;rintro e w1 ⟨rfl,rfl⟩;rw [hy];go_wp2_with fail;go_ret;exact ⟨ij (by rw [HX.out];simp),rfl⟩
theorem bP.set {w:World} (h:bP w p g A) {n:Nat} (x:Int) (hx:dz x) (hu:A.dY n=true):jz w p g (w.setCell ⟨g,n,none⟩ (.int .i64 x)) (A.store n x):=by
 have hs:A.store n x={ A with ws:=A.ws.set n x }:=by unfold Ar.store;rw [hu];simp
 refine ⟨⟨?_,?_,h.ok.store _ _ hx⟩,(aa.refl _ _).setCell (.inl (.inr rfl)) _⟩
 ·have:=h.hp.cA (a:=⟨g,n,none⟩) h.ne (.int .i64 x);rw [hs];simpa using this
 ·have:=h.hg.aF n (.int .i64 x);rw [hs,List.map_set];exact this
theorem qT (i x:Int) (w:World) (h:bP w p g A) (hx:dz x) :
  Calls Try.prog 17 #[.pointer (some ⟨p,0,none⟩), .int .i64 i, .int .i64 x] w fun e w'=>e=.returned (.bool (A.dY i))∧jz w p g w' (A.store i x):=by
 have H:=Hz h;obtain ⟨c0,-,-,-⟩:=h.cells;have pl:=h.hp.lt;have HX:=Hz hx;clear hx;cases hu:A.dY i
 ·have hyo:=hu;unfold Ar.dY at hyo;rw [Bool.or_eq_false_iff] at hyo;obtain ⟨hy,ho⟩:=hyo;have HE:=Hz (show A.store i x=A by unfold Ar.store;rw [hu];rfl);clear h hu;go_enter Try.func17,Try.ntmps17;go_wp2_with fail;refine (eD i _ H.out).mono ?_;rintro e w1 ⟨rfl,rfl⟩;rw [hy];go_wp2_with fail;refine (jA i _ H.out).mono ?_;rintro e w1 ⟨rfl,rfl⟩;rw [ho];go_wp2_with fail;go_ret;exact ⟨rfl,by rw [HE.out];exact H.out,aa.refl _ _⟩
 ·have hlt:=h.ok.lW hu;have HU:=Hz hu;obtain ⟨n,rfl⟩:∃ n:Nat,i=n:=⟨i.toNat,by omega⟩;have c4:=h.word n (by omega);have f4:=h.hg.free n;have hlt2:(n:Int)<A.ws.length:=hlt.2;clear h hlt;cases hy:A.aL n
  ·have ho:A.aV n=true:=by
    unfold Ar.dY at hu;rw [hy] at hu;simpa using hu
   clear hu;go_enter Try.func17,Try.ntmps17;go_wp2_with fail;refine (eD n _ H.out).mono ?_;rintro e w1 ⟨rfl,rfl⟩;rw [hy];go_wp2_with fail;refine (jA n _ H.out).mono ?_;rintro e w1 ⟨rfl,rfl⟩;rw [ho];go_wp2_with fail;go_ret;exact ⟨rfl,H.out.set x HX.out HU.out⟩
  ·clear hu;go_enter Try.func17,Try.ntmps17;go_wp2_with fail;refine (eD n _ H.out).mono ?_;rintro e w1 ⟨rfl,rfl⟩;rw [hy];go_wp2_with fail;go_ret;exact ⟨rfl,H.out.set x HX.out HU.out⟩
theorem m5 (i:Int) (w:World) (h:bP w p g A) :
  Calls Try.prog 32 #[.pointer (some ⟨p,0,none⟩), .int .i64 i] w fun e w'=>e=.returned (.tuple #[.int .i64 (A.au i).1, .int .i64 (A.au i).2.1, .int .i64 (A.au i).2.2])∧w=w':=by
 go_enter Try.func32,Try.ntmps32;go_wp2_with fail;refine (oI i _ h).mono ?_;rintro e w1 ⟨rfl,rfl⟩;have hr:=h.ok.load i;go_wp2_with fail;refine (qS (A.load i) _ hr.1 hr.2).mono ?_;rintro e w1 ⟨rfl,rfl⟩;go_wp2_with fail
 go_ret3
 exact ⟨rfl,rfl⟩
end
end
section
open Go.RowKit
theorem oJ {P:Program} {w:World} {o:Oper} {a:Act} {K:Act→World→Prop} (d s:Operand) (t:TypeId)
  (ho:o.op=.call { callee:=.builtin .copy,args:=#[d,s],argTypes:=#[t,t] })
  (e:TypeId) (hu:P.underlying t=some (.slice e)) (hsz:(P.info? e).map (·.size)=some 1)
  (g off dLen dCap:Nat) (ad:Addr) (sLen sCap:Nat) (hd:a.eval d=.slice (some ⟨g,off,none⟩) dLen dCap) (hs:a.eval s=.slice (some ad) sLen sCap)
  (cur:List Value) (hb:ah w g cur e) (cs:List Value) (hn:cs.length=Nat.min sLen dLen)
  (hsrc:∀ j v,cs[j]? = some v→w.cell? (ad.add j)=some v) (hfit:off+cs.length≤cur.length) (h1:∀ v ∈ cs,v.oneCell'=true)
  (h:K (a.put o.dst (goInt cs.length)) (w.setRow g (cur.take off ++ cs ++ cur.drop (off+cs.length)).toArray)):aM P o a w K:=by
 have hrun:=run_copy_row (P:=P) w t t o.type e g off dLen dCap ad sLen sCap cur.toArray e cs hu hsz hb hn hsrc (by simpa using hfit) h1;unfold aM execOp;simp only [ho,resolve,invoke,builtin,Sem.run_bind,Sem.run_pure,Result.andThen_ok,List.map_toArray,List.map_cons,List.map_nil,hd,hs,hrun];exact h
section
variable {p g:Nat} {A:Ar}
end
end
section
open Go.RowKit
theorem lX:(Try.prog.info? 2).map (fun i=>(i.zero,i.size,i.bytes))=some (some (.int .i64 0),1,8):=by kernel_rfl
theorem iC:(Try.prog.info? 3).map (fun i=>(i.zero,i.size,i.bytes))=some (some (.int .i64 0),1,8):=by kernel_rfl
theorem cF {k:Nat} (h:ag (.slice none 0 0) k):False:=by simp [ag,Value.ownBlock] at h
def pK (w:World) (n o:Int) (e:Ending) (w':World):Prop:=
 ∃ p g,e=.returned (.tuple #[.pointer (some ⟨p,0,none⟩), .agg #[.int .i64 0, .int .i64 0]])∧bP w' p g (Ar.new n o)∧aa (fun _=>False) w w'∧w.heap.size≤p∧w.heap.size≤g
section
variable {p g:Nat} {A:Ar}
theorem qU (n o:Int) (w:World) (h:Ar.fits n o=false) :
  Calls Try.prog 15 #[.int .i64 n, .int .i64 o] w fun e w'=>e=.returned (.tuple #[.pointer none, .agg #[.int .i64 1, .int .i64 (-1)]])∧aa (fun _=>False) w w':=by
 have hc:n<16∨256<n∨o<0∨1024<o:=by
  by_cases h1:16≤n
  ·by_cases h2:n≤256
   ·by_cases h3:0≤o
    ·by_cases h4:o≤1024
     ·simp [Ar.fits,h1,h2,h3,h4] at h
     ·omega
    ·omega
   ·omega
  ·omega
 clear h;by_cases c1:n<16
 ·have d1:decide (n<16)=true:=by simpa using c1
  go_enter Try.func15,Try.ntmps15;go_wp2_with fail;exact bodyPost_ret (v:=.tuple #[.pointer none, .agg #[.int .i64 1, .int .i64 (-1)]]) (by simp [results,Try.results15,go_sem]) rfl ⟨rfl,((aa.refl _ _).alloc _)⟩
 have d1:decide (n<16)=false:=by simpa using c1
 by_cases c2:256<n
 ·have d2:decide (256<n)=true:=by simpa using c2
  go_enter Try.func15,Try.ntmps15;go_wp2_with fail;exact bodyPost_ret (v:=.tuple #[.pointer none, .agg #[.int .i64 1, .int .i64 (-1)]]) (by simp [results,Try.results15,go_sem]) rfl ⟨rfl,((aa.refl _ _).alloc _)⟩
 have d2:decide (256<n)=false:=by simpa using c2
 by_cases c3:o<0
 ·have d3:decide (o<0)=true:=by simpa using c3
  go_enter Try.func15,Try.ntmps15;go_wp2_with fail;exact bodyPost_ret (v:=.tuple #[.pointer none, .agg #[.int .i64 1, .int .i64 (-1)]]) (by simp [results,Try.results15,go_sem]) rfl ⟨rfl,((aa.refl _ _).alloc _)⟩
 have d3:decide (o<0)=false:=by simpa using c3
 have d4:decide (1024<o)=true:=by simp;omega
 go_enter Try.func15,Try.ntmps15;go_wp2_with fail;exact bodyPost_ret (v:=.tuple #[.pointer none, .agg #[.int .i64 1, .int .i64 (-1)]]) (by simp [results,Try.results15,go_sem]) rfl ⟨rfl,((aa.refl _ _).alloc _)⟩
theorem pL (n o:Int) (w:World) (h:Ar.fits n o=true) :
  Calls Try.prog 15 #[.int .i64 n, .int .i64 o] w fun e w'=>pK w n o e w':=by
 have HOK:=Hz (Ar.fY h);simp [Ar.fits] at h;obtain ⟨⟨⟨h1,h2⟩,h3⟩,h4⟩:=h;obtain ⟨a,rfl⟩:∃ a:Nat,n=a:=⟨n.toNat,by omega⟩;obtain ⟨b,rfl⟩:∃ b:Nat,o=b:=⟨o.toNat,by omega⟩;have d1:decide ((a:Int)<16)=false:=by simp;omega
 have d2:decide (256<(a:Int))=false:=by simp;omega
 have d3:decide ((b:Int)<0)=false:=by simp
 have d4:decide (1024<(b:Int))=false:=by simp;omega
 obtain ⟨i0,hi,hz0,hz1,hz2⟩:=info_parts lX;have hmk:=fun (wx:World)=>cR (P:=Try.prog) wx 22 2 i0 (.int .i64 0) Try.underlying22 hi hz0 rfl hz1 (a+b) (by rw [hz2];omega) (by omega);have hcast:((a+b:Nat):Int)=(a:Int)+(b:Int):=by omega
 simp only [hcast] at hmk;have HNEW:=Hz (show Ar.new a b=⟨List.replicate (a+b) 0,a,0,a⟩ by unfold Ar.new;congr 1);clear hi hz0 hz1 hz2 hcast;go_enter Try.func15,Try.ntmps15;go_wp2_with fail;refine bodyPost_ret (v:=.tuple #[.pointer (some ⟨w.heap.size+2,0,none⟩), .agg #[.int .i64 0, .int .i64 0]]) (by simp [results,Try.results15,go_sem]) rfl ⟨w.heap.size+2,w.heap.size+1,rfl,?_,(((aa.refl _ _).alloc _).alloc _).alloc _,by omega,by omega⟩;have hok:=HOK.out;rw [HNEW.out] at hok ⊢;refine ⟨?_,?_,hok⟩
 ·refine ah.newAt _ (by simp) ?_;simp
 ·refine (ah.newAt _ (by simp) ?_).alloc _;simp
end
end
section
def cq (base:Int) (n:Nat) (at_:Int):Int:=if base≤at_∧(at_-base)/8<n then (at_-base)/8 else -1
def gW (base:Int) (l:List Bool) (at_:Int):List Bool:=if 0≤cq base l.length at_ then l.set (cq base l.length at_).toNat true else l
theorem lY (base:Int) (l:List Bool) (at_:Int):(gW base l at_).length=l.length:=by unfold gW;split <;> simp
theorem oK {base:Int} {n:Nat} {at_:Int} (h:0≤cq base n at_):(cq base n at_).toNat<n:=by
 unfold cq at *;split at h
 ·rename_i c;rw [if_pos c];omega
 ·omega
def fm (words:Int):Nat:=((max words 0+7)/8).toNat
end
section
open Go.RowKit
structure cU (w:World) (p q:Nat) (base:Int) (l:List Bool):Prop where
 hp:ah w p [.int .i64 base, .slice (some ⟨q,0,none⟩) l.length l.length] 140
 hq:ah w q (l.map Value.bool) 4
theorem cU.ne {w:World} {p q:Nat} {base:Int} {l:List Bool} (h:cU w p q base l):p≠q:=h.hp.ne h.hq (by decide)
theorem cU.ae {w w':World} {p q:Nat} {base:Int} {l:List Bool} {S:Nat→Prop} (h:cU w p q base l) (k:aa S w w') (h1:¬ S p) (h2:¬ S q):cU w' p q base l:=
 ⟨k.ai h.hp h1,k.ai h.hq h2⟩
theorem rQ (p q:Nat) (base at_:Int) (l:List Bool) (w:World) (h:cU w p q base l)
  (hb:0≤base) (hb2:base≤1000000) (ha:-9223372036854775808≤at_) (ha2:at_≤9223372036854775807) (hl:l.length≤1000000) :
  Calls Try.prog 124 #[.pointer (some ⟨p,0,none⟩), .int .i64 at_] w fun e w'=>e=.returned (.int .i64 (cq base l.length at_))∧w=w':=by
 have h0:w.cell? ⟨p,0,none⟩=some (.int .i64 base):=h.hp.cell 0;have h1:w.cell? ⟨p,1,none⟩=some (.slice (some ⟨q,0,none⟩) l.length l.length):=h.hp.cell 1;clear h;generalize hn:l.length=n at *;clear hn;by_cases c1:base≤at_
 ·by_cases c2:(at_-base)/8<n
  ·have hv:cq base n at_=(at_-base)/8:=by simp [cq,c1,c2]
   rw [hv];clear hv;go_enter Try.func124,Try.ntmps124
   go_wp2
   go_ret;exact ⟨rfl,rfl⟩
  ·have hv:cq base n at_=-1:=by simp [cq,c2]
   rw [hv];clear hv;go_enter Try.func124,Try.ntmps124
   go_wp2
   go_ret;exact ⟨rfl,rfl⟩
 ·have hv:cq base n at_=-1:=by simp [cq,c1]
  rw [hv];clear hv;go_enter Try.func124,Try.ntmps124
  go_wp2
  go_ret;exact ⟨rfl,rfl⟩
theorem rR (p q:Nat) (base at_:Int) (l:List Bool) (w:World) (h:cU w p q base l)
  (hb:0≤base) (hb2:base≤1000000) (ha:-9223372036854775808≤at_) (ha2:at_≤9223372036854775807) (hl:l.length≤1000000) :
  Calls Try.prog 90 #[.pointer (some ⟨p,0,none⟩), .int .i64 at_] w fun e w'=>e=.returned (.bool (decide (0≤cq base l.length at_))) ∧
   cU w' p q base (gW base l at_)∧aa (·=q) w w':=by
 have H:=rQ p q base at_ l w h hb hb2 ha ha2 hl;have h1:w.cell? ⟨p,1,none⟩=some (.slice (some ⟨q,0,none⟩) l.length l.length):=h.hp.cell 1;have HM:Hid (gW base l at_=if 0≤cq base l.length at_ then l.set (cq base l.length at_).toNat true else l):=rfl;have HL:0≤cq base l.length at_→(cq base l.length at_).toNat<l.length:=oK;have hup:cq base l.length at_≤1000000:=by unfold cq;split <;> omega
 generalize gW base l at_=l' at *;generalize cq base l.length at_=k at *;have HH:=Hz H;clear H;have HC:=Hz h;clear h;by_cases c:0≤k
 ·obtain ⟨k,rfl⟩:=Int.eq_ofNat_of_zero_le c;have hk:=HL c;simp only [Int.toNat_natCast] at hk HM;have hq:w.cell? ⟨q,k,none⟩=some (.bool (l.getD k false)):=by rw [HC.out.hq.cell];simp [List.getD,hk]
  have hf:w.frozen? ⟨q,k,none⟩=false:=HC.out.hq.free _;go_enter Try.func90,Try.ntmps90;go_wp2_with (go_at_call 124;refine HH.out.mono ?_;rintro e w' ⟨rfl,rfl⟩);go_ret;have hm:=HM.out;simp at hm;subst hm;refine ⟨rfl,⟨?_,?_⟩,(aa.refl (·=q) w).setCell (p:=⟨q,k,none⟩) (.inl rfl) _⟩
  ·simpa using HC.out.hp.cA (a:=⟨q,k,none⟩) HC.out.ne (.bool true)
  ·simpa [List.map_set] using HC.out.hq.aF k (.bool true)
 ·have hd:decide (0≤k)=false:=by simpa using c
  go_enter Try.func90,Try.ntmps90;go_wp2_with (go_at_call 124;refine HH.out.mono ?_;rintro e w' ⟨rfl,rfl⟩);go_ret;have hm:=HM.out;rw [if_neg (by omega)] at hm;subst hm;exact ⟨rM (by show Value.bool false=_;rw [hd]),HC.out,aa.refl _ _⟩
theorem gX:(Try.prog.info? 4).map (fun i=>(i.zero,i.size,i.bytes))=some (some (.bool false),1,1):=by kernel_rfl
theorem sL (base words:Int) (w:World) (hw:words≤1000000) (hw2:-9223372036854775808≤words) :
  Calls Try.prog 88 #[.int .i64 base, .int .i64 words] w fun e w'=>e=.returned (.pointer (some ⟨w.heap.size+1,0,none⟩)) ∧
   cU w' (w.heap.size+1) w.heap.size base (List.replicate (fm words) false)∧w'.heap.size=w.heap.size+2∧aa (fun _=>False) w w':=by
 obtain ⟨i0,hi,hz0,hz1,hz2⟩:=info_parts gX;have HN:Hid (fm words=((max words 0+7)/8).toNat):=rfl;have hmk:=fun (wx:World) (n:Nat) (h1:n≤9223372036854775807) (h2:n≤281474976710656)=>cR (P:=Try.prog) wx 76 4 i0 (.bool false) Try.underlying76 hi hz0 rfl hz1 n (by rw [hz2];omega) h1;have Hi:=Hz hi;clear hi hz0 hz1 hz2;have HM:=Hz hmk;clear hmk;by_cases c:0≤words
 ·have hm:(fm words:Int)=(words+8-1)/8:=by rw [HN.out];omega
  have hk:=fun (wx:World)=>HM.out wx (fm words) (by omega) (by omega);have h2:max words 0=words:=by omega
  rw [hm] at hk;have Hm:=Hz hm;clear hm;generalize hn:fm words=n at *;clear hn;go_enter Try.func88,Try.ntmps88
  go_wp2
  go_ret;exact ⟨rfl,⟨.newAt _ (by simp) (by simp),(ah.newAt _ rfl (by simp)).alloc _⟩,by simp,((aa.refl _ _).alloc _).alloc _⟩
 ·have hm:fm words=0:=by rw [HN.out];omega
  have hk:∀ wx:World,(Instr.makeSlice 76 (.int .i64 0) (.int .i64 0)).run Try.prog wx=.ok (.slice (some ⟨wx.heap.size,0,none⟩) 0 0) (wx.alloc (.cells #[] 4)):=fun wx=>by simpa using HM.out wx 0 (by omega) (by omega)
  have h2:max words 0=0:=by omega
  rw [hm];have Hm:=Hz hm;clear hm;go_enter Try.func88,Try.ntmps88
  go_wp2
  go_ret;exact ⟨rfl,⟨.newAt _ (by simp) (by simp),(ah.newAt _ rfl (by simp)).alloc _⟩,by simp,((aa.refl _ _).alloc _).alloc _⟩
end
section
open Go.RowKit
def aC (l:List (Int × Int)):List Value:=l.flatMap fun e=>[.int .i64 e.1, .int .i64 e.2]
theorem bU (l:List (Int × Int)):(aC l).length=l.length*2:=by
 induction l with
 | nil=>rfl
 | cons e l ih=>simp [aC] at ih ⊢;omega
structure cC (w:World) (p:Nat) (rv wv:Value) (regs wait:List (Int × Int)):Prop where
 hp:ah w p [rv,wv] 129
 hr:Sl w 170 2 rv regs.length (aC regs)
 hw:Sl w 170 2 wv wait.length (aC wait)
 ap:∀ k,¬ (ag rv k∧ag wv k)
def aR (p:Nat) (rv wv:Value) (k:Nat):Prop:=k=p∨ag rv k∨ag wv k
theorem cC.lJ {w:World} {p:Nat} {rv wv:Value} {regs wait:List (Int × Int)} (h:cC w p rv wv regs wait) {k:Nat} (hk:aR p rv wv k):k<w.heap.size:=by
 rcases hk with rfl | hk | hk
 ·exact h.hp.lt
 ·exact (h.hr.own hk).1
 ·exact (h.hw.own hk).1
theorem cC.ae {w w':World} {p:Nat} {rv wv:Value} {regs wait:List (Int × Int)} {S:Nat→Prop} (h:cC w p rv wv regs wait) (k:aa S w w') (hn:∀ b,aR p rv wv b→¬ S b):cC w' p rv wv regs wait:=
 ⟨k.ai h.hp (hn p (.inl rfl)),h.hr.ae k (fun g hg=>hn g (.inr (.inl hg))),h.hw.ae k (fun g hg=>hn g (.inr (.inr hg))),h.ap⟩
theorem gw:(Try.prog.info? 170).map (fun i=>(i.zero,i.size,i.bytes))=some (some (.agg #[.int .i64 0, .int .i64 0]),2,16):=by kernel_rfl
end
section
open Go.RowKit
theorem jP:∀ (l:List (Int × Int)) (i:Nat),i<l.length→(aC l)[i*2]? = some (.int .i64 (l.getD i (0,0)).1)∧(aC l)[i*2+1]? = some (.int .i64 (l.getD i (0,0)).2)
 | e :: l,0,_=>by simp [aC]
 | e :: l,i+1,h=>by
  have ih:=jP l i (by simpa using h);have h1:(i+1)*2=i*2+1+1:=by omega
  have h2:(i+1)*2+1=i*2+1+1+1:=by omega
  have e0:aC (e :: l)=.int .i64 e.1 :: .int .i64 e.2 :: aC l:=by simp [aC]
  rw [h2,h1,e0];simpa using ih
theorem Rd.dA {w:World} {ao:Option Addr} {l:List (Int × Int)} (h:Rd w ao (aC l)) (i:Nat) (hi:i<l.length) :
  ∃ g o,ao=some ⟨g,o,none⟩∧g<w.heap.size∧w.cell? ⟨g,o+i*2,none⟩=some (.int .i64 (l.getD i (0,0)).1)∧w.cell? ⟨g,o+i*2+1,none⟩=some (.int .i64 (l.getD i (0,0)).2):=by
 have hl:=bU l;obtain ⟨g,o,rfl,hg,hc⟩:=h (by intro e;rw [e] at hl;simp at hl;omega);have hi2:=jP l i hi;refine ⟨g,o,rfl,hg,?_,?_⟩
 ·rw [hc _ (by omega)];exact hi2.1
 ·rw [show o+i*2+1=o+(i*2+1) by omega,hc _ (by omega)];exact hi2.2
theorem oL (b:Nat) (x g t:Int) (w:World) (h:w.cell? ⟨b,0,none⟩=some (.int .i64 x)) (hb:b<w.heap.size) :
  Calls Try.prog 159 #[.agg #[.int .i64 g, .int .i64 t], .pointer (some ⟨b,0,none⟩)] w fun e w'=>e=.returned (.bool (g == x))∧aa (fun _=>False) w w':=by
 go_enter Try.func159,Try.ntmps159
 go_wp2
 go_ret;exact ⟨rfl,(aa.refl _ _).alloc _⟩
def findG (x:Int):List (Int × Int)→Nat
 | []=>0
 | e :: l=>if e.1=x then 0 else findG x l+1
def jQ (x:Int) (l:List (Int × Int)):Int:=if findG x l<l.length then (findG x l:Int) else -1
theorem kj {x:Int}:∀ {l:List (Int × Int)} {k:Nat},k<l.length→(∀ j,j<k→(l.getD j (0,0)).1≠x)→(l.getD k (0,0)).1=x→findG x l=k
 | e :: l,0,_,_,h=>by simp at h;simp [findG,h]
 | e :: l,k+1,hk,hj,h=>by
  have h0:=hj 0 (by omega);simp at h0;simp only [findG,h0,if_false];rw [kj (k:=k) (by simpa using hk) (fun j hjk=>by simpa using hj (j+1) (by omega)) (by simpa using h)]
theorem kl {x:Int}:∀ {l:List (Int × Int)},(∀ j,j<l.length→(l.getD j (0,0)).1≠x)→findG x l=l.length
 | [],_=>rfl
 | e :: l,h=>by
  have h0:=h 0 (by simp);simp at h0;simp only [findG,h0,if_false];rw [kl (fun j hj=>by simpa using h (j+1) (by simpa using hj))];rfl
theorem jG (ao:Option Addr) (cap b:Nat) (x:Int) (l:List (Int × Int)) (w:World) (h:Rd w ao (aC l)) (hc:w.cell? ⟨b,0,none⟩=some (.int .i64 x)) (hl:l.length≤9223372036854775806) (hb:b<w.heap.size) :
  Calls Try.prog 158 #[.slice ao l.length cap, .func (.func 159) #[] #[.pointer (some ⟨b,0,none⟩)]] w fun e w'=>
   e=.returned (.int .i64 (jQ x l))∧aa (fun _=>False) w w':=by
 have HR:=Hz h;have HB:=Hz hc;clear h hc;go_enter Try.func158,Try.ntmps158;go_wp2_with fail;go_loopw [8] (fun i wr=>∃ k:Nat,k≤l.length∧i=.int .i64 k∧Hid (∀ j,j<k→(l.getD j (0,0)).1≠x)∧aa (fun _=>False) w wr) (fun i _=>l.length-(intOf i).toNat)
 case atStart=>exact ⟨0,Nat.zero_le _,rfl,(fun j hj=>by omega),aa.refl _ _⟩
 case round=>
  obtain ⟨k,hk,rfl,hno,hkk⟩:=hrel;have HK:=Hz hkk;clear hkk;by_cases hlt:k<l.length
  ·obtain ⟨g,o,rfl,_,hc0,hc1⟩:=(HR.out.ae HK.out (fun _ _ _ h=>h)).dA k hlt;have hbb:wr.cell? ⟨b,0,none⟩=some (.int .i64 x):=by
    rw [←HB.out];exact World.cell?_of_block (w:=w) (a:=⟨b,0,none⟩) (HK.out.block b hb (fun h=>h))
   have hbs:b<wr.heap.size:=Nat.lt_of_lt_of_le hb HK.out.size;generalize hv:l.getD k (0,0)=v at *;have HV:=Hz hv;clear hv;cases he:(v.1 == x)
   ·go_wp2_with (go_at_call 159;refine (oL b x v.1 v.2 _ hbb hbs).mono ?_;rintro e w2 ⟨rfl,hk2⟩);go_roundw
    case rel=>exact ⟨k+1,by omega,by go_num,fun j hj=>by
     by_cases e:j=k
     ·subst e;rw [HV.out];simpa using he
     ·exact hno.out j (by omega),HK.out.trans hk2⟩
    case measure=>simp [intOf];omega
   ·have HE:=Hz (kj hlt hno.out (by rw [HV.out];simpa using he));go_wp2_with (go_at_call 159;refine (oL b x v.1 v.2 _ hbb hbs).mono ?_;rintro e w2 ⟨rfl,hk2⟩);go_ret;exact ⟨ij (by unfold jQ;rw [HE.out,if_pos hlt]),HK.out.trans hk2⟩
  ·obtain rfl:k=l.length:=by omega
   have HE:=Hz (kl hno.out);go_wp2_with fail;go_ret;exact ⟨ij (by unfold jQ;rw [HE.out,if_neg (by omega)]),HK.out⟩
theorem jR {l:List (Int × Int)} {u:Value} (h:u ∈ aC l):u.oneCell'=true:=by
 simp only [aC,List.mem_flatMap] at h;obtain ⟨e,_,he⟩:=h;simp at he;rcases he with rfl | rfl <;> rfl
theorem eo (e:Int × Int) (l:List (Int × Int)):aC (e :: l)=.int .i64 e.1 :: .int .i64 e.2 :: aC l:=by simp [aC]
theorem iD:∀ {l:List (Int × Int)} {i:Nat},i<l.length→aC (l.eraseIdx i)=(aC l).take (i*2) ++ (aC l).drop ((i+1)*2)
 | e :: l,0,_=>by simp [eo]
 | e :: l,i+1,h=>by
  have ih:=iD (l:=l) (i:=i) (by simpa using h);have e1:(i+1)*2=i*2+1+1:=by omega
  have e2:(i+1+1)*2=i*2+1+1+1+1:=by omega
  rw [List.eraseIdx_cons_succ,eo,eo,ih,e2,e1]
  rfl
theorem m6 {cur news rest:List Value} {o k j:Nat} (hk:o+k≤cur.length) (hj:j=k+news.length) (tail:List Value) :
  (((cur.take (o+k) ++ news ++ tail).take (o+j) ++ rest).drop o).take j=(cur.drop o).take k ++ news:=by
 subst hj;have h1:(cur.take (o+k) ++ news ++ tail).take (o+(k+news.length))=cur.take (o+k) ++ news:=by
  apply List.take_left';simp;omega
 rw [h1,List.append_assoc,List.drop_append_of_le_length (by simp;omega),List.drop_take,show o+k-o=k by omega,←List.append_assoc];apply List.take_left';simp;omega
theorem pM (g o cap i m:Nat) (l:List (Int × Int)) (cur:List Value) (w:World) (hb:ah w g cur 170) (hn:l.length=i+1+m) (hcap:i+1+m≤cap) (hcm:cap≤9223372036854775807) (hoc:o+cap*2≤cur.length)
  (hx:(cur.drop o).take (l.length*2)=aC l) :
  Calls Try.prog 160 #[.slice (some ⟨g,o,none⟩) (i+1+m) cap, .int .i64 i, .int .i64 ((i:Int)+1)] w fun e w'=>
   e=.returned (.slice (some ⟨g,o,none⟩) (i+m) cap)∧Sl w' 170 2 (.slice (some ⟨g,o,none⟩) (i+m) cap) (i+m) (aC (l.eraseIdx i))∧aa (·=g) w w':=by
 obtain ⟨i0,hi0,hz0,hz1,hz2⟩:=info_parts gw;have Hi:=Hz hi0;have Hz1:=Hz hz1;clear hi0 hz0 hz1 hz2;have HX:=Hz hx;have HB:=Hz hb;have HN:=Hz hn;clear hx hb hn;have hne:((i:Int) == (i:Int)+1)=false:=by simp;omega
 have b1:(0:Int)≤(i:Int)+1:=by omega
 have b2:(i:Int)+1≤((i+1+m:Nat):Int):=by omega
 have b3:(i:Int)+1≤(i:Int)+1+(m:Int):=by omega
 have b4:(i:Int)≤(cap:Int):=by omega
 have b5:(i:Int)≤(i:Int)+1:=by omega
 by_cases hcc:cap=i+1
 ·have hif:(if cap=i+1 then some (⟨g,o,none⟩:Addr) else some ⟨g,o+(i+1)*2,none⟩)=some ⟨g,o,none⟩:=if_pos hcc;have hif2:(if cap=i+m then some (⟨g,o,none⟩:Addr) else some ⟨g,o+(i+m)*2,none⟩)=some ⟨g,o+(i+m)*2,none⟩:=if_neg (by omega);have HCC:=Hz hcc;clear hcc;have hm0:m≤0:=by have:=HCC.out;omega
  go_enter Try.func160,Try.ntmps160;go_wp2_with fail;refine cI [(0,0),(1,0),(2,0),(3,0),(4,0),(5,0),(6,1),(7,0)] (fun _=>True) (by kernel_rfl) (by kernel_rfl) trivial ?_
  iterate 6 (refine bj rfl rfl _ (fun w' hG=>by obtain ⟨_⟩:=hG;go_simp;exact bA.mk _ _) (fun K hK=>?_);go_simp;refine hK _ ?_;clear hK K)
  refine bF rfl rfl (fun K hK=>?_);refine iX (.tmp 22) (.tmp 25) 127 rfl 170 i0 2 Try.underlying127 Hi.out Hz1.out g o i cap cur rfl HB.out ⟨g,o,none⟩ m (cap-(i+1)) ((aC l).drop ((i+1)*2)) ?hxq ?hlq ?hnq ?h1q ?hrq hoc ?hkq
  case hxq=>rfl
  case hlq=>rw [List.length_drop,bU,HN.out];omega
  case hnq=>
   intro j u hu;have hj:=(List.getElem?_eq_some_iff.1 hu).1;rw [List.length_drop,bU,HN.out] at hj;omega
  case h1q=>intro u hu;exact jR (List.mem_of_mem_drop hu)
  case hrq=>omega
  case hkq=>
   refine hK _ _ trivial ?_;clear hK K;have hb1:ah (w.drew.setRow g (cur.take (o+i*2) ++ (aC l).drop ((i+1)*2) ++ cur.drop (o+i*2+((aC l).drop ((i+1)*2)).length)).toArray) g _ 170:=ah.setRow (w:=w.drew) HB.out _;have hk1:aa (·=g) w (w.drew.setRow g (cur.take (o+i*2) ++ (aC l).drop ((i+1)*2) ++ cur.drop (o+i*2+((aC l).drop ((i+1)*2)).length)).toArray):=((aa.refl (·=g) w).drew).setRow (g:=g) (.inl rfl) _;generalize hc1:cur.take (o+i*2) ++ (aC l).drop ((i+1)*2) ++ cur.drop (o+i*2+((aC l).drop ((i+1)*2)).length)=c1 at *;generalize w.drew.setRow g _=w1 at *;have hln:((aC l).drop ((i+1)*2)).length=m*2:=by rw [List.length_drop,bU,HN.out];omega
   have hl1:c1.length=cur.length:=by
    rw [←hc1];simp only [List.length_append,List.length_take,List.length_drop,hln];simp at hln;omega
   obtain ⟨zs,hzl,hclr⟩:=iZ (P:=Try.prog) w1 127 0 170 (.agg #[.int .i64 0, .int .i64 0]) Try.underlying127 (by intro w;kernel_rfl) (by intro u hu;simp [Value.cells] at hu;subst hu;rfl) (by decide) g (o+(i+m)*2) (i+1+m-(i+m)) (cap-(i+m)) _ hb1 (by rw [hl1];show o+(i+m)*2+(i+1+m-(i+m))*2≤_;omega);generalize hc2:c1.take (o+(i+m)*2) ++ zs ++ c1.drop (o+(i+m)*2+zs.length)=c2 at *;have HB2:=Hz (hb1.setRow c2);have HK2:=Hz (hk1.setRow (g:=g) (.inl rfl) c2.toArray);have HL:=Hz hl1;have HZ:=Hz hzl;have HLN:=Hz hln;have HC1:=Hz hc1;have HC2:=Hz hc2;clear hb1 hk1 hl1 hzl hln hc1 hc2
   iterate 1 (refine bj rfl rfl _ (fun w' hG=>by obtain ⟨_⟩:=hG;go_simp;exact bA.mk _ _) (fun K hK=>?_);go_simp;refine hK _ ?_;clear hK K)
   refine dI ?_;go_wp2_with fail;go_ret;refine ⟨rfl,⟨?_, .inr ⟨g,o,cap,_,rfl,HB2.out,by omega,by unfold maxLen;omega,?_,?_⟩⟩,HK2.out⟩
   ·rw [bU,List.length_eraseIdx_of_lt (by rw [HN.out];omega),HN.out];omega
   ·have h1:=HL.out;have h2:=HZ.out;have h3:zs.length=(i+1+m-(i+m))*2:=h2;rw [←HC2.out];simp only [List.length_append,List.length_take,List.length_drop];omega
   ·rw [←HC2.out,←HC1.out,List.append_assoc _ zs _,m6 (by omega) (by rw [HLN.out];omega),iD (by rw [HN.out];omega)];congr 1;rw [←HX.out,HN.out,List.take_take,Nat.min_eq_left (by omega)]
 ·go_enter Try.func160,Try.ntmps160;go_wp2_with fail;refine cI [(0,0),(1,0),(2,0),(3,0),(4,0),(5,0),(6,1),(7,0)] (fun _=>True) (by kernel_rfl) (by kernel_rfl) trivial ?_
  iterate 6 (refine bj rfl rfl _ (fun w' hG=>by obtain ⟨_⟩:=hG;go_simp;exact bA.mk _ _) (fun K hK=>?_);go_simp;refine hK _ ?_;clear hK K)
  refine bF rfl rfl (fun K hK=>?_);refine iX (.tmp 22) (.tmp 25) 127 rfl 170 i0 2 Try.underlying127 Hi.out Hz1.out g o i cap cur rfl HB.out ⟨g,o+(i+1)*2,none⟩ m (cap-(i+1)) ((aC l).drop ((i+1)*2)) ?hx ?hl ?hn ?h1 ?hr hoc ?hk
  case hx=>rfl
  case hl=>rw [List.length_drop,bU,HN.out];omega
  case hn=>
   intro j u hu;have hj:=(List.getElem?_eq_some_iff.1 hu).1;rw [List.length_drop,bU,HN.out] at hj;rw [ej]
   show w.cell? ⟨g,o+(i+1)*2+j,none⟩=some u
   rw [HB.out.cell,←hu,←HX.out,HN.out,List.getElem?_drop,List.getElem?_take,if_pos (by omega),List.getElem?_drop];congr 1;omega
  case h1=>intro u hu;exact jR (List.mem_of_mem_drop hu)
  case hr=>omega
  case hk=>
   refine hK _ _ trivial ?_;clear hK K;have hb1:ah (w.drew.setRow g (cur.take (o+i*2) ++ (aC l).drop ((i+1)*2) ++ cur.drop (o+i*2+((aC l).drop ((i+1)*2)).length)).toArray) g _ 170:=ah.setRow (w:=w.drew) HB.out _;have hk1:aa (·=g) w (w.drew.setRow g (cur.take (o+i*2) ++ (aC l).drop ((i+1)*2) ++ cur.drop (o+i*2+((aC l).drop ((i+1)*2)).length)).toArray):=((aa.refl (·=g) w).drew).setRow (g:=g) (.inl rfl) _;generalize hc1:cur.take (o+i*2) ++ (aC l).drop ((i+1)*2) ++ cur.drop (o+i*2+((aC l).drop ((i+1)*2)).length)=c1 at *;generalize w.drew.setRow g _=w1 at *;have hln:((aC l).drop ((i+1)*2)).length=m*2:=by rw [List.length_drop,bU,HN.out];omega
   have hl1:c1.length=cur.length:=by
    rw [←hc1];simp only [List.length_append,List.length_take,List.length_drop,hln];simp at hln;omega
   obtain ⟨zs,hzl,hclr⟩:=iZ (P:=Try.prog) w1 127 0 170 (.agg #[.int .i64 0, .int .i64 0]) Try.underlying127 (by intro w;kernel_rfl) (by intro u hu;simp [Value.cells] at hu;subst hu;rfl) (by decide) g (o+(i+m)*2) (i+1+m-(i+m)) (cap-(i+m)) _ hb1 (by rw [hl1];show o+(i+m)*2+(i+1+m-(i+m))*2≤_;omega);generalize hc2:c1.take (o+(i+m)*2) ++ zs ++ c1.drop (o+(i+m)*2+zs.length)=c2 at *;have HB2:=Hz (hb1.setRow c2);have HK2:=Hz (hk1.setRow (g:=g) (.inl rfl) c2.toArray);have HL:=Hz hl1;have HZ:=Hz hzl;have HLN:=Hz hln;have HC1:=Hz hc1;have HC2:=Hz hc2;clear hb1 hk1 hl1 hzl hln hc1 hc2
   iterate 1 (refine bj rfl rfl _ (fun w' hG=>by obtain ⟨_⟩:=hG;go_simp;exact bA.mk _ _) (fun K hK=>?_);go_simp;refine hK _ ?_;clear hK K)
   refine dI ?_;go_wp2_with fail;go_ret;refine ⟨rfl,⟨?_, .inr ⟨g,o,cap,_,rfl,HB2.out,by omega,by unfold maxLen;omega,?_,?_⟩⟩,HK2.out⟩
   ·rw [bU,List.length_eraseIdx_of_lt (by rw [HN.out];omega),HN.out];omega
   ·have h1:=HL.out;have h2:=HZ.out;have h3:zs.length=(i+1+m-(i+m))*2:=h2;rw [←HC2.out];simp only [List.length_append,List.length_take,List.length_drop];omega
   ·rw [←HC2.out,←HC1.out,List.append_assoc _ zs _,m6 (by omega) (by rw [HLN.out];omega),iD (by rw [HN.out];omega)];congr 1;rw [←HX.out,HN.out,List.take_take,Nat.min_eq_left (by omega)]
end
section
open Go.RowKit
theorem Sl.laid {w:World} {e size:Nat} {v:Value} {n:Nat} {xs:List Value} (h:Sl w e size v n xs) (hn:0<n) :
  ∃ g o cap cur,v=.slice (some ⟨g,o,none⟩) n cap∧ah w g cur e∧n≤cap∧cap≤maxLen∧o+cap*size≤cur.length∧(cur.drop o).take (n*size)=xs:=by
 rcases h.2 with ⟨_,h0⟩ | h
 ·omega
 ·exact h
theorem nP:(Try.prog.info? 2).map (fun i=>(i.zero,i.size,i.bytes))=some (some (.int .i64 0),1,8):=by kernel_rfl
def gK (x:Int) (l:List (Int × Int)):List Int:=(l.filter fun e=>e.1 == x).map (·.2)
theorem pN {x:Int} {l:List (Int × Int)} {k:Nat} (h:k<l.length):gK x (l.take (k+1))=gK x (l.take k) ++ if ((l.getD k (0,0)).1 == x)=true then [(l.getD k (0,0)).2] else []:=by
 unfold gK;rw [List.take_succ_eq_append_getElem h,List.filter_append,List.map_append];congr 1;have hg:l.getD k (0,0)=l[k]:=by simp [List.getD,h]
 rw [hg];cases hc:(l[k].1 == x) <;> simp [hc]
theorem oM (x:Int) (l:List (Int × Int)):(gK x l).length≤l.length:=by
 unfold gK;rw [List.length_map];exact List.length_filter_le _ _
def pO (w:World) (e:Ending) (w':World) (l:List Int):Prop:=
 ∃ ao cap,e=.returned (.slice ao l.length cap)∧Sl w' 2 1 (.slice ao l.length cap) l.length (l.map (Value.int .i64))∧aa (fun _=>False) w w'∧∀ k,ag (.slice ao l.length cap) k→w.heap.size≤k
def qV (w:World) (e:Ending) (w':World) (l:List (Int × Int)):Prop:=
 ∃ ao cap,e=.returned (.slice ao l.length cap)∧Sl w' 170 2 (.slice ao l.length cap) l.length (aC l)∧aa (fun _=>False) w w'∧∀ k,ag (.slice ao l.length cap) k→w.heap.size≤k
theorem m7 (v:Value) (l:List (Int × Int)) (w:World) (h:Sl w 170 2 v l.length (aC l)) (hl:l.length≤1000000) :
  Calls Try.prog 161 #[v] w fun e w'=>qV w e w' l:=by
 obtain ⟨i0,hi,hz0,hz1,hz2⟩:=info_parts gw;have Hi:=Hz hi;have Hz0:=Hz hz0;have Hz1:=Hz hz1;have Hz2:=Hz hz2;clear hi hz0 hz1 hz2;have hxl:=h.1;rcases h.2 with ⟨rfl,hn⟩ | ⟨g,o,cap,cur,rfl,hb,hnc,hcm,hoc,hx⟩
 ·have hl0:l=[]:=List.eq_nil_of_length_eq_zero hn;subst hl0;have hne:=fun (wx:World)=>Lib.run_eql_slice_nil (P:=Try.prog) wx 127 170 none 0 0 0 0 Try.underlying127;go_enter Try.func161,Try.ntmps161;go_wp2_with fail;go_ret;exact ⟨none,0,rfl,Sl.nil _ _ _,aa.refl _ _,by intro k hk;simp [ag,Value.ownBlock] at hk⟩
 ·have hne:=fun (wx:World)=>Lib.run_eql_slice_nil (P:=Try.prog) wx 127 170 (some ⟨g,o,none⟩) l.length cap 0 0 Try.underlying127;have HX:=Hz hx;have HB:=Hz hb;clear hx hb h hxl;go_enter Try.func161,Try.ntmps161;go_wp2_with (at_builtin;refine cB rfl (.tmp 5) (.tmp 6) 127 rfl 170 i0 (.agg #[.int .i64 0, .int .i64 0]) 2 16 Try.underlying127 Hi.out Hz0.out Hz1.out Hz2.out rfl (by decide) _ 0 [] rfl ?ha ⟨g,o,none⟩ l.length cap (aC l) rfl ?hl ?hb ?hc ?hd ?he ?hf)
  case ha=>exact ⟨rfl, .inr ⟨w.heap.size,0,0,[],rfl,ah.newAt _ rfl rfl,Nat.le_refl _,Nat.zero_le _,by simp,by simp⟩⟩
  case hl=>exact bU l
  case hb=>
   intro j u hu;have hj:=(List.getElem?_eq_some_iff.1 hu).1;rw [bU] at hj;rw [ej,(HB.out.alloc _).cell,←hu,←HX.out,List.getElem?_take,if_pos hj,List.getElem?_drop]
  case hc=>intro u hu;exact jR hu
  case hd=>unfold maxLen;omega
  case he=>omega
  case hf=>
   intro v2 w2 hs2 hk2 ho2;go_wp2_with fail;go_ret;obtain ⟨ao,c2,rfl,_,_,_⟩:=hs2.rd;refine ⟨ao,c2,rfl,hs2,((Kz w).alloc _).then hk2 (fun j hj=>by simp [ag,Value.ownBlock] at hj;exact .inr (by omega)),fun j hj=>?_⟩;rcases ho2 j hj with h | h
   ·simp [ag,Value.ownBlock] at h;omega
   ·first | omega | (simp at h;omega)
def qW (w:World) (e:Ending) (w':World) (regs wait:List (Int × Int)):Prop:=
 ∃ p' rv' wv',e=.returned (.pointer (some ⟨p',0,none⟩))∧cC w' p' rv' wv' regs wait∧aa (fun _=>False) w w'∧∀ k,aR p' rv' wv' k→w.heap.size≤k
end
section
abbrev Vl:=Int × Int
abbrev Nd:=Int × List Vl
abbrev Gr:=Int→Nd
abbrev VS:=List Int × List Nd
def eu (n:Nat):Vl:=(3,(n:Int))
def fldM (f:Vl→VS→Vl × VS):List Vl→VS→List Vl × VS
 | [],s=>([],s)
 | v :: l,s=>((f v s).1 :: (fldM f l (f v s).2).1,(fldM f l (f v s).2).2)
def valM (G:Gr):Nat→Vl→VS→Vl × VS
 | 0,v,s=>if v.1=3 then (eu (s.1.idxOf v.2),s) else (v,s)
 | n+1,v,s=>
  if v.1=3 then
   if v.2 ∈ s.1 then (eu (s.1.idxOf v.2),s)
   else
    let r:=fldM (valM G n) (G v.2).2 (s.1 ++ [v.2],s.2 ++ [((G v.2).1,[])])
    (eu s.1.length,(r.2.1,r.2.2.set s.1.length ((G v.2).1,r.1)))
  else (v,s)
theorem cj (G:Gr) (n:Nat) {v:Vl} (s:VS) (h:v.1≠3):valM G n v s=(v,s):=by
 cases n <;> simp [valM,h]
theorem dx (G:Gr) (n:Nat) {v:Vl} {s:VS} (h:v.1=3) (hm:v.2 ∈ s.1):valM G n v s=(eu (s.1.idxOf v.2),s):=by
 cases n <;> simp [valM,h,hm]
theorem df (G:Gr) (n:Nat) {v:Vl} {s:VS} (h:v.1=3) (hm:¬ v.2 ∈ s.1):valM G (n+1) v s =
  (eu s.1.length,((fldM (valM G n) (G v.2).2 (s.1 ++ [v.2],s.2 ++ [((G v.2).1,[])])).2.1,
   (fldM (valM G n) (G v.2).2 (s.1 ++ [v.2],s.2 ++ [((G v.2).1,[])])).2.2.set s.1.length ((G v.2).1,(fldM (valM G n) (G v.2).2 (s.1 ++ [v.2],s.2 ++ [((G v.2).1,[])])).1))):=by
 simp [valM,h,hm]
theorem iE (f:Vl→VS→Vl × VS):∀ (a b:List Vl) (s:VS),fldM f (a ++ b) s=((fldM f a s).1 ++ (fldM f b (fldM f a s).2).1,(fldM f b (fldM f a s).2).2)
 | [],b,s=>rfl
 | v :: a,b,s=>by simp [fldM,iE f a b]
theorem iF (f:Vl→VS→Vl × VS):∀ (a:List Vl) (s:VS),(fldM f a s).1.length=a.length
 | [],_=>rfl
 | v :: a,s=>by simp [fldM,iF f a]
def deep:Nat:=5000
def dZ (G:Gr) (roots:List Vl):List Vl × List Nd:=((fldM (valM G deep) roots ([],[])).1,(fldM (valM G deep) roots ([],[])).2.2)
def cZ (φ:Int→Int) (v:Vl):Vl:=if v.1=3 then (3,φ v.2) else v
theorem gL (φ:Int→Int) (v:Vl):(cZ φ v).1=v.1:=by unfold cZ;split <;> simp_all
structure qA (G H:Gr) (P:Int→Prop) (φ:Int→Int):Prop where
 inj:∀ i j,P i→P j→φ i=φ j→i=j
 same:∀ i,P i→H (φ i)=((G i).1,(G i).2.map (cZ φ))
 shut:∀ i,P i→∀ v ∈ (G i).2,v.1=3→P v.2
theorem i7 {φ:Int→Int} {P:Int→Prop} (inj:∀ i j,P i→P j→φ i=φ j→i=j) {x:Int} (hx:P x):∀ (l:List Int),(∀ i ∈ l,P i)→(l.map φ).idxOf (φ x)=l.idxOf x∧(φ x ∈ l.map φ↔x ∈ l)
 | [],_=>by simp
 | a :: l,h=>by
  obtain ⟨h1,h2⟩:=i7 inj hx l (fun i hi=>h i (by simp [hi]));have ha:=h a (by simp);by_cases e:a=x
  ·subst e;simp
  ·have e':φ a≠φ x:=fun e'=>e (inj _ _ ha hx e');refine ⟨?_,?_⟩
   ·have b1:(φ a == φ x)=false:=by simpa using e'
    have b2:(a == x)=false:=by simpa using e
    rw [List.map_cons,List.idxOf_cons,List.idxOf_cons,h1,b1,b2]
   ·rw [List.map_cons,List.mem_cons,List.mem_cons,h2];simp [Ne.symm e,Ne.symm e']
theorem pP {G H:Gr} {P:Int→Prop} {φ:Int→Int} (I:qA G H P φ):∀ (n:Nat) (v:Vl) (s:VS),(v.1=3→P v.2)→(∀ i ∈ s.1,P i) →
  valM H n (cZ φ v) (s.1.map φ,s.2)=((valM G n v s).1,((valM G n v s).2.1.map φ,(valM G n v s).2.2))∧∀ i ∈ (valM G n v s).2.1,P i:=by
 intro n
 induction n with
 | zero=>
  intro v s hv hs;by_cases h3:v.1=3
  ·have:=i7 I.inj (hv h3) s.1 hs;simp only [valM,h3,cZ,if_true,this.1];exact ⟨trivial,hs⟩
  ·have e:cZ φ v=v:=by unfold cZ;rw [if_neg h3]
   rw [cj G _ _ h3,e,cj H _ _ h3];exact ⟨rfl,hs⟩
 | succ n ih=>
  intro v s hv hs;by_cases h3:v.1=3
  ·have hx:=hv h3;have hi:=i7 I.inj hx s.1 hs;by_cases hm:v.2 ∈ s.1
   ·rw [dx G _ h3 hm,dx H _ (by rw [gL];exact h3) (by simp only [cZ,h3,if_true];exact hi.2.2 hm)];simp only [cZ,h3,if_true,hi.1];exact ⟨trivial,hs⟩
   ·have fl:∀ (l:List Vl) (s:VS),(∀ u ∈ l,u.1=3→P u.2)→(∀ i ∈ s.1,P i) →
      fldM (valM H n) (l.map (cZ φ)) (s.1.map φ,s.2)=((fldM (valM G n) l s).1,((fldM (valM G n) l s).2.1.map φ,(fldM (valM G n) l s).2.2))∧∀ i ∈ (fldM (valM G n) l s).2.1,P i:=by
     intro l
     induction l with
     | nil=>intro s _ hs;exact ⟨rfl,hs⟩
     | cons u l ihl=>
      intro s hl hs;obtain ⟨h1,h2⟩:=ih u s (hl u (by simp)) hs;obtain ⟨h4,h5⟩:=ihl (valM G n u s).2 (fun u hu=>hl u (by simp [hu])) h2;simp only [List.map_cons,fldM,h1];rw [h4];exact ⟨rfl,h5⟩
    have hs':∀ i ∈ s.1 ++ [v.2],P i:=by
     intro i hi';rcases List.mem_append.1 hi' with h | h
     ·exact hs i h
     ·rw [List.mem_singleton.1 h];exact hx
    obtain ⟨h1,h2⟩:=fl (G v.2).2 (s.1 ++ [v.2],s.2 ++ [((G v.2).1,[])]) (fun u hu=>I.shut _ hx u hu) hs';have hmr:¬ (cZ φ v).2 ∈ s.1.map φ:=by simp only [cZ,h3,if_true];exact fun h=>hm (hi.2.1 h)
    have hr2:(cZ φ v).2=φ v.2:=by simp [cZ,h3]
    rw [df G n h3 hm,df H n (s:=(s.1.map φ,s.2)) (by rw [gL];exact h3) hmr,hr2,I.same _ hx];simp only [List.map_append,List.map_cons,List.map_nil] at h1;dsimp only;rw [h1];simp only [List.length_map];exact ⟨trivial,h2⟩
  ·rw [cj G _ _ h3,cj H _ _ (by rw [gL];exact h3)];have:cZ φ v=v:=by unfold cZ;rw [if_neg h3]
   rw [this];exact ⟨rfl,hs⟩
theorem lZ {G H:Gr} {P:Int→Prop} {φ:Int→Int} (I:qA G H P φ) (n:Nat):∀ (l:List Vl) (s:VS),(∀ u ∈ l,u.1=3→P u.2)→(∀ i ∈ s.1,P i) →
  fldM (valM H n) (l.map (cZ φ)) (s.1.map φ,s.2)=((fldM (valM G n) l s).1,((fldM (valM G n) l s).2.1.map φ,(fldM (valM G n) l s).2.2))∧∀ i ∈ (fldM (valM G n) l s).2.1,P i
 | [],s,_,hs=>⟨rfl,hs⟩
 | u :: l,s,hl,hs=>by
  obtain ⟨h1,h2⟩:=pP I n u s (hl u (by simp)) hs;obtain ⟨h4,h5⟩:=lZ I n l (valM G n u s).2 (fun u hu=>hl u (by simp [hu])) h2;simp only [List.map_cons,fldM,h1];rw [h4];exact ⟨rfl,h5⟩
theorem oN {G H:Gr} {P:Int→Prop} {φ:Int→Int} (I:qA G H P φ) {roots:List Vl} (hr:∀ u ∈ roots,u.1=3→P u.2):dZ H (roots.map (cZ φ))=dZ G roots:=by
 have:=(lZ I deep roots ([],[]) hr (by simp)).1;unfold dZ;simp only [List.map_nil] at this;rw [this]
def cK (U met:List Int):Nat:=(U.filter fun x=>!met.contains x).length
end
section
theorem gM {p q:Int→Bool} (h:∀ x,p x=true→q x=true):∀ U:List Int,(U.filter p).length≤(U.filter q).length
 | []=>Nat.le_refl _
 | a :: U=>by
  have ih:=gM h U;simp only [List.filter_cons];split
  ·rename_i h1;rw [if_pos (h a h1)];simpa using ih
  ·split
   ·simp;omega
   ·exact ih
theorem i9 {p q:Int→Bool} {x:Int} (h:∀ x,p x=true→q x=true) (h1:p x=false) (h2:q x=true):∀ U:List Int,x ∈ U→(U.filter p).length<(U.filter q).length
 | [],hx=>by cases hx
 | a :: U,hx=>by
  have hle:=gM h U;simp only [List.filter_cons];rcases List.mem_cons.1 hx with rfl | hx
  ·rw [if_neg (by rw [h1];decide),if_pos h2];simp;omega
  ·have ih:=i9 h h1 h2 U hx;split
   ·rename_i h3;rw [if_pos (h a h3)];simpa using ih
   ·split
    ·simp;omega
    ·exact ih
theorem m8 (U a b:List Int):cK U (a ++ b)≤cK U a:=
 gM (fun x hx=>by simp at hx ⊢;exact hx.1) U
theorem gN {U met:List Int} {x:Int} (hx:x ∈ U) (hm:¬ x ∈ met):cK U (met ++ [x])<cK U met:=
 i9 (fun y hy=>by simp at hy ⊢;exact hy.1) (x:=x) (by simp) (by simpa using hm) U hx
theorem jS {U met:List Int} (h:cK U met=0) {x:Int} (hx:x ∈ U):x ∈ met:=by
 by_cases hm:x ∈ met
 ·exact hm
 ·have:=gN hx hm;omega
theorem kL (U:List Int):cK U []≤U.length:=List.length_filter_le _ _
theorem iG {f:Vl→VS→Vl × VS} (hf:∀ v s, ∃ m,(f v s).2.1=s.1 ++ m):∀ (l:List Vl) (s:VS), ∃ m,(fldM f l s).2.1=s.1 ++ m
 | [],s=>⟨[],by simp [fldM]⟩
 | v :: l,s=>by
  obtain ⟨m,h⟩:=hf v s;obtain ⟨m',h'⟩:=iG hf l (f v s).2;exact ⟨m ++ m',by simp only [fldM];rw [h',h];simp⟩
theorem iH (G:Gr):∀ (n:Nat) (v:Vl) (s:VS), ∃ m,(valM G n v s).2.1=s.1 ++ m:=by
 intro n
 induction n with
 | zero=>intro v s;refine ⟨[],?_⟩;simp only [valM];split <;> simp
 | succ n ih=>
  intro v s;by_cases h3:v.1=3
  ·by_cases hm:v.2 ∈ s.1
   ·exact ⟨[],by rw [dx G _ h3 hm];simp⟩
   ·obtain ⟨m,h⟩:=iG ih (G v.2).2 (s.1 ++ [v.2],s.2 ++ [((G v.2).1,[])]);exact ⟨[v.2] ++ m,by rw [df G n h3 hm];dsimp only;rw [h];simp⟩
  ·exact ⟨[],by rw [cj G _ _ h3];simp⟩
structure m9 (G:Gr) (U:List Int):Prop where
 shut:∀ i ∈ U, ∀ v ∈ (G i).2,v.1=3→v.2 ∈ U
theorem iI {f:Vl→VS→Vl × VS} (hf:∀ v s,s.2.length=s.1.length→(f v s).2.2.length=(f v s).2.1.length):∀ (l:List Vl) (s:VS),s.2.length=s.1.length→(fldM f l s).2.2.length=(fldM f l s).2.1.length
 | [],s,h=>h
 | v :: l,s,h=>iI hf l _ (hf v s h)
theorem iJ (G:Gr):∀ (n:Nat) (v:Vl) (s:VS),s.2.length=s.1.length→(valM G n v s).2.2.length=(valM G n v s).2.1.length:=by
 intro n
 induction n with
 | zero=>intro v s h;simp only [valM];split <;> exact h
 | succ n ih=>
  intro v s h;by_cases h3:v.1=3
  ·by_cases hm:v.2 ∈ s.1
   ·rw [dx G _ h3 hm];exact h
   ·rw [df G n h3 hm];simp only [List.length_set];exact iI ih _ _ (by simp [h])
  ·rw [cj G _ _ h3];exact h
theorem fp {f:Vl→VS→Vl × VS} {U:List Int} (hf:∀ v s,(v.1=3→v.2 ∈ U)→(f v s).2.1.length+cK U (f v s).2.1≤s.1.length+cK U s.1) :
  ∀ (l:List Vl) (s:VS),(∀ v ∈ l,v.1=3→v.2 ∈ U)→(fldM f l s).2.1.length+cK U (fldM f l s).2.1≤s.1.length+cK U s.1
 | [],s,_=>Nat.le_refl _
 | v :: l,s,hl=>Nat.le_trans (fp hf l _ (fun u hu=>hl u (by simp [hu]))) (hf v s (hl v (by simp)))
theorem iK {G:Gr} {U:List Int} (I:m9 G U):∀ (n:Nat) (v:Vl) (s:VS),(v.1=3→v.2 ∈ U)→(valM G n v s).2.1.length+cK U (valM G n v s).2.1≤s.1.length+cK U s.1:=by
 intro n
 induction n with
 | zero=>intro v s _;simp only [valM];split <;> exact Nat.le_refl _
 | succ n ih=>
  intro v s hv;by_cases h3:v.1=3
  ·by_cases hm:v.2 ∈ s.1
   ·rw [dx G _ h3 hm];exact Nat.le_refl _
   ·rw [df G n h3 hm];have:=fp (f:=valM G n) ih (G v.2).2 (s.1 ++ [v.2],s.2 ++ [((G v.2).1,[])]) (I.shut _ (hv h3));have hp:=gN (hv h3) hm;simp only [List.length_append,List.length_cons,List.length_nil] at this;dsimp only;omega
  ·rw [cj G _ _ h3];exact Nat.le_refl _
theorem iL {f:Vl→VS→Vl × VS} (hl:∀ v s,s.2.length=s.1.length→(f v s).2.2.length=(f v s).2.1.length) (hp:∀ v s, ∃ m,(f v s).2.1=s.1 ++ m)
  (hf:∀ v s,s.2.length=s.1.length→∀ i,i<s.1.length→(f v s).2.2[i]? = s.2[i]?):∀ (l:List Vl) (s:VS),s.2.length=s.1.length→∀ i,i<s.1.length→(fldM f l s).2.2[i]? = s.2[i]?
 | [],s,_,i,_=>rfl
 | v :: l,s,h,i,hi=>by
  obtain ⟨m,hm⟩:=hp v s;have:=iL hl hp hf l (f v s).2 (hl v s h) i (by rw [hm];simp;omega);simp only [fldM];rw [this,hf v s h i hi]
theorem nQ (G:Gr):∀ (n:Nat) (v:Vl) (s:VS),s.2.length=s.1.length→∀ i,i<s.1.length→(valM G n v s).2.2[i]? = s.2[i]? := by
 intro n
 induction n with
 | zero=>intro v s _ i _;simp only [valM];split <;> rfl
 | succ n ih=>
  intro v s h i hi;by_cases h3:v.1=3
  ·by_cases hm:v.2 ∈ s.1
   ·rw [dx G _ h3 hm]
   ·rw [df G n h3 hm];dsimp only;rw [List.getElem?_set_ne (by omega)];have:=iL (iJ G n) (iH G n) ih (G v.2).2 (s.1 ++ [v.2],s.2 ++ [((G v.2).1,[])]) (by simp [h]) i (by simp;omega);rw [this];dsimp only;rw [List.getElem?_append_left (by omega)]
  ·rw [cj G _ _ h3]
end
section
structure Wo where
 ar:Ar
 cd:List Bool
 rt:List Int
 rg:List (Int × Int)
 wt:List (Int × Int)
def rS (e:Int × Int):Prop:=dz e.1∧dz e.2
structure Wo.ok (O:Wo):Prop where
 ha:O.ar.ok
 h12:O.rt.length=12
 hR:∀ x ∈ O.rt,dz x
 hg:∀ e ∈ O.rg,rS e
 hw:∀ e ∈ O.wt,rS e
 hq:O.rg.length+O.wt.length≤24
 hc:O.cd.length≤1000
def Wo.new (n o:Int):Wo:=⟨Ar.new n o,List.replicate (fm o) false,List.replicate 12 2,[],[]⟩
def Ar.bz (A:Ar) (x:Int):Int × Int × Int × Int:=if x%4=1∧(A.au (x/4)).2.2=0 then (x/4,(A.au (x/4)).1,(A.au (x/4)).2.1,0) else (0,0,0,2)
def Ar.get (A:Ar) (x i:Int):Int × Int:=
 if (A.bz x).2.2.2≠0∨(A.bz x).2.1=5 then (0,2) else if i<0∨(A.bz x).2.2.1≤i then (0,1) else (A.load (x/4+1+i),0)
def Wo.set (O:Wo) (x i y:Int):Int × Wo:=
 if (O.ar.get x i).2≠0 then ((O.ar.get x i).2,O)
 else (0, { O with ar:=O.ar.store (x/4+1+i) y,cd:=if y%4=1∧(O.ar.store (x/4+1+i) y).aL (y/4)=true∧(O.ar.store (x/4+1+i) y).aV (x/4)=true then gW O.ar.nur O.cd (x/4) else O.cd })
def pQ (x:Int):Vl:=if x%4=1 then (3,x/4) else ((rO x).1,(rO x).2.1)
def sM (wt:List (Int × Int)) (g:Int):List Int:=(wt.filter fun e=>e.1 == g).map (·.2)
def Ar.fields (A:Ar) (at_:Int):List Int:=(List.range (A.au at_).2.1.toNat).map fun (j:Nat)=>A.load (at_+1+(j:Int))
def Wo.gr (O:Wo):Gr:=fun i=>((O.ar.au i).1,(O.ar.fields i).map pQ ++ if (O.ar.au i).1=5 then (sM O.wt (4*i+1)).map pQ else [])
theorem Ar.jg (A:Ar) (i x:Int):(A.store i x).nur=A.nur:=by unfold Ar.store;split <;> rfl
end
section
open Go.RowKit
structure WH where
 p:Nat
 pa:Nat
 g:Nat
 pc:Nat
 cb:Nat
 ps:Nat
 rv:Value
 wv:Value
 ro:Value
def WH.Own (h:WH) (k:Nat):Prop:=k=h.p∨(k=h.pa∨k=h.g)∨(k=h.pc∨k=h.cb)∨aR h.ps h.rv h.wv k∨ag h.ro k
structure bK (w:World) (h:WH) (O:Wo):Prop where
 hp:ah w h.p [.pointer (some ⟨h.pa,0,none⟩), .pointer (some ⟨h.pc,0,none⟩), .pointer (some ⟨h.ps,0,none⟩),h.ro] 65
 ha:bP w h.pa h.g O.ar
 hc:cU w h.pc h.cb O.ar.nur O.cd
 hs:cC w h.ps h.rv h.wv O.rg O.wt
 hr:Sl w 2 1 h.ro O.rt.length (O.rt.map (Value.int .i64))
 ap:¬ ag h.ro h.g
 ok:O.ok
section
variable {w w':World} {h:WH} {O:Wo}
theorem bK.ae {S:Nat→Prop} (H:bK w h O) (k:aa S w w') (hn:∀ b,h.Own b→¬ S b):bK w' h O:=
 ⟨k.ai H.hp (hn _ (.inl rfl)),H.ha.ae k (hn _ (.inr (.inl (.inl rfl)))) (hn _ (.inr (.inl (.inr rfl)))),H.hc.ae k (hn _ (.inr (.inr (.inl (.inl rfl))))) (hn _ (.inr (.inr (.inl (.inr rfl))))),
  H.hs.ae k (fun b hb=>hn b (.inr (.inr (.inr (.inl hb))))),H.hr.ae k (fun b hb=>hn b (.inr (.inr (.inr (.inr hb))))),H.ap,H.ok⟩
theorem cC.kM {w:World} {p b:Nat} {rv wv:Value} {regs wait:List (Int × Int)} (h:cC w p rv wv regs wait) (hb:aR p rv wv b):∃ c T,ah w b c T∧(T=129∨T=170):=by
 rcases hb with rfl | hb | hb
 ·exact ⟨_,_,h.hp, .inl rfl⟩
 ·obtain ⟨_,c,hc⟩:=h.hr.own hb;exact ⟨_,_,hc, .inr rfl⟩
 ·obtain ⟨_,c,hc⟩:=h.hw.own hb;exact ⟨_,_,hc, .inr rfl⟩
theorem bK.qX (H:bK w h O) {b:Nat} {c:List Value} {T:TypeId} (hb:ah w b c T) (h1:T≠129) (h2:T≠170):¬ aR h.ps h.rv h.wv b:=fun hf=>by
 obtain ⟨c',T',hc,hT⟩:=H.hs.kM hf;rcases hT with rfl | rfl
 ·exact hb.ne hc h1 rfl
 ·exact hb.ne hc h2 rfl
theorem bK.nR (H:bK w h O) {b:Nat} {c:List Value} {T:TypeId} (hb:ah w b c T) (h1:T≠2):¬ ag h.ro b:=fun hf=>by
 obtain ⟨_,c',hc⟩:=H.hr.own hf;exact hb.ne hc h1 rfl
theorem bK.qB (H:bK w h O) {A:Ar} (t:jz w h.pa h.g w' A) (hn:A.nur=O.ar.nur):bK w' h { O with ar:=A }:=by
 have k:=t.k;have n1:∀ {b:Nat} {c:List Value} {T:TypeId},ah w b c T→T≠120→T≠2→¬ (b=h.pa∨b=h.g):=fun hb h1 h2 e=>by
  rcases e with e | e
  ·exact hb.ne H.ha.hp h1 e
  ·exact hb.ne H.ha.hg h2 e
 refine ⟨k.ai H.hp (n1 H.hp (by decide) (by decide)),t.at_,?_,H.hs.ae k (fun b hb=>?_),H.hr.ae k (fun b hb=>?_),H.ap, { H.ok with ha:=t.at_.ok }⟩
 ·show cU w' h.pc h.cb A.nur O.cd
  rw [hn];exact H.hc.ae k (n1 H.hc.hp (by decide) (by decide)) (n1 H.hc.hq (by decide) (by decide))
 ·obtain ⟨c,T,hc,hT⟩:=H.hs.kM hb;rcases hT with rfl | rfl
  ·exact n1 hc (by decide) (by decide)
  ·exact n1 hc (by decide) (by decide)
 ·rintro (rfl | rfl)
  ·exact H.nR H.ha.hp (by decide) hb
  ·exact H.ap hb
theorem bK.cards (H:bK w h O) {l:List Bool} (t:cU w' h.pc h.cb O.ar.nur l) (hl:l.length≤1000) (k:aa (·=h.cb) w w'):bK w' h { O with cd:=l }:=by
 have n1:∀ {b:Nat} {c:List Value} {T:TypeId},ah w b c T→T≠4→¬ (b=h.cb):=fun hb h1 e=>hb.ne H.hc.hq h1 e;refine ⟨k.ai H.hp (n1 H.hp (by decide)),H.ha.ae k (n1 H.ha.hp (by decide)) (n1 H.ha.hg (by decide)),t,H.hs.ae k (fun b hb=>?_),H.hr.ae k (fun b hb=>?_),H.ap, { H.ok with hc:=hl }⟩
 ·obtain ⟨c,T,hc,hT⟩:=H.hs.kM hb;rcases hT with rfl | rfl
  ·exact n1 hc (by decide)
  ·exact n1 hc (by decide)
 ·rintro rfl;exact H.nR H.hc.hq (by decide) hb
theorem bK.nS (H:bK w h O):w.cell? ⟨h.p,0,none⟩=some (.pointer (some ⟨h.pa,0,none⟩))∧w.cell? ⟨h.p,1,none⟩=some (.pointer (some ⟨h.pc,0,none⟩))∧w.cell? ⟨h.p,2,none⟩=some (.pointer (some ⟨h.ps,0,none⟩))∧w.cell? ⟨h.p,3,none⟩=some h.ro:=
 ⟨H.hp.cell 0,H.hp.cell 1,H.hp.cell 2,H.hp.cell 3⟩
def im (w:World) (h:WH) (w':World) (O:Wo):Prop:=
 ∃ h',bK w' h' O∧h'.p=h.p∧aa h.Own w w'∧∀ k,h'.Own k→h.Own k∨w.heap.size≤k
theorem bK.qY (H:bK w h O) {A:Ar} (t:jz w h.pa h.g w' A) (hn:A.nur=O.ar.nur):im w h w' { O with ar:=A }:=
 ⟨h,H.qB t hn,rfl,t.k.mono (fun k _ hk=>.inr (.inl hk)),fun k hk=>.inl hk⟩
theorem im.same (H:bK w h O) (k:aa (fun _=>False) w w'):im w h w' O:=
 ⟨h,H.ae k (fun _ _ h=>h),rfl,k.mono (fun _ _ h=>h.elim),fun k hk=>.inl hk⟩
theorem iM {A:Ar} {x:Int} (h:¬ (x%4=1∧(A.au (x/4)).2.2=0)):A.bz x=(0,0,0,2):=if_neg h
theorem hZ {A:Ar} {x:Int} (h:x%4=1∧(A.au (x/4)).2.2=0):A.bz x=(x/4,(A.au (x/4)).1,(A.au (x/4)).2.1,0):=if_pos h
theorem gO {fn:Func} {t u v x:Tmp} (h:fn.results=#[.tmp t, .tmp u, .tmp v, .tmp x]) (tmps:Array Value) (P:Program) (w:World) :
  (results fn tmps).run P w=.ok (.tuple #[tmps.getD t undef,tmps.getD u undef,tmps.getD v undef,tmps.getD x undef]) w:=by
 simp [results,h]
theorem jT {a b c d:Int} {y:Int × Int × Int × Int} (h:y=(a,b,c,d)) :
  Ending.returned (.tuple #[.int .i64 a, .int .i64 b, .int .i64 c, .int .i64 d])=Ending.returned (.tuple #[.int .i64 y.1, .int .i64 y.2.1, .int .i64 y.2.2.1, .int .i64 y.2.2.2]):=by subst h;rfl
theorem qZ (x:Int) (H:bK w h O) :
  Calls Try.prog 91 #[.pointer (some ⟨h.p,0,none⟩), .int .i64 x] w fun e w'=>
   e=.returned (.tuple #[.int .i64 (O.ar.bz x).1, .int .i64 (O.ar.bz x).2.1, .int .i64 (O.ar.bz x).2.2.1, .int .i64 (O.ar.bz x).2.2.2])∧w=w':=by
 have HH:=Hz H;obtain ⟨c0,-,-,-⟩:=H.nS;have pl:=H.hp.lt;have HA:=Hz H.ha;clear H;by_cases hx:x%4=1
 ·by_cases hc:(O.ar.au (x/4)).2.2=0
  ·have HE:=Hz (hZ ⟨hx,hc⟩);obtain ⟨⟨k,n,c⟩,hT⟩:∃ t,O.ar.au (x/4)=t:=⟨_,rfl⟩;rw [hT] at hc HE;dsimp only at hc HE;subst hc;have HT:=Hz hT;have HX:=Hz hx;clear hT hx;go_enter Try.func91,Try.ntmps91;go_wp2_with fail;refine (ik x _ HX.out).mono ?_;rintro e w1 ⟨rfl,rfl⟩;go_wp2_with fail;refine (m5 (x/4) _ HA.out).mono ?_;rintro e w1 ⟨rfl,rfl⟩;rw [HT.out];dsimp only;go_wp2_with fail
   ((try simp only [Exit.inBlock,Exit.then]);refine bodyPost_ret (gO rfl _ _ _) rfl ?_)
   exact ⟨jT HE.out,rfl⟩
  ·have HE:=Hz (iM (A:=O.ar) (x:=x) (fun h=>hc h.2));obtain ⟨⟨k,n,c⟩,hT⟩:∃ t,O.ar.au (x/4)=t:=⟨_,rfl⟩;rw [hT] at hc;dsimp only at hc;have hcb:(c != 0)=true:=by simpa using hc
   have HT:=Hz hT;have HX:=Hz hx;clear hT hx hc;go_enter Try.func91,Try.ntmps91;go_wp2_with fail;refine (ik x _ HX.out).mono ?_;rintro e w1 ⟨rfl,rfl⟩;go_wp2_with fail;refine (m5 (x/4) _ HA.out).mono ?_;rintro e w1 ⟨rfl,rfl⟩;rw [HT.out];dsimp only;go_wp2_with fail
   ((try simp only [Exit.inBlock,Exit.then]);refine bodyPost_ret (gO rfl _ _ _) rfl ?_)
   exact ⟨jT HE.out,rfl⟩
 ·have HE:=Hz (iM (A:=O.ar) (x:=x) (fun h=>hx h.1));have HX:=Hz hx;clear hx;go_enter Try.func91,Try.ntmps91;go_wp2_with fail;refine (qz x _ HX.out).mono ?_;rintro e w1 ⟨rfl,rfl⟩;go_wp2_with fail
  ((try simp only [Exit.inBlock,Exit.then]);refine bodyPost_ret (gO rfl _ _ _) rfl ?_)
  exact ⟨jT HE.out,rfl⟩
theorem pR {A:Ar} {x i:Int} (h:(A.bz x).2.2.2≠0∨(A.bz x).2.1=5):A.get x i=(0,2):=if_pos h
theorem oO {A:Ar} {x i:Int} (h:¬ ((A.bz x).2.2.2≠0∨(A.bz x).2.1=5)) (h2:i<0∨(A.bz x).2.2.1≤i):A.get x i=(0,1):=by unfold Ar.get;rw [if_neg h,if_pos h2]
theorem rT {A:Ar} {x i:Int} (h:¬ ((A.bz x).2.2.2≠0∨(A.bz x).2.1=5)) (h2:¬ (i<0∨(A.bz x).2.2.1≤i)):A.get x i=(A.load (x/4+1+i),0):=by unfold Ar.get;rw [if_neg h,if_neg h2]
theorem kN (A:Ar) (x:Int):0≤(A.bz x).2.2.1∧(A.bz x).2.2.1≤12:=by
 unfold Ar.bz;split
 ·exact A.i4 _
 ·decide
theorem iY {A:Ar} (hk:A.ok) {x:Int} (h:(A.bz x).2.2.2=0):x%4=1∧(A.au (x/4)).2.2=0∧0≤x/4∧x/4<A.ws.length∧(A.bz x).1=x/4:=by
 by_cases hc:x%4=1∧(A.au (x/4)).2.2=0
 ·have:=hk.lW (A.oG hc.2);refine ⟨hc.1,hc.2,this.1,this.2,?_⟩;rw [hZ hc]
 ·rw [iM hc] at h;simp at h
theorem qC (x i:Int) (H:bK w h O) :
  Calls Try.prog 45 #[.pointer (some ⟨h.p,0,none⟩), .int .i64 x, .int .i64 i] w fun e w'=>
   e=.returned (.tuple #[.int .i64 (O.ar.get x i).1, .int .i64 (O.ar.get x i).2])∧w=w':=by
 have HH:=Hz H;obtain ⟨c0,-,-,-⟩:=H.nS;have pl:=H.hp.lt;have HA:=Hz H.ha;have hb:=kN O.ar x;have hpl:=fun e=>iY H.ok.ha (x:=x) e;have h4:=H.ok.ha.h4;have gk:=fun e=>pR (A:=O.ar) (x:=x) (i:=i) e;have gr:=fun e1 e2=>oO (A:=O.ar) (x:=x) (i:=i) e1 e2;have go:=fun e1 e2=>rT (A:=O.ar) (x:=x) (i:=i) e1 e2;have HTc:=Hz (qZ x H);obtain ⟨⟨p,k,n,c⟩,hT⟩:∃ t,O.ar.bz x=t:=⟨_,rfl⟩;rw [hT] at hb hpl gk gr go HTc;dsimp only at hb hpl gk gr go HTc;clear H hT;by_cases hc:c=0
 ·obtain ⟨-,-,p0,p1,rfl⟩:=hpl hc;subst hc;by_cases hk:k=5
  ·have HG:=Hz (gk (.inr hk));subst hk;clear gk gr go hpl;go_enter Try.func45,Try.ntmps45;go_wp2_with fail;refine HTc.out.mono ?_;rintro e w1 ⟨rfl,rfl⟩;go_wp2_with fail;go_ret2;exact ⟨by rw [HG.out];rfl,rfl⟩
  ·have h1:¬ ((0:Int)≠0∨k=5):=fun h=>by rcases h with h | h;exact h rfl;exact hk h
   have hkb:(k == 5)=false:=by simpa using hk
   by_cases hi:i<0∨n≤i
   ·have HG:=Hz (gr h1 hi);clear gk gr go hpl h1 hk;by_cases hi0:i<0
    ·have hd:decide (i<0)=true:=by simpa using hi0
     clear hi;go_enter Try.func45,Try.ntmps45;go_wp2_with fail;refine HTc.out.mono ?_;rintro e w1 ⟨rfl,rfl⟩;go_wp2_with fail;go_ret2;exact ⟨by rw [HG.out];rfl,rfl⟩
    ·have hd:decide (i<0)=false:=by simpa using hi0
     have hd2:decide (n≤i)=true:=by simp;omega
     clear hi;go_enter Try.func45,Try.ntmps45;go_wp2_with fail;refine HTc.out.mono ?_;rintro e w1 ⟨rfl,rfl⟩;go_wp2_with fail;go_ret2;exact ⟨by rw [HG.out];rfl,rfl⟩
   ·have HG:=Hz (go h1 hi);have hd:decide (i<0)=false:=by simp;omega
    have hd2:decide (n≤i)=false:=by simp;omega
    have hi0:0≤i:=by omega
    have hi1:i<n:=by omega
    clear gk gr go hpl h1 hk hi;go_enter Try.func45,Try.ntmps45;go_wp2_with fail;refine HTc.out.mono ?_;rintro e w1 ⟨rfl,rfl⟩;go_wp2_with fail;refine (oI (x/4+1+i) _ HA.out).mono ?_;rintro e w1 ⟨rfl,rfl⟩;go_wp2_with fail;go_ret2;exact ⟨by rw [HG.out];rfl,rfl⟩
 ·have HG:=Hz (gk (.inl hc));have hcb:(c != 0)=true:=by simpa using hc
  clear gk gr go hpl hc;go_enter Try.func45,Try.ntmps45;go_wp2_with fail;refine HTc.out.mono ?_;rintro e w1 ⟨rfl,rfl⟩;go_wp2_with fail;go_ret2;exact ⟨by rw [HG.out];rfl,rfl⟩
end
end
section
open Go.RowKit
section
variable {w w':World} {h:WH} {O:Wo}
theorem Wo.rU {x i y:Int} (hc:(O.ar.get x i).2≠0):O.set x i y=((O.ar.get x i).2,O):=if_pos hc
theorem Wo.q5 {x i y:Int} (hc:(O.ar.get x i).2=0):O.set x i y=(0, { O with ar:=O.ar.store (x/4+1+i) y,cd:=if y%4=1∧(O.ar.store (x/4+1+i) y).aL (y/4)=true∧(O.ar.store (x/4+1+i) y).aV (x/4)=true then gW O.ar.nur O.cd (x/4) else O.cd }):=
 if_neg (fun h=>h hc)
theorem oP {A:Ar} (hk:A.ok) {x i:Int} (h:(A.get x i).2=0):x%4=1∧(A.au (x/4)).2.2=0∧0≤x/4∧x/4<A.ws.length∧0≤i∧i<(A.au (x/4)).2.1∧(A.au (x/4)).1≠5:=by
 unfold Ar.get at h;split at h
 ·simp at h
 ·rename_i h1;split at h
  ·simp at h
  ·rename_i h2;have hc:(A.bz x).2.2.2=0:=Classical.not_not.1 fun e=>h1 (.inl e);obtain ⟨p1,p2,p3,p4,p5⟩:=iY hk hc;rw [hZ ⟨p1,p2⟩] at h1 h2;exact ⟨p1,p2,p3,p4,by omega,by dsimp only at h2;omega,fun e=>h1 (.inr e)⟩
theorem tA (x i y:Int) (H:bK w h O) (hy:dz y) :
  Calls Try.prog 44 #[.pointer (some ⟨h.p,0,none⟩), .int .i64 x, .int .i64 i, .int .i64 y] w fun e w'=>
   e=.returned (.int .i64 (O.set x i y).1)∧im w h w' (O.set x i y).2:=by
 have HH:=Hz H;have HY:=Hz hy;have pl:=H.hp.lt;have h4:=H.ok.ha.h4;have HN:=Hz (show 0≤(O.ar.nur:Int)∧(O.ar.nur:Int)≤1000000 by have:=H.ok.ha.h1;have:=H.ok.ha.h2;have:=H.ok.ha.h3;omega);by_cases hc:(O.ar.get x i).2=0
 ·have HE:=Hz (Wo.q5 (y:=y) hc);obtain ⟨p1,-,p2,p3,p4,p5,-⟩:=oP H.ok.ha hc;have p6:=(O.ar.i4 (x/4)).2;have p7:i<12:=by omega
  have P1:=Hz p1;have HC:=Hz hc;clear H hy hc p1 p5 p6;go_enter Try.func44,Try.ntmps44;go_wp2_with fail;refine (qC x i HH.out).mono ?_;rintro e w1 ⟨rfl,rfl⟩;rw [HC.out];go_wp2_with fail;refine (ik x _ P1.out).mono ?_;rintro e w1 ⟨rfl,rfl⟩;obtain ⟨c0,-,-,-⟩:=HH.out.nS;go_wp2_with fail;refine (qT (x/4+1+i) y _ HH.out.ha HY.out).mono ?_;rintro e w1 ⟨rfl,ht⟩;have HT:=Hz ht.k;have HW:=Hz (HH.out.qB ht (O.ar.jg _ _));have HTO:=Hz (HH.out.qY ht (O.ar.jg _ _));clear c0 pl ht;generalize hA:O.ar.store (x/4+1+i) y=A at *;have HA:=Hz hA;clear hA;obtain ⟨c0,c1,-,-⟩:=HW.out.nS;have pl:=HW.out.hp.lt;by_cases hy4:y%4=1
  ·have HY4:=Hz hy4;cases hyo:A.aL (y/4)
   ·have HF:=Hz (show ¬ (y%4=1∧A.aL (y/4)=true∧A.aV (x/4)=true) by rw [hyo];exact fun h=>by cases h.2.1);clear hy4;go_wp2_with fail;refine (ik y _ HY4.out).mono ?_;rintro e w2 ⟨rfl,rfl⟩;go_wp2_with fail;refine (eD (y/4) _ HW.out.ha).mono ?_;rintro e w2 ⟨rfl,rfl⟩;rw [hyo];go_wp2_with fail;go_ret;refine ⟨by rw [HE.out];rfl,?_⟩;rw [HE.out,if_neg HF.out];exact HTO.out
   ·cases hol:A.aV (x/4)
    ·have HF:=Hz (show ¬ (y%4=1∧A.aL (y/4)=true∧A.aV (x/4)=true) by rw [hol];exact fun h=>by cases h.2.2);clear hy4;go_wp2_with fail;refine (ik y _ HY4.out).mono ?_;rintro e w2 ⟨rfl,rfl⟩;go_wp2_with fail;refine (eD (y/4) _ HW.out.ha).mono ?_;rintro e w2 ⟨rfl,rfl⟩;rw [hyo];go_wp2_with fail;refine (jA (x/4) _ HW.out.ha).mono ?_;rintro e w2 ⟨rfl,rfl⟩;rw [hol];go_wp2_with fail;go_ret;refine ⟨by rw [HE.out];rfl,?_⟩;rw [HE.out,if_neg HF.out];exact HTO.out
    ·have HF:=Hz (show (y%4=1∧A.aL (y/4)=true∧A.aV (x/4)=true) from ⟨hy4,hyo,hol⟩);clear hy4;go_wp2_with fail;refine (ik y _ HY4.out).mono ?_;rintro e w2 ⟨rfl,rfl⟩;go_wp2_with fail;refine (eD (y/4) _ HW.out.ha).mono ?_;rintro e w2 ⟨rfl,rfl⟩;rw [hyo];go_wp2_with fail;refine (jA (x/4) _ HW.out.ha).mono ?_;rintro e w2 ⟨rfl,rfl⟩;rw [hol];go_wp2_with fail;have hcc:=HW.out.hc;have hcl:=HW.out.ok.hc;have hnn:A.nur=O.ar.nur:=by rw [←HA.out];exact O.ar.jg _ _
     refine (rR h.pc h.cb A.nur (x/4) O.cd _ hcc (by rw [hnn];exact HN.out.1) (by rw [hnn];exact HN.out.2) (by omega) (by omega) (by simpa using Nat.le_trans hcl (by decide))).mono ?_;rintro e w2 ⟨rfl,hc2,hk2⟩;have HTO2:=Hz (show im w h w2 { O with ar:=A,cd:=gW O.ar.nur O.cd (x/4) } by
      have:=HW.out.cards hc2 (by rw [lY];exact hcl) hk2;refine ⟨h,?_,rfl,(HT.out.mono (fun k _ hk=>.inr (.inl hk))).then hk2 (fun k hk=>.inl (by subst hk;exact .inr (.inr (.inl (.inr rfl))))),fun k hk=>.inl hk⟩;rw [hnn] at this
      exact this)
     clear hcc hcl hnn hc2 hk2;go_wp2_with fail;go_ret;refine ⟨by rw [HE.out];rfl,?_⟩;rw [HE.out,if_pos HF.out];exact HTO2.out
  ·have HY4:=Hz hy4;have HF:=Hz (show ¬ (y%4=1∧A.aL (y/4)=true∧A.aV (x/4)=true) from fun h=>hy4 h.1);clear hy4;go_wp2_with fail;refine (qz y _ HY4.out).mono ?_;rintro e w2 ⟨rfl,rfl⟩;go_wp2_with fail;go_ret;refine ⟨by rw [HE.out];rfl,?_⟩;rw [HE.out,if_neg HF.out];exact HTO.out
 ·have HE:=Hz (Wo.rU (y:=y) hc);have HTC:=Hz (qC x i H);obtain ⟨⟨a,c⟩,hT⟩:∃ t,O.ar.get x i=t:=⟨_,rfl⟩;rw [hT] at hc HE HTC;dsimp only at hc HE HTC;have hcb:(c != 0)=true:=by simpa using hc
  clear H hc hT;go_enter Try.func44,Try.ntmps44;go_wp2_with fail;refine HTC.out.mono ?_;rintro e w1 ⟨rfl,rfl⟩;go_wp2_with fail;go_ret;refine ⟨by rw [HE.out];rfl,?_⟩;rw [HE.out];exact im.same HH.out (aa.refl _ _)
end
def q6 (w:World) (n o:Int) (e:Ending) (w':World):Prop:=
 ∃ h,e=.returned (.tuple #[.pointer (some ⟨h.p,0,none⟩), .agg #[.int .i64 0, .int .i64 0]])∧bK w' h (Wo.new n o)∧aa (fun _=>False) w w'∧∀ k,h.Own k→w.heap.size≤k
theorem Wo.fY {n o:Int} (h:Ar.fits n o=true):(Wo.new n o).ok:=by
 have h':=h;simp [Ar.fits] at h';refine ⟨Ar.fY h,by simp [Wo.new],fun x hx=>?_,fun e he=>by simp [Wo.new] at he,fun e he=>by simp [Wo.new] at he,by simp [Wo.new],?_⟩
 ·simp [Wo.new] at hx;subst hx;unfold dz;omega
 ·simp [Wo.new,fm];omega
structure iN (w:World) (h:WH) (n o:Int) (wr:World) (k:Nat) (v:Value):Prop where
 hp:ah wr h.p [.pointer (some ⟨h.pa,0,none⟩), .pointer (some ⟨h.pc,0,none⟩), .pointer (some ⟨h.ps,0,none⟩),v] 65
 ha:bP wr h.pa h.g (Ar.new n o)
 hc:cU wr h.pc h.cb n (List.replicate (fm o) false)
 hs:cC wr h.ps (.slice none 0 0) (.slice none 0 0) [] []
 hr:Sl wr 2 1 v k (List.replicate k (.int .i64 2))
 hk:aa (fun _=>False) w wr
 o1:w.heap.size≤h.p
 o2:w.heap.size≤h.pa
 o3:w.heap.size≤h.g
 o4:w.heap.size≤h.pc
 o5:w.heap.size≤h.cb
 o6:w.heap.size≤h.ps
 o7:∀ b,ag v b→w.heap.size≤b
 ap:¬ ag v h.g
 hz:ah wr w.heap.size [.int .i64 0, .int .i64 0] 26
theorem iN.app {w wr wa w2:World} {h:WH} {n o:Int} {k:Nat} {v v2:Value} (H:iN w h n o wr k v) (ka:aa (fun _=>False) wr wa) (hs2:Sl w2 2 1 v2 (k+1) (List.replicate k (.int .i64 2) ++ [.int .i64 2])) (hk2:aa (ag v) wa w2) (ho2:∀ b,ag v2 b→ag v b∨wa.heap.size≤b) :
  iN w h n o (w2.setCell ⟨h.p,3,none⟩ v2) (k+1) v2:=by
 have own:=fun b (hb:ag v b)=>(H.hr.ae ka (fun _ _ h=>h)).own hb;have ne1:∀ {b:Nat} {c:List Value} {T:TypeId},ah wr b c T→T≠2→¬ ag v b:=fun hb hT hv=>by
  obtain ⟨_,c',hc⟩:=own _ hv;exact (ka.ai hb (fun h=>h)).ne hc hT rfl
 have lt1:∀ {b:Nat} {c:List Value} {T:TypeId},ah wr b c T→b<wa.heap.size:=fun hb=>(ka.ai hb (fun h=>h)).lt;have k2:=(ka.mono (T:=ag v) (fun _ _ h=>h.elim)).trans hk2;have hsz:=H.hk.size;have hpl:=H.hp.lt;have kc:=fun {S:Nat→Prop} (k:aa S wr w2)=>k;have hp2:=k2.ai H.hp (ne1 H.hp (by decide));have set:=(aa.refl (·=h.p) w2).setCell (p:=⟨h.p,3,none⟩) (.inl rfl) v2;have nep:∀ {b:Nat} {c:List Value} {T:TypeId},ah w2 b c T→T≠65→¬ b=h.p:=fun hb hT=>hb.ne hp2 hT;have ha2:=H.ha.ae k2 (ne1 H.ha.hp (by decide)) H.ap;have hc2:=H.hc.ae k2 (ne1 H.hc.hp (by decide)) (ne1 H.hc.hq (by decide));have fsd:∀ b,aR h.ps (.slice none 0 0) (.slice none 0 0) b→b=h.ps:=fun b hb=>by
  rcases hb with h | h | h
  ·exact h
  ·exact (cF h).elim
  ·exact (cF h).elim
 have hs3:=H.hs.ae k2 (fun b hb=>by rw [fsd b hb];exact ne1 H.hs.hp (by decide));refine ⟨by simpa using hp2.aF 3 v2,ha2.ae set (nep ha2.hp (by decide)) (nep ha2.hg (by decide)),hc2.ae set (nep hc2.hp (by decide)) (nep hc2.hq (by decide)),hs3.ae set (fun b hb=>by rw [fsd b hb];exact nep hs3.hp (by decide)),?_,?_,H.o1,H.o2,H.o3,H.o4,H.o5,H.o6,?_,?_,?_⟩
 ·rw [←List.replicate_succ'] at hs2;exact hs2.ae set (fun b hb e=>by
   obtain ⟨_,c',hc⟩:=hs2.own hb
   exact nep hc (by decide) e)
 ·exact (H.hk.then k2 (fun b hb=>.inr (H.o7 b hb))).setCell (.inr H.o1) _
 ·intro b hb;rcases ho2 b hb with h1 | h1
  ·exact H.o7 b h1
  ·have:=ka.size;omega
 ·intro hb;rcases ho2 _ hb with h1 | h1
  ·exact H.ap h1
  ·have:=lt1 H.ha.hg;omega
 ·have hz2:=k2.ai H.hz (ne1 H.hz (by decide));exact set.ai hz2 (nep hz2 (by decide))
theorem iN.done {w wr:World} {h:WH} {n o:Int} {v:Value} (H:iN w h n o wr 12 v) (hf:Ar.fits n o=true):bK wr { h with ro:=v,rv:=.slice none 0 0,wv:=.slice none 0 0 } (Wo.new n o) ∧
  ∀ k,({ h with ro:=v,rv:=.slice none 0 0,wv:=.slice none 0 0 }:WH).Own k→w.heap.size≤k:=by
 have hn:((Ar.new n o).nur:Int)=n:=by simp [Ar.fits] at hf;simp [Ar.new];omega
 refine ⟨⟨H.hp,H.ha,?_,H.hs,?_,H.ap,Wo.fY hf⟩,?_⟩
 ·show cU wr h.pc h.cb ((Ar.new n o).nur:Int) _
  rw [hn];exact H.hc
 ·have e:(Wo.new n o).rt=List.replicate 12 2:=rfl;rw [e];simpa using H.hr
 ·rintro k (rfl | (rfl | rfl) | (rfl | rfl) | (rfl | h1 | h1) | h1)
  ·exact H.o1
  ·exact H.o2
  ·exact H.o3
  ·exact H.o4
  ·exact H.o5
  ·exact H.o6
  ·exact (cF h1).elim
  ·exact (cF h1).elim
  ·exact H.o7 k h1
theorem q7 (n o:Int) (w:World) (h:Ar.fits n o=false) :
  Calls Try.prog 42 #[.int .i64 n, .int .i64 o] w fun e w'=>e=.returned (.tuple #[.pointer none, .agg #[.int .i64 1, .int .i64 (-1)]])∧aa (fun _=>False) w w':=by
 go_enter Try.func42,Try.ntmps42;go_wp2_with fail;refine (qU n o _ h).mono ?_;rintro e w1 ⟨rfl,hk⟩;have HK:=Hz (((Kz w).alloc (.cells #[.int .i64 0, .int .i64 0] 26)).trans hk);go_wp2_with fail;have HB:=Hz (ah.newAt (w:=w1) (b:=w1.heap.size) (T:=26) #[.int .i64 1, .int .i64 (-1)] rfl rfl);have h0:=HB.out.cell 0;have h1:=HB.out.cell 1;have hl:=HB.out.lt;have k0:ah (w.alloc (.cells #[.int .i64 0, .int .i64 0] 26)) w.heap.size [.int .i64 0, .int .i64 0] 26:=ah.newAt _ rfl rfl;have k1:=(hk.ai k0 (fun h=>h)).alloc (.cells #[.int .i64 1, .int .i64 (-1)] 26);have l0:=k1.cell 0;have l1:=k1.cell 1;have ll:=k1.lt;have f0:=k1.free 0;have f1:=k1.free 1;simp only [Lz,Ls] at h0 h1 l0 l1;have HKA:=Hz (HK.out.alloc (.cells #[.int .i64 1, .int .i64 (-1)] 26));clear hk k0 k1;generalize w1.alloc (.cells #[.int .i64 1, .int .i64 (-1)] 26)=wa at *;refine aq (.free 1 (.pure 0 (.run 2 (.swi [] (.fin))))) [2] (fun w'=>w'.cell? ⟨w1.heap.size,0,none⟩=some (.int .i64 1)∧w'.cell? ⟨w1.heap.size,1,none⟩=some (.int .i64 (-1))) (by kernel_rfl) (by kernel_rfl) ⟨h0,h1⟩ ?_
 iterate 2 ((first | refine ak rfl rfl fun K hK=>?_ | refine aj rfl rfl fun K hK=>?_ | refine aB rfl rfl fun K hK=>?_ | refine aw rfl rfl fun K hK=>?_ | refine aA rfl rfl fun K hK=>?_);go_simp;refine hK _ ?_;clear hK K)
 refine aK rfl rfl rfl (fun K hK=>?_);unfold aM;go_simp;refine hK _ _ ?_;clear hK K;refine aH (fun _=>True) trivial (aD ?_);go_wp2_with fail;refine bodyPost_ret (v:=.tuple #[.pointer none, .agg #[.int .i64 1, .int .i64 (-1)]]) (by simp [results,Try.results42,go_sem,l0,l1]) rfl ⟨rfl,(HKA.out.drew.setCell (p:=⟨w.heap.size,0,none⟩) (.inr (Nat.le_refl _)) _).setCell (p:=⟨w.heap.size,1,none⟩) (.inr (Nat.le_refl _)) _⟩
theorem pS (n o:Int) (w:World) (h:Ar.fits n o=true) :
  Calls Try.prog 42 #[.int .i64 n, .int .i64 o] w fun e w'=>q6 w n o e w':=by
 have HF:=Hz h;have ho:o≤1000000∧-9223372036854775808≤o:=by simp [Ar.fits] at h;omega
 obtain ⟨i0,hi,hz0,hz1,hz2⟩:=info_parts lX;have Hi:=Hz hi;have Hz0:=Hz hz0;have Hz1:=Hz hz1;have Hz2:=Hz hz2;clear hi hz0 hz1 hz2;clear h;go_enter Try.func42,Try.ntmps42;go_wp2_with fail;refine (pL n o _ HF.out).mono ?_;rintro e w1 ⟨pa,g,rfl,hA,hk,hpa,hg⟩;have HA:=Hz hA;have HK:=Hz (((Kz w).alloc (.cells #[.int .i64 0, .int .i64 0] 26)).trans hk);have HZ:=Hz (hk.ai (show ah (w.alloc (.cells #[.int .i64 0, .int .i64 0] 26)) w.heap.size [.int .i64 0, .int .i64 0] 26 from ah.newAt _ rfl rfl) (fun h=>h));have hsz:=hk.size;simp at hsz hpa hg;have HPA:=Hz hpa;have HG:=Hz hg;clear hA hk hpa hg;go_wp2_with fail;refine (sL n o _ ho.1 ho.2).mono ?_;rintro e w2 ⟨rfl,hC,hz,hk⟩;have hka:=(Kz w1).alloc (.cells #[.int .i64 0, .int .i64 0] 26);have HC:=Hz hC;have HK2:=Hz (HK.out.trans (hka.trans hk));have HA2:=Hz (HA.out.ae (hka.trans hk) (fun h=>h) (fun h=>h));have HZ2:=Hz ((hka.trans hk).ai HZ.out (fun h=>h));have hsz2:=hk.size;simp at hsz2;clear hC hk hz hka;go_wp2_with fail;have HN:=Hz (show iN w ⟨w2.heap.size+1,pa,g,w1.heap.size+1+1,w1.heap.size+1,w2.heap.size, .slice none 0 0, .slice none 0 0, .slice none 0 0⟩ n o ((w2.alloc (.cells #[.slice none 0 0, .slice none 0 0] 129)).alloc (.cells #[.pointer (some ⟨pa,0,none⟩), .pointer (some ⟨w1.heap.size+1+1,0,none⟩), .pointer (some ⟨w2.heap.size,0,none⟩), .slice none 0 0] 65)) 0 (.slice none 0 0) by
  have k1:=(Kz w2).alloc (.cells #[.slice none 0 0, .slice none 0 0] 129);have k2:=(Kz (w2.alloc (.cells #[.slice none 0 0, .slice none 0 0] 129))).alloc (.cells #[.pointer (some ⟨pa,0,none⟩), .pointer (some ⟨w1.heap.size+1+1,0,none⟩), .pointer (some ⟨w2.heap.size,0,none⟩), .slice none 0 0] 65);have k12:=k1.trans k2;have hc:=HC.out;simp only [World.size_alloc] at hc;have s0:w.heap.size≤w1.heap.size:=by omega
  refine ⟨ah.newAt _ (by simp) rfl,HA2.out.ae k12 (fun h=>h) (fun h=>h),hc.ae k12 (fun h=>h) (fun h=>h),?_,Sl.nil _ _ _,HK2.out.trans k12,?_,?_,?_,?_,?_,?_,fun b hb=>(cF hb).elim,fun hb=>cF hb,k12.ai HZ2.out (fun h=>h)⟩
  ·refine ⟨(ah.newAt _ rfl rfl).alloc _,Sl.nil _ _ _,Sl.nil _ _ _,fun k hk=>cF hk.1⟩
  all_goals (have h1:=HPA.out;have h2:=HG.out;dsimp only;omega))
 clear HC HK2 HA2;generalize (w2.alloc (.cells #[.slice none 0 0, .slice none 0 0] 129)).alloc (.cells #[.pointer (some ⟨pa,0,none⟩), .pointer (some ⟨w1.heap.size+1+1,0,none⟩), .pointer (some ⟨w2.heap.size,0,none⟩), .slice none 0 0] 65)=wb at *;go_loopw [27] (fun i wr=>∃ (k:Nat) (v:Value),k≤12∧i=.int .i64 k∧iN w ⟨w2.heap.size+1,pa,g,w1.heap.size+1+1,w1.heap.size+1,w2.heap.size, .slice none 0 0, .slice none 0 0, .slice none 0 0⟩ n o wr k v) (fun i _=>12-(intOf i).toNat)
 case atStart=>exact ⟨0,_,Nat.zero_le _,rfl,HN.out⟩
 case round=>
  clear HN;obtain ⟨k,v,hk,rfl,hI⟩:=hrel;have HI:=Hz hI;clear hI;by_cases hlt:k<12
  ·have c3:=HI.out.hp.cell 3;have pl:=HI.out.hp.lt;have f3:=HI.out.hp.free 3;simp only [Lz,Ls] at c3;obtain ⟨ao,cap,rfl,-,-,-⟩:=HI.out.hr.rd;go_wp2_with fail;refine aq (.free 0 (.free 1 (.free 2 (.free 3 (.pure 4 (.run 5 (.run 6 (.run 7 (.swi [10] (.free 8 (.free 9 (.run 10 (.swi [] (.fin)))))))))))))) [7,8,9,10] (fun w'=>w'.cell? ⟨w2.heap.size+1,3,none⟩=some (.slice ao k cap)) (by kernel_rfl) (by kernel_rfl) c3 ?_
   iterate 5 ((first | refine ak rfl rfl fun K hK=>?_ | refine aj rfl rfl fun K hK=>?_ | refine aB rfl rfl fun K hK=>?_ | refine aw rfl rfl fun K hK=>?_ | refine aA rfl rfl fun K hK=>?_);go_simp;refine hK _ ?_;clear hK K)
   refine bO rfl rfl (fun K hK=>?_);unfold aM;go_simp;refine (sK _).mono ?_;rintro e w3 ⟨rfl,rfl⟩;refine hK _ _ (fun h=>h) ?_;clear hK K;refine bO rfl rfl (fun K hK=>?_);unfold aM;go_simp;have hkb:aa (fun _=>False) wr ((wr.drew).alloc (.cells #[.int .i64 2] 2)):=(Kz wr).drew.alloc (.cells #[.int .i64 2] 2);refine hK _ _ (fun _=>(hkb.ai HI.out.hp (fun h=>h)).cell 3) ?_;clear hK K;refine aK rfl rfl rfl (fun K hK=>?_);refine de (.tmp 33) (.tmp 35) 22 rfl 2 i0 (.int .i64 0) 1 8 Try.underlying22 Hi.out Hz0.out Hz1.out Hz2.out rfl (by decide) _ k (List.replicate k (.int .i64 2)) rfl (HI.out.hr.ae hkb (fun _ _ h=>h)) ⟨wr.heap.size,0,none⟩ 1 1 [.int .i64 2] rfl rfl (bM wr.drew 2 #[.int .i64 2]) (by intro u hu;simp at hu;subst hu;rfl) (by unfold maxLen;omega) (by omega) ?_;intro v3 w3 hs3 hk3 ho3;have HI3:=Hz (HI.out.app hkb hs3 hk3 ho3);have hp3:=hk3.ai (hkb.ai HI.out.hp (fun h=>h)) (fun hv=>by obtain ⟨_,c',hc⟩:=(HI.out.hr.ae hkb (fun _ _ h=>h)).own hv;exact (hkb.ai HI.out.hp (fun h=>h)).ne hc (by decide) rfl);have x0:=hp3.cell 3;have xf:=hp3.free 3;have xl:=hp3.lt;simp only [Lz,Ls] at x0;refine hK _ _ ?_;clear hK K hkb hs3 hk3 ho3 hp3 c3 pl f3;refine aH (fun _=>True) trivial ?_;obtain ⟨vo3,vc3,rfl,-,-,-⟩:=HI3.out.hr.rd
   iterate 2 ((first | refine ak rfl rfl fun K hK=>?_ | refine aj rfl rfl fun K hK=>?_);go_simp;refine hK _ ?_;clear hK K)
   refine aK rfl rfl rfl (fun K hK=>?_);unfold aM;go_simp;refine hK _ _ ?_;clear hK K;refine aH (fun _=>True) trivial (aD ?_);clear x0 xf xl;go_wp2_with fail;go_roundw
   case rel=>exact ⟨k+1,_,by omega,by go_num,HI3.out⟩
   case measure=>simp [intOf];omega
  ·obtain rfl:k=12:=by omega
   have z0:=HI.out.hz.cell 0;have z1:=HI.out.hz.cell 1;have zl:=HI.out.hz.lt;have zf:=HI.out.hz.free 0;have zg:=HI.out.hz.free 1;simp only [Lz,Ls] at z0 z1;have HD:=Hz (HI.out.done HF.out);have HKI:=Hz HI.out.hk;go_wp2_with fail;refine bodyPost_ret (v:=.tuple #[.pointer (some ⟨w2.heap.size+1,0,none⟩), .agg #[.int .i64 0, .int .i64 0]]) (by simp [results,Try.results42,go_sem,z0,z1]) rfl ⟨_,rfl,?_,(HKI.out.setCell (p:=⟨w.heap.size,0,none⟩) (.inr (Nat.le_refl _)) _).setCell (p:=⟨w.heap.size,1,none⟩) (.inr (Nat.le_refl _)) _,HD.out.2⟩;have hD:=HD.out.1;have ke:=((aa.refl (·=w.heap.size) wr).setCell (p:=⟨w.heap.size,0,none⟩) (.inl rfl) (.int .i64 0)).setCell (p:=⟨w.heap.size,1,none⟩) (.inl rfl) (.int .i64 0);exact hD.ae ke (fun b hb e=>by
    subst e;have hzz:=HI.out.hz;rcases hb with e | (e | e) | (e | e) | e | e
    ·exact hzz.ne hD.hp (by decide) e
    ·exact hzz.ne hD.ha.hp (by decide) e
    ·exact hzz.ne hD.ha.hg (by decide) e
    ·exact hzz.ne hD.hc.hp (by decide) e
    ·exact hzz.ne hD.hc.hq (by decide) e
    ·exact hD.qX hzz (by decide) (by decide) e
    ·exact hD.nR hzz (by decide) e)
end
section
open Go.RowKit
def bg {α:Type} (c:Nat) (R:α→List Value→Prop):List α→List Value→Prop
 | [],cs=>cs=[]
 | a :: l,cs=>∃ r rest,cs=r ++ rest∧r.length=c∧R a r∧bg c R l rest
section
variable {α:Type} {c:Nat} {R Q:α→List Value→Prop}
theorem bg.length:∀ {l:List α} {cs:List Value},bg c R l cs→cs.length=l.length*c
 | [],cs,h=>by cases h;simp
 | a :: l,cs,h=>by
  obtain ⟨r,rest,rfl,h1,_,h2⟩:=h;rw [List.length_append,h1,bg.length h2,List.length_cons,Nat.succ_mul];omega
theorem bg.mono {l:List α} (hq:∀ a ∈ l, ∀ r,R a r→Q a r):∀ {cs:List Value},bg c R l cs→bg c Q l cs:=by
 induction l with
 | nil=>intro cs h;exact h
 | cons a l ih=>
  intro cs h;obtain ⟨r,rest,rfl,h1,h2,h3⟩:=h;exact ⟨r,rest,rfl,h1,hq a (by simp) r h2,ih (fun b hb=>hq b (by simp [hb])) h3⟩
theorem bg.app:∀ {l:List α} {cs:List Value} {a:α} {r:List Value},bg c R l cs→r.length=c→R a r→bg c R (l ++ [a]) (cs ++ r)
 | [],cs,a,r,h,h1,h2=>by cases h;exact ⟨r,[],by simp,h1,h2,rfl⟩
 | b :: l,cs,a,r,h,h1,h2=>by
  obtain ⟨r',rest,rfl,h3,h4,h5⟩:=h;exact ⟨r',rest ++ r,by simp,h3,h4,bg.app h5 h1 h2⟩
theorem bg.get:∀ {l:List α} {cs:List Value} {i:Nat} (h:i<l.length),bg c R l cs→∃ r,(cs.drop (i*c)).take c=r∧r.length=c∧R l[i] r
 | a :: l,cs,0,_,h=>by
  obtain ⟨r,rest,rfl,h1,h2,_⟩:=h;exact ⟨r,by simp [←h1],h1,h2⟩
 | a :: l,cs,i+1,hi,h=>by
  obtain ⟨r,rest,rfl,h1,_,h2⟩:=h;obtain ⟨r',e,h3,h4⟩:=bg.get (i:=i) (by simpa using hi) h2;refine ⟨r',?_,h3,h4⟩;rw [←e,Nat.succ_mul,Nat.add_comm,←h1,←List.drop_drop,List.drop_left]
theorem bg.cell {l:List α} {cs:List Value} {i:Nat} (h:i<l.length) (hr:bg c R l cs):∃ r,r.length=c∧R l[i] r∧∀ j,j<c→cs[i*c+j]? = r[j]? := by
 obtain ⟨r,e,h1,h2⟩:=bg.get h hr;refine ⟨r,h1,h2,fun j hj=>?_⟩;rw [←e,List.getElem?_take,if_pos hj,List.getElem?_drop]
theorem bg.set:∀ {l:List α} {cs:List Value} {i:Nat} {a:α} {r:List Value} (_:i<l.length),bg c R l cs→r.length=c→R a r →
  bg c R (l.set i a) (cs.take (i*c) ++ r ++ cs.drop (i*c+c))
 | b :: l,cs,0,a,r,_,h,h1,h2=>by
  obtain ⟨r',rest,rfl,h3,_,h5⟩:=h;refine ⟨r,rest,?_,h1,h2,h5⟩;simp [←h3]
 | b :: l,cs,i+1,a,r,hi,h,h1,h2=>by
  obtain ⟨r',rest,rfl,h3,h4,h5⟩:=h;refine ⟨r',_,?_,h3,h4,bg.set (i:=i) (by simpa using hi) h5 h1 h2⟩;have e:(i+1)*c=r'.length+i*c:=by rw [Nat.succ_mul,h3];omega
  rw [e,List.take_append,List.take_of_length_le (by omega),show r'.length+i*c-r'.length=i*c by omega,show r'.length+i*c+c=r'.length+(i*c+c) by omega,←List.drop_drop,List.drop_left];simp
theorem bg.setCell {l:List α} {cs:List Value} {i j:Nat} {a:α} {u:Value} (h:i<l.length) (hj:j<c) (hr:bg c R l cs) (hR:∀ r,r.length=c→R l[i] r→R a (r.set j u)) :
  bg c R (l.set i a) (cs.set (i*c+j) u):=by
 obtain ⟨r,e,h1,h2⟩:=bg.get h hr;have hlen:=bg.length hr;have hm:i*c+c≤l.length*c:=by rw [←Nat.succ_mul];exact Nat.mul_le_mul_right _ h
 have:=bg.set (a:=a) (r:=r.set j u) h hr (by simpa using h1) (hR r h1 h2);have e2:cs.set (i*c+j) u=cs.take (i*c) ++ r.set j u ++ cs.drop (i*c+c):=by
  apply List.ext_getElem?;intro k;rw [List.getElem?_set];by_cases k1:k<i*c
  ·rw [if_neg (by omega),List.append_assoc,List.getElem?_append_left (by simp;omega),List.getElem?_take,if_pos k1]
  ·by_cases k2:k<i*c+c
   ·rw [List.append_assoc,List.getElem?_append_right (by simp;omega),List.length_take,List.getElem?_append_left (by simp;omega),List.getElem?_set,Nat.min_eq_left (by omega)];by_cases e3:i*c+j=k
    ·rw [if_pos e3,if_pos (by omega),if_pos (by omega),if_pos (by omega)]
    ·rw [if_neg e3,if_neg (by omega),←e,List.getElem?_take,if_pos (by omega),List.getElem?_drop];congr 1;omega
   ·rw [if_neg (by omega),List.getElem?_append_right (by simp;omega),List.getElem?_drop];congr 1;simp;omega
 rw [e2];exact this
end
end
section
open Go.RowKit Go.Maps
theorem Rd.int64 {w:World} {ao:Option Addr} {l:List Int} (h:Rd w ao (l.map (Value.int .i64))) (i:Nat) (hi:i<l.length) :
  ∃ g o,ao=some ⟨g,o,none⟩∧g<w.heap.size∧w.cell? ⟨g,o+i,none⟩=some (.int .i64 (l.getD i 0)):=by
 obtain ⟨g,o,rfl,hg,hc⟩:=h (by intro e;simp at e;subst e;simp at hi);refine ⟨g,o,rfl,hg,?_⟩;rw [hc i (by simpa using hi)];simp [List.getD,hi]
theorem Sl.set {w:World} {e size:Nat} {g o n cap j:Nat} {xs:List Value} {u:Value} (h:Sl w e size (.slice (some ⟨g,o,none⟩) n cap) n xs) (hj:j<n*size) :
  Sl (w.setCell ⟨g,o+j,none⟩ u) e size (.slice (some ⟨g,o,none⟩) n cap) n (xs.set j u):=by
 obtain ⟨hl,⟨h1,_⟩ | ⟨g',o',cap',cur,e1,hb,h1,h2,h3,h4⟩⟩:=h
 ·cases h1
 ·cases e1;refine ⟨by simpa using hl, .inr ⟨g,o,cap,_,rfl,hb.aF _ _,h1,h2,by simpa using h3,?_⟩⟩;rw [←h4];apply List.ext_getElem?;intro k;simp only [List.getElem?_take,List.getElem?_drop,List.getElem?_set,List.length_take,List.length_drop];by_cases hk:k<n*size
  ·rw [if_pos hk,if_pos hk];by_cases e:j=k
   ·subst e;have:n*size≤cap*size:=Nat.mul_le_mul_right _ h1;rw [if_pos rfl,if_pos rfl,if_pos (by omega),if_pos (by omega)]
   ·rw [if_neg (by omega),if_neg e]
  ·rw [if_neg hk,if_neg (by omega)];rw [if_neg hk]
def dn (w:World) (F:Nat→Prop) (nd:Nd) (r:List Value):Prop:=
 ∃ ao cap,r=[.int .i64 nd.1, .slice ao nd.2.length cap]∧Rd w ao (aC nd.2)∧(∀ a,ao=some a→F a.block)∧nd.2.length≤maxLen
theorem dn.ae {w w':World} {F S:Nat→Prop} {nd:Nd} {r:List Value} (h:dn w F nd r) (k:aa S w w') (hn:∀ b,F b→b<w.heap.size→¬ S b):dn w' F nd r:=by
 obtain ⟨ao,cap,e,hr,hf,hc⟩:=h;exact ⟨ao,cap,e,hr.ae k (fun a ha hb=>hn _ (hf a ha) hb),hf,hc⟩
theorem dn.more {w:World} {F F':Nat→Prop} {nd:Nd} {r:List Value} (h:dn w F nd r) (hF:∀ b,F b→F' b):dn w F' nd r:=by
 obtain ⟨ao,cap,e,hr,hf,hc⟩:=h;exact ⟨ao,cap,e,hr,fun a ha=>hF _ (hf a ha),hc⟩
def bQ (w:World) (nv:Value) (F:Nat→Prop) (l:List Nd):Prop:=∃ cs,Sl w 83 2 nv l.length cs∧bg 2 (dn w F) l cs
theorem bQ.ae {w w':World} {F S:Nat→Prop} {nv:Value} {l:List Nd} (h:bQ w nv F l) (k:aa S w w') (hn:∀ b,F b→b<w.heap.size→¬ S b) (hv:∀ b,ag nv b→¬ S b):bQ w' nv F l:=by
 obtain ⟨cs,h1,h2⟩:=h;exact ⟨cs,h1.ae k hv,h2.mono (fun a _ r hr=>hr.ae k hn)⟩
theorem bQ.nil (w:World) (F:Nat→Prop):bQ w (.slice none 0 0) F []:=⟨[],Sl.nil _ _ _,rfl⟩
end
section
open Go.RowKit Go.Maps
section
variable {w w':World} {h:WH} {O:Wo}
theorem bQ.own {F:Nat→Prop} {nv:Value} {l:List Nd} (h:bQ w nv F l) {k:Nat} (hk:ag nv k):k<w.heap.size∧∃ c,ah w k c 83:=by
 obtain ⟨cs,hs,_⟩:=h;exact hs.own hk
variable {q b:Nat} {rv nv:Value} {F:Nat→Prop} {s:VS}
end
end
section
open Go.RowKit Go.Maps
theorem b7 {T:TypeId} {z:Option Value} {s b:Nat} (h:(Try.prog.info? T).map (fun i=>(i.zero,i.size,i.bytes))=some (z,s,b)):∃ i,Try.prog.info? T=some i∧i.zero=z∧i.size=s∧i.bytes=b:=by
 cases hx:Try.prog.info? T with
 | none=>rw [hx] at h;cases h
 | some i=>rw [hx] at h;simp at h;exact ⟨i,rfl,h.1,h.2.1,h.2.2⟩
theorem jh:(Try.prog.info? 83).map (fun i=>(i.zero,i.size,i.bytes))=some (some (.agg #[.int .i64 0, .slice none 0 0]),2,32):=by kernel_rfl
theorem eT:(Try.prog.info? 78).map (fun i=>(i.zero,i.size,i.bytes))=some (some (.agg #[.int .i64 0, .int .i64 0]),2,16):=by kernel_rfl
section
variable {h:WH} {O:Wo} {q b:Nat} {rv:Value}
def NS (G:Gr) (n:Nat) (x:Int) (s:VS) (j:Nat):List Vl × VS:=fldM (valM G n) ((G x).2.take j) (s.1 ++ [x],s.2 ++ [((G x).1,[])])
theorem ng (G:Gr) (n:Nat) (x:Int) (s:VS):NS G n x s 0=([],(s.1 ++ [x],s.2 ++ [((G x).1,[])])):=rfl
theorem kO (G:Gr) (n:Nat) (x:Int) (s:VS) {j:Nat} {v:Vl} (h:(G x).2[j]? = some v):NS G n x s (j+1)=((NS G n x s j).1 ++ [(valM G n v (NS G n x s j).2).1],(valM G n v (NS G n x s j).2).2):=by
 unfold NS;rw [List.take_add_one,h,Option.toList_some,iE]
 rfl
theorem l5 (G:Gr) (n:Nat) (x:Int) (s:VS) {j:Nat} (h:j≤(G x).2.length):(NS G n x s j).1.length=j:=by
 unfold NS;rw [iF,List.length_take];omega
theorem nh (G:Gr) (n:Nat) (x:Int) (s:VS) (j:Nat) (hl:s.2.length=s.1.length):(NS G n x s j).2.2[s.1.length]? = some ((G x).1,[]):=by
 unfold NS;rw [iL (iJ G n) (iH G n) (nQ G n) _ _ (by simp [hl]) s.1.length (by simp)];simp [←hl]
end
end
section
open Go.RowKit Go.Maps
section
variable {h:WH} {O:Wo} {q b:Nat} {rv:Value}
def gY (w:World) (lo:Nat) (v:Value) (V:List Vl × List Nd):Prop:=
 ∃ ro rc no nc F,v=.agg #[.slice ro V.1.length rc, .slice no V.2.length nc]∧Sl w 78 2 (.slice ro V.1.length rc) V.1.length (aC V.1)∧bQ w (.slice no V.2.length nc) F V.2 ∧
  ∀ k,(F k∨ag (.slice ro V.1.length rc) k∨ag (.slice no V.2.length nc) k)→lo≤k∧k<w.heap.size
theorem gY.ae {w w':World} {S:Nat→Prop} {lo:Nat} {v:Value} {V:List Vl × List Nd} (H:gY w lo v V) (k:aa S w w') (hn:∀ j,lo≤j→j<w.heap.size→¬ S j):gY w' lo v V:=by
 obtain ⟨ro,rc,no,nc,F,e,h1,h2,h3⟩:=H;refine ⟨ro,rc,no,nc,F,e,h1.ae k (fun j hj=>?_),h2.ae k (fun j hj _=>?_) (fun j hj=>?_),fun j hj=>⟨(h3 j hj).1,Nat.lt_of_lt_of_le (h3 j hj).2 k.size⟩⟩
 ·have:=h3 j (.inr (.inl hj));exact hn j this.1 this.2
 ·have:=h3 j (.inl hj);exact hn j this.1 this.2
 ·have:=h3 j (.inr (.inr hj));exact hn j this.1 this.2
def TS (O:Wo) (k:Nat):List Vl × VS:=fldM (valM O.gr 5000) ((O.rt.map pQ).take k) ([],[])
def iq (w:World) (V:List Vl × List Nd) (e:Ending) (w':World):Prop:=∃ v,e=.returned v∧gY w' w.heap.size v V∧aa (fun _=>False) w w'
end
end
section
open Go.RowKit
theorem Rd.val {w:World} {ao:Option Addr} {l:List Vl} (h:Rd w ao (aC l)) (i:Nat) (hi:i<l.length) :
  ∃ g o,ao=some ⟨g,o,none⟩∧g<w.heap.size∧w.cell? ⟨g,o+i*2,none⟩=some (.int .i64 (l.getD i (0,0)).1)∧w.cell? ⟨g,o+i*2+1,none⟩=some (.int .i64 (l.getD i (0,0)).2):=by
 have hlen:(aC l).length=l.length*2:=bU l;obtain ⟨g,o,rfl,hg,hc⟩:=h (by intro e;rw [e] at hlen;simp at hlen;omega);have h1:=jP l i hi;refine ⟨g,o,rfl,hg,?_,?_⟩
 ·rw [hc (i*2) (by rw [hlen];omega)];exact h1.1
 ·rw [Nat.add_assoc,hc (i*2+1) (by rw [hlen];omega)];exact h1.2
theorem ji (a b:Option Addr) (ca cb:Nat) (l:List Vl) (w:World) (h1:Rd w a (aC l)) (h2:Rd w b (aC l)) (hl:l.length≤1000000) :
  Calls Try.prog 93 #[.slice a l.length ca, .slice b l.length cb] w fun e w'=>e=.returned (.bool true)∧aa (fun _=>False) w w':=by
 have H1:=Hz h1;have H2:=Hz h2;clear h1 h2;go_enter Try.func93,Try.ntmps93;go_wp2_with fail;go_loopw [5] (fun i wr=>∃ k:Nat,k≤l.length∧i=.int .i64 k∧aa (fun _=>False) w wr) (fun i _=>l.length-(intOf i).toNat)
 case atStart=>exact ⟨0,Nat.zero_le _,rfl,aa.refl _ _⟩
 case round=>
  obtain ⟨k,hk,rfl,hkk⟩:=hrel;have HK:=Hz hkk;clear hkk;by_cases hlt:k<l.length
  ·obtain ⟨g,o,rfl,hgl,d0,d1⟩:=(H1.out.ae HK.out (fun _ _ _ h=>h)).val k hlt;obtain ⟨g',o',rfl,hgl',e0,e1⟩:=(H2.out.ae HK.out (fun _ _ _ h=>h)).val k hlt;generalize l.getD k (0,0)=v at *;go_wp2_with fail;refine aq (.free 0 (.free 1 (.free 2 (.free 4 (.free 5 (.free 6 (.pure 3 (.pure 7 (.free 8 (.fin)))))))))) [] (fun w'=>w'.cell? ⟨g,o+k*2,none⟩=some (.int .i64 v.1)∧w'.cell? ⟨g,o+k*2+1,none⟩=some (.int .i64 v.2)∧w'.cell? ⟨g',o' + k*2,none⟩=some (.int .i64 v.1)∧w'.cell? ⟨g',o' + k*2+1,none⟩=some (.int .i64 v.2)) (by kernel_rfl) (by kernel_rfl) ⟨d0,d1,e0,e1⟩ ?_
   iterate 9 ((first | refine ak rfl rfl fun K hK=>?_ | refine aj rfl rfl fun K hK=>?_ | refine aB rfl rfl fun K hK=>?_ | refine aw rfl rfl fun K hK=>?_ | refine aA rfl rfl fun K hK=>?_);go_simp;refine hK _ ?_;clear hK K)
   refine aD ?_;go_wp2_with fail;go_roundw
   case rel=>exact ⟨k+1,by omega,by go_num,HK.out.drew⟩
   case measure=>simp [intOf];omega
  ·obtain rfl:k=l.length:=by omega
   go_wp2_with fail;go_ret;exact ⟨rfl,HK.out⟩
theorem bQ.nth {w:World} {nv:Value} {F:Nat→Prop} {l:List Nd} (h:bQ w nv F l):∃ no nc,nv=.slice no l.length nc∧∀ i,i<l.length→∃ g o ao cap,no=some ⟨g,o,none⟩∧g<w.heap.size∧w.cell? ⟨g,o+i*2,none⟩=some (.int .i64 (l.getD i (0,[])).1) ∧
  w.cell? ⟨g,o+i*2+1,none⟩=some (.slice ao (l.getD i (0,[])).2.length cap)∧Rd w ao (aC (l.getD i (0,[])).2)∧(l.getD i (0,[])).2.length≤maxLen:=by
 obtain ⟨cs,hs,hr⟩:=h;obtain ⟨no,nc,rfl,hrd,-,-⟩:=hs.rd;refine ⟨no,nc,rfl,fun i hi=>?_⟩;obtain ⟨r,h1,⟨ao,cap,rfl,h2,-,h3⟩,h4⟩:=hr.cell hi;have hlen:=hr.length;have hne:cs≠[]:=by intro e;subst e;simp at hlen;omega
 obtain ⟨g,o,rfl,hg,hc⟩:=hrd hne;have e:l.getD i (0,[])=l[i]:=by rw [Ld,Le hi];rfl
 rw [e];refine ⟨g,o,ao,cap,rfl,hg,?_,?_,h2,h3⟩
 ·have:=h4 0 (by decide);rw [hc (i*2) (by rw [hlen];omega)];exact this
 ·have:=h4 1 (by decide);rw [Nat.add_assoc,hc (i*2+1) (by rw [hlen];omega)];exact this
def gZ (w:World) (v:Value) (V:List Vl × List Nd):Prop:=
 ∃ ro rc nv F,v=.agg #[.slice ro V.1.length rc,nv]∧Rd w ro (aC V.1)∧bQ w nv F V.2∧V.1.length≤1000000∧V.2.length≤1000000∧∀ n ∈ V.2,n.2.length≤1000000
theorem gY.r {w:World} {lo:Nat} {v:Value} {V:List Vl × List Nd} (H:gY w lo v V) (h1:V.1.length≤1000000) (h2:V.2.length≤1000000) (h3:∀ n ∈ V.2,n.2.length≤1000000):gZ w v V:=by
 obtain ⟨ro,rc,no,nc,F,e,a,b,c⟩:=H;obtain ⟨_,_,e',hr,-,-⟩:=a.rd;cases e';exact ⟨ro,rc,_,F,e,hr,b,h1,h2,h3⟩
theorem jj (x y:Value) (V:List Vl × List Nd) (w:World) (h1:gZ w x V) (h2:gZ w y V) :
  Calls Try.prog 47 #[x,y] w fun e w'=>e=.returned (.bool true)∧aa (fun _=>False) w w':=by
 obtain ⟨ro,rc,nv,F,rfl,r1,n1,l1,l2,l3⟩:=h1;obtain ⟨so,sc,mv,E,rfl,r2,n2,-,-,-⟩:=h2;obtain ⟨no,nc,rfl,N1⟩:=n1.nth;obtain ⟨mo,mc,rfl,N2⟩:=n2.nth;have R1:=Hz r1;have R2:=Hz r2;have M1:=Hz n1;have M2:=Hz n2;have L3:=Hz l3;clear r1 r2 n1 n2 N1 N2 l3;go_enter Try.func47,Try.ntmps47;go_wp2_with fail;have hka:=(Kz w).alloc (.cells #[.slice ro V.1.length rc, .slice no V.2.length nc] 72);have hkb:=hka.alloc (.cells #[.slice so V.1.length sc, .slice mo V.2.length mc] 72);obtain ⟨wa,ea⟩:∃ x,x=w.alloc (.cells #[.slice ro V.1.length rc, .slice no V.2.length nc] 72):=⟨_,rfl⟩;have hba:ah wa w.heap.size [.slice ro V.1.length rc, .slice no V.2.length nc] 72:=by rw [ea];exact ah.newAt _ rfl rfl
 have hsz:wa.heap.size=w.heap.size+1:=by rw [ea];simp
 rw [←ea] at hka hkb ⊢;have hb1:=((Kz wa).alloc (.cells #[.slice so V.1.length sc, .slice mo V.2.length mc] 72)).ai hba (fun h=>h);have hb2:ah (wa.alloc (.cells #[.slice so V.1.length sc, .slice mo V.2.length mc] 72)) wa.heap.size [.slice so V.1.length sc, .slice mo V.2.length mc] 72:=ah.newAt _ rfl rfl;rw [hsz] at hb2;generalize wa.alloc (.cells #[.slice so V.1.length sc, .slice mo V.2.length mc] 72)=wb at *;obtain ⟨b,hb⟩:∃ b,w.heap.size=b:=⟨_,rfl⟩;rw [hb] at hb1 hb2 hsz ⊢;clear hba ea hka hb;refine (ji ro so rc sc V.1 _ (R1.out.ae hkb (fun _ _ _ h=>h)) (R2.out.ae hkb (fun _ _ _ h=>h)) l1).mono ?_;rintro e w1 ⟨rfl,hk1⟩;have HK1:=Hz (hkb.trans hk1);have HB1:=Hz (hk1.ai hb1 (fun h=>h));have HB2:=Hz (hk1.ai hb2 (fun h=>h));clear hk1 hb1 hb2 hkb;have c0:=HB1.out.cell 0;have c1:=HB1.out.cell 1;have cl:=HB1.out.lt;have d0:=HB2.out.cell 0;have d1:=HB2.out.cell 1;have dl:=HB2.out.lt;simp only [Lz,Ls] at c0 c1 d0 d1;go_wp2_with fail;clear c0 c1 cl d0 d1 dl;go_loopw [5] (fun i wr=>∃ k:Nat,k≤V.2.length∧i=.int .i64 k∧aa (fun _=>False) w wr∧ah wr b [.slice ro V.1.length rc, .slice no V.2.length nc] 72∧ah wr (b+1) [.slice so V.1.length sc, .slice mo V.2.length mc] 72) (fun i _=>V.2.length-(intOf i).toNat)
 case atStart=>exact ⟨0,Nat.zero_le _,rfl,HK1.out,HB1.out,HB2.out⟩
 case round=>
  obtain ⟨k,hk,rfl,hkk,hb1,hb2⟩:=hrel;have HK:=Hz hkk;have HX1:=Hz hb1;have HX2:=Hz hb2;clear HK1 HB1 HB2 hkk hb1 hb2;have c1:=HX1.out.cell 1;have cl:=HX1.out.lt;have d1:=HX2.out.cell 1;have dl:=HX2.out.lt;simp only [Lz,Ls] at c1 d1;by_cases hlt:k<V.2.length
  ·obtain ⟨no',nc',e',N1⟩:=(M1.out.ae HK.out (fun _ _ _ h=>h) (fun _ _ h=>h)).nth;cases e';obtain ⟨mo',mc',e',N2⟩:=(M2.out.ae HK.out (fun _ _ _ h=>h) (fun _ _ h=>h)).nth;cases e';obtain ⟨g,o,ao,ac,rfl,hgl,x0,x1,rd1,-⟩:=N1 k hlt;obtain ⟨g',o',ao',ac',rfl,hgl',y0,y1,rd2,-⟩:=N2 k hlt;have hnl:(V.2.getD k (0,[])).2.length≤1000000:=by
    rw [Ld,Le hlt];exact L3.out _ (List.getElem_mem _)
   generalize V.2.getD k (0,[])=nd at *;have RD1:=Hz rd1;have RD2:=Hz rd2;clear N1 N2 rd1 rd2;go_wp2_with fail;refine aq (.free 0 (.free 2 (.free 6 (.free 8 (.pure 1 (.free 3 (.free 4 (.pure 5 (.pure 7 (.free 9 (.free 10 (.pure 11 (.free 12 (.free 13 (.free 14 (.free 16 (.free 20 (.free 22 (.pure 15 (.free 17 (.free 18 (.pure 19 (.pure 21 (.free 23 (.free 24 (.pure 25 (.run 26 (.swi [] (.free 27 (.free 28 (.fin))))))))))))))))))))))))))))))) [26,27,28] (fun w'=>w'.cell? ⟨b,1,none⟩=some (.slice (some ⟨g,o,none⟩) V.2.length nc)∧w'.cell? ⟨b+1,1,none⟩=some (.slice (some ⟨g',o',none⟩) V.2.length mc)∧w'.cell? ⟨g,o+k*2,none⟩=some (.int .i64 nd.1)∧w'.cell? ⟨g,o+k*2+1,none⟩=some (.slice ao nd.2.length ac)∧w'.cell? ⟨g',o' + k*2,none⟩=some (.int .i64 nd.1)∧w'.cell? ⟨g',o' + k*2+1,none⟩=some (.slice ao' nd.2.length ac')) (by kernel_rfl) (by kernel_rfl) ⟨c1,d1,x0,x1,y0,y1⟩ ?_
   iterate 26 ((first | refine ak rfl rfl fun K hK=>?_ | refine aj rfl rfl fun K hK=>?_ | refine aB rfl rfl fun K hK=>?_ | refine aw rfl rfl fun K hK=>?_ | refine aA rfl rfl fun K hK=>?_);go_simp;refine hK _ ?_;clear hK K)
   refine aK rfl rfl rfl (fun K hK=>?_);unfold aM;go_simp;refine (ji ao ao' ac ac' nd.2 _ (RD1.out.ae ((Kz wr).drew) (fun _ _ _ h=>h)) (RD2.out.ae ((Kz wr).drew) (fun _ _ _ h=>h)) hnl).mono ?_;rintro e w2 ⟨rfl,hk2⟩;refine hK _ _ ?_;clear hK K;have HK2:=Hz (HK.out.drew.trans hk2);have HY1:=Hz (hk2.ai HX1.out.drew (fun h=>h));have HY2:=Hz (hk2.ai HX2.out.drew (fun h=>h));refine aH (fun _=>True) trivial ?_
   iterate 2 ((first | refine ak rfl rfl fun K hK=>?_ | refine aj rfl rfl fun K hK=>?_);go_simp;refine hK _ ?_;clear hK K)
   refine aD ?_;go_wp2_with fail;go_roundw
   case rel=>exact ⟨k+1,by omega,by go_num,HK2.out,HY1.out,HY2.out⟩
   case measure=>simp [intOf];omega
  ·obtain rfl:k=V.2.length:=by omega
   go_wp2_with fail;go_ret;exact ⟨rfl,HK.out⟩
end
section
open Go.RowKit
def overL (p:Nat→Bool) (u:Nat→Value):Nat→List Value→List Value
 | _,[]=>[]
 | i,v :: l=>(bif p i then u i else v) :: overL p u (i+1) l
def cV (a:Act) (p:Nat→Bool) (u:Nat→Value):Act:={ a with tmps:=(overL p u 0 a.tmps.toList).toArray }
def slotsOf (a:Act) (i:Nat):Value:=a.tmps.toList.getD i undef
def lK (a:Act) (p:Nat→Bool) (R:(Nat→Value)→World→Prop) (a':Act) (w':World):Prop:=a'=cV a p (slotsOf a')∧R (slotsOf a') w'
def sN (a:Act) (p:Nat→Bool) (R:(Nat→Value)→World→Prop) (mu:(Nat→Value)→World→Nat) (n:Nat) (a':Act) (w':World):Prop:=lK a p R a' w'∧mu (slotsOf a') w' < n
variable {P:Program} {a:Act} {w:World} {c:Code} {Q:Exit→Act→World→Prop}
theorem kn (p:Nat→Bool) (u:Nat→Value):∀ (l:List Value) (i:Nat),(∀ j,j<l.length→u (i+j)=l.getD j undef)→overL p u i l=l
 | [],i,_=>rfl
 | v :: l,i,h=>by
  have h0:=h 0 (by simp);simp only [Nat.add_zero,List.getD_cons_zero] at h0;have ih:=kn p u l (i+1) (fun j hj=>by
   have:=h (j+1) (by simp;omega);rw [show i+(j+1)=i+1+j by omega,List.getD_cons_succ] at this
   exact this)
  simp only [overL,ih,h0];cases p i <;> rfl
theorem nT (a:Act) (p:Nat→Bool):a=cV a p (slotsOf a):=by
 cases a with
 | mk t d=>
  unfold cV slotsOf;dsimp only;rw [kn p _ t.toList 0 (fun j hj=>by rw [Nat.zero_add])]
theorem dD (p:Nat→Bool) (R:(Nat→Value)→World→Prop) (mu:(Nat→Value)→World→Nat) (h0:R (slotsOf a) w)
  (round:∀ (u:Nat→Value) (w':World),R (slotsOf (cV a p u)) w'→∀ K:Act→World→Prop,(∀ a'' w'',sN a p R mu (mu (slotsOf (cV a p u)) w') a'' w''→K a'' w'')→c.wp P (Exit.then K Q) (cV a p u) w') :
  (Code.loop c).wp P Q a w:=by
 refine wp_loop (lK a p R) (fun a' w'=>mu (slotsOf a') w') ⟨nT a p,h0⟩ ?_;rintro a' w' ⟨e,hR⟩;obtain ⟨u,hu⟩:∃ u,u=slotsOf a':=⟨_,rfl⟩;rw [←hu] at e;subst e;exact round u w' hR _ (fun a'' w'' h=>h)
theorem dS {K:Act→World→Prop} (p:Nat→Bool) (R:(Nat→Value)→World→Prop)
  (first:∀ K':Act→World→Prop,(∀ a'' w'',lK a p R a'' w''→K' a'' w'')→c.wp P (Exit.then K' Q) a w)
  (rest:∀ (u:Nat→Value) (w':World),R (slotsOf (cV a p u)) w'→K (cV a p u) w'):c.wp P (Exit.then K Q) a w:=by
 refine wp_mono (first (lK a p R) (fun _ _ h=>h)) ?_;intro e a' w' hq;cases e with
 | normal=>
  obtain ⟨e,hR⟩:=hq;obtain ⟨u,hu⟩:∃ u,u=slotsOf a':=⟨_,rfl⟩;rw [←hu] at e;subst e;exact rest u w' hR
 | exit id=>exact hq
 | goto l=>exact hq
 | ret=>exact hq
 | panic ch=>exact hq
 | outgrown=>exact hq
end
section
variable {τ:Type}
def wakeM (alive:τ→Int→Bool) (ae:τ→Int→τ × Int):τ→List (Int × Int)→τ × List (Int × Int) × Bool
 | t,[]=>(t,[],false)
 | t,e :: l=>
  if alive t e.1 && !alive t e.2 then
   let r:=wakeM alive ae (ae t e.2).1 l
   (r.1,(e.1,(ae t e.2).2) :: r.2.1,true)
  else
   let r:=wakeM alive ae t l
   (r.1,e :: r.2.1,r.2.2)
abbrev It:=(Int × Int) × Bool × Bool
def scanM (alive:τ→Int→Bool) (ae:τ→List (Int × Int)→Int→τ × List (Int × Int) × Int):τ→List (Int × Int)→List It→τ × List (Int × Int) × List It × Bool
 | t,q,[]=>(t,q,[],false)
 | t,q,i :: l=>
  if (i.2.1 && !i.2.2) && alive t i.1.1 then
   let r:=scanM alive ae (ae t q i.1.2).1 ((ae t q i.1.2).2.1 ++ [(i.1.1,(ae t q i.1.2).2.2)]) l
   (r.1,r.2.1,(i.1,i.2.1,true) :: r.2.2.1,true)
  else
   let r:=scanM alive ae t q l
   (r.1,r.2.1,i :: r.2.2.1,r.2.2.2)
def roundsM (alive:τ→Int→Bool) (ae:τ→List (Int × Int)→Int→τ × List (Int × Int) × Int):Nat→τ→List (Int × Int)→List It→τ × List (Int × Int) × List It
 | 0,t,q,l=>(t,q,l)
 | n+1,t,q,l=>
  let r:=scanM alive ae t q l
  if r.2.2.2 then roundsM alive ae n r.1 r.2.1 r.2.2.1 else (r.1,r.2.1,r.2.2.1)
def ck (l:List It):Nat:=(l.filter fun i=>!i.2.2).length
theorem fH (i:It) (l:List It):ck (i :: l)=(if i.2.2 then 0 else 1)+ck l:=by
 unfold ck;cases h:i.2.2 <;> simp [List.filter_cons,h];omega
theorem q8 (a b:List It):ck (a ++ b)=ck a+ck b:=by unfold ck;simp
theorem eX (alive:τ→Int→Bool) (ae):∀ (l:List It) (t:τ) (q:List (Int × Int)),(scanM alive ae t q l).2.2.1.map (fun i=>(i.1,i.2.1))=l.map (fun i=>(i.1,i.2.1))
 | [],_,_=>rfl
 | i :: l,t,q=>by
  simp only [scanM];split
  ·simp only [List.map_cons];rw [eX alive ae l]
  ·simp only [List.map_cons];rw [eX alive ae l]
theorem jU (alive:τ→Int→Bool) (ae):∀ (l:List It) (t:τ) (q:List (Int × Int)),ck (scanM alive ae t q l).2.2.1≤ck l∧((scanM alive ae t q l).2.2.2=true→ck (scanM alive ae t q l).2.2.1<ck l)
 | [],_,_=>by simp [scanM]
 | i :: l,t,q=>by
  simp only [scanM];split
  ·rename_i h;have ih:=jU alive ae l (ae t q i.1.2).1 ((ae t q i.1.2).2.1 ++ [(i.1.1,(ae t q i.1.2).2.2)]);simp only [Bool.and_eq_true,Bool.not_eq_true'] at h;simp only [fH,h.1.2];simp;omega
  ·have ih:=jU alive ae l t q;simp only [fH];refine ⟨by omega,fun h=>?_⟩;have:=ih.2 h;omega
def bR (alive:τ→Int→Bool) (now:τ→Int→Int) (t:τ) (l:List It):List (Int × Int):=(l.filter fun i=>!i.2.1 && alive t i.1.1).map fun i=>(now t i.1.1,now t i.1.2)
def bG (alive:τ→Int→Bool) (now:τ→Int→Int) (t:τ) (l:List (Int × Int)):List (Int × Int):=(l.filter fun e=>alive t e.1).map fun e=>(now t e.1,now t e.2)
def bY (alive:τ→Int→Bool) (t:τ) (regs:List (Int × Int)):List It:=regs.map fun e=>(e,!alive t e.2,false)
def ec (alive:τ→Int→Bool) (ae:τ→List (Int × Int)→Int→τ × List (Int × Int) × Int) (t:τ) (regs wait:List (Int × Int)):τ × List (Int × Int) × List It:=
 roundsM alive ae (regs.length+1) t wait (bY alive t regs)
end
section
def ed (G:Gr) (wait:List (Int × Int)) (S:Int→Prop) (i j:Int):Prop:=
 (((G i).1=1∨(G i).1=2)∧((3,j):Vl) ∈ (G i).2) ∨
 ((G i).1=3∧(G i).2[1]? = some (3,j)) ∨
 ((G i).1=4∧(G i).2[1]? = some (3,j)∧∀ v,(G i).2[0]? = some v→v.1=3→S v.2) ∨
 ((G i).1=5∧(i,j) ∈ wait)
def eN (G:Gr) (wait:List (Int × Int)) (S:Int→Prop):Prop:=∀ i j,S i→ed G wait S i j→S j
def aU (G:Gr) (wait:List (Int × Int)) (X:Int→Prop) (i:Int):Prop:=∀ S:Int→Prop,(∀ j,X j→S j)→eN G wait S→S i
section
variable {G:Gr} {wait wait':List (Int × Int)} {S S' X Y:Int→Prop} {i j:Int}
theorem ed.mono (h:∀ k,S k→S' k) (hw:∀ e ∈ wait,e ∈ wait') (hl:ed G wait S i j):ed G wait' S' i j:=by
 rcases hl with h1 | h1 | ⟨h1,h2,h3⟩ | ⟨h1,h2⟩
 ·exact .inl h1
 ·exact .inr (.inl h1)
 ·exact .inr (.inr (.inl ⟨h1,h2,fun v hv h3'=>h _ (h3 v hv h3')⟩))
 ·exact .inr (.inr (.inr ⟨h1,hw _ h2⟩))
theorem aU.base (h:X i):aU G wait X i:=fun _ hX _=>hX i h
theorem aU.least (h:aU G wait X i) (hX:∀ k,X k→S k) (hS:eN G wait S):S i:=h S hX hS
theorem aU.closed (G:Gr) (wait:List (Int × Int)) (X:Int→Prop):eN G wait (aU G wait X):=fun i j hi hl S hX hS=>
 hS i j (hi S hX hS) (hl.mono (fun k hk=>hk S hX hS) (fun _ h=>h))
theorem aU.mono (h:aU G wait X i) (hX:∀ k,X k→aU G wait' Y k) (hw:∀ e ∈ wait,e ∈ wait'):aU G wait' Y i:=
 h _ hX (fun a b ha hl=>aU.closed G wait' Y a b ha (hl.mono (fun _ h=>h) hw))
end
def av (l:List Bool) (i:Int):Bool:=decide (0≤i) && l.getD i.toNat false
theorem cG (l:List Bool) (i:Nat):av l i=l.getD i false:=by simp [av]
theorem ev {l:List Bool} {i:Int} (h:av l i=true):0≤i∧i<l.length:=by
 unfold av at h;simp only [Bool.and_eq_true,decide_eq_true_eq] at h;refine ⟨h.1,?_⟩;by_cases hl:i.toNat<l.length
 ·omega
 ·have h2:=h.2;rw [Ld,List.getElem?_eq_none (by omega)] at h2;cases h2
open Classical in
noncomputable def jV (G:Gr) (wait:List (Int × Int)) (is:List Bool):List Bool:=
 (List.range is.length).map fun i=>decide (aU G wait (fun k=>av is k=true) (i:Nat))
theorem eO (G:Gr) (wait:List (Int × Int)) (is:List Bool):(jV G wait is).length=is.length:=by simp [jV]
open Classical in
theorem bC {G:Gr} {wait:List (Int × Int)} {is:List Bool} {i:Int}:av (jV G wait is) i=true↔0≤i∧i<is.length∧aU G wait (fun k=>av is k=true) i:=by
 constructor
 ·intro h;have:=ev h;rw [eO] at this;refine ⟨this.1,this.2,?_⟩;unfold av jV at h;simp only [Bool.and_eq_true,Ld,List.getElem?_map] at h;rw [List.getElem?_range (by omega)] at h;have h2:=h.2;simp only [Option.map_some,Option.getD_some,decide_eq_true_eq] at h2;rwa [show ((i.toNat:Nat):Int)=i by omega] at h2
 ·rintro ⟨h0,h1,h2⟩;unfold av jV;simp only [Bool.and_eq_true,Ld,List.getElem?_map];rw [List.getElem?_range (by omega)];refine ⟨by simpa using h0,?_⟩;simp only [Option.map_some,Option.getD_some,decide_eq_true_eq];rwa [show ((i.toNat:Nat):Int)=i by omega]
theorem nj {a b:List Bool} (hl:a.length=b.length) (h:∀ i:Int,0≤i→i<a.length→(av a i=true↔av b i=true)):a=b:=by
 apply List.ext_getElem hl;intro k h1 h2;have:=h k (by omega) (by omega);simp only [cG,Ld,Le h1,Le h2,Option.getD_some] at this;rw [Bool.eq_iff_iff];exact this
theorem q9 {G:Gr} {wait:List (Int × Int)} {is out:List Bool} (hl:out.length=is.length) (h1:∀ i,av is i=true→av out i=true) (h2:∀ i,av out i=true→aU G wait (fun k=>av is k=true) i)
  (h3:eN G wait fun k=>av out k=true):out=jV G wait is:=by
 refine nj (by rw [eO,hl]) fun i h0 hlt=>?_;rw [bC];exact ⟨fun h=>⟨h0,by omega,h2 i h⟩,fun h=>h.2.2.least h1 h3⟩
theorem eE {is:List Bool} {x i:Int} (h0:0≤x) (h1:x<is.length):av (is.set x.toNat true) i=true↔i=x∨av is i=true:=by
 unfold av;simp only [Bool.and_eq_true,decide_eq_true_eq,Ld,List.getElem?_set];by_cases e:x.toNat=i.toNat
 ·rw [if_pos e,if_pos (by omega)];simp only [Option.getD_some,and_true];constructor
  ·intro h;left;omega
  ·rintro (rfl | ⟨h,_⟩)
   ·exact h0
   ·exact h
 ·rw [if_neg e];constructor
  ·intro h;exact .inr h
  ·rintro (rfl | h)
   ·exact absurd rfl e
   ·exact h
structure Th where
 k:Int
 fs:List Vl
 aV:Bool
 dead:Bool
structure Wd where
 T:List Th
 roots:List Vl
 regs:List (Int × Int)
 wait:List (Int × Int)
 most:Int
 grow:Int
def Wd.new (n o:Int):Wd:=⟨[],List.replicate 12 (0,0),[],[],n,o⟩
def Th.none:Th:=⟨0,[],false,true⟩
def Wd.th (W:Wd) (i:Int):Th:=W.T.getD i.toNat Th.none
def Wd.rt (W:Wd) (k:Int):Vl:=W.roots.getD k.toNat (0,0)
def Th.words (t:Th):Int:=1+t.fs.length
def Wd.nd (W:Wd):Gr:=fun i=>((W.th i).k,(W.th i).fs)
def cS (wait:List (Int × Int)) (g:Int):List Int:=(wait.filter fun e=>e.1 == g).map (·.2)
def Wd.gr (W:Wd):Gr:=fun i=>((W.th i).k,(W.th i).fs ++ if (W.th i).k=5 then (cS W.wait i).map fun x=>((3,x):Vl) else [])
def Wd.view (W:Wd):List Vl × List Nd:=dZ W.gr W.roots
def cX (l:List Th) (p:Th→Bool):Int:=(l.map fun t=>if p t then t.words else 0).sum
def Wd.aL (W:Wd):Int:=cX W.T fun t=>!t.dead && !t.aV
def Wd.bq (W:Wd):Int:=cX W.T fun t=>!t.dead && t.aV
def Wd.first (W:Wd) (major:Bool):List Bool:=
 (List.range W.T.length).map fun (i:Nat)=>((W.th (i:Int)).aV && !(W.th (i:Int)).dead && !major) || W.roots.any fun v=>v.1 == 3 && v.2 == (i:Int)
noncomputable def Wd.b8 (W:Wd) (wait:List (Int × Int)) (is:List Bool):List Bool:=jV W.nd wait is
noncomputable def Wd.bh (W:Wd) (is:List Bool) (q:List (Int × Int)) (x:Int):List Bool × List (Int × Int) × Int:=(W.b8 q (is.set x.toNat true),q,x)
def fq (is:List Bool) (x:Int):Int:=x
noncomputable def Wd.pass (W:Wd) (major:Bool):List Bool × List (Int × Int) × List It:=ec av W.bh (W.b8 W.wait (W.first major)) W.regs W.wait
def aO (is:List Bool) (v:Vl):Bool:=v.1 != 3 || av is v.2
def bV (is:List Bool) (i:Nat) (t:Th):Th:=
 if is.getD i false then
  ⟨t.k,if t.k=4∧aO is (t.fs.getD 0 (0,0))=false then [(2,0),(2,0)]
   else if t.k=3∧aO is (t.fs.getD 0 (0,0))=false then [(2,0),t.fs.getD 1 (0,0)] else t.fs,true,t.dead⟩
 else ⟨t.k,[],t.aV,true⟩
def gA (is:List Bool) (l:List Th):List Th:=l.mapIdx fun i t=>bV is i t
def fI (is:List Bool) (l:List Th):Int:=(l.mapIdx fun i t=>if is.getD i false then t.words else 0).sum
noncomputable def Wd.after (W:Wd) (major:Bool):Wd:=
 { W with T:=gA (W.pass major).1 W.T,regs:=bR av fq (W.pass major).1 (W.pass major).2.2,wait:=bG av fq (W.pass major).1 (W.pass major).2.1 }
noncomputable def Wd.cut (W:Wd) (major:Bool):Int × Wd:=
 if major=false∧W.aL > W.grow-W.bq then (3,W)
 else if fI (W.pass major).1 W.T > W.grow then (3,W)
 else (0,W.after major)
structure St where
 k:Int
 r:Int
 a:Int
 b:Int
 i:Int
 n:Int
def aJ (k:Int):Int:=
 if k=1∨k=2∨k=8 then 1 else if k=3∨k=5∨k=10∨k=11∨k=13 then 3 else if k=4∨k=6∨k=7∨k=14 then 7 else if k=9∨k=12 then 6 else if k=15∨k=16 then 0 else -1
def cD (k:Int):Bool:=decide (0≤k) && decide (k<12)
def bZ (x:St):Int:=
 if aJ x.k=-1 then 2
 else if (aJ x.k%2=1∧cD x.r=false)∨(aJ x.k/2%2=1∧cD x.a=false)∨(aJ x.k/4%2=1∧cD x.b=false) then 1
 else if x.k=1∧¬ (-dy≤x.n∧x.n<dy) then 1
 else if x.k=5∧¬ (0≤x.n∧x.n≤12) then 1
 else 0
def Wd.aP (W:Wd) (r:Int) (v:Vl):Wd:={ W with roots:=W.roots.set r.toNat v }
def Wd.put (W:Wd) (r k:Int) (from_:List Vl):Wd:={ W with T:=W.T ++ [⟨k,from_,false,false⟩],roots:=W.roots.set r.toNat (eu W.T.length) }
noncomputable def Wd.room (W:Wd) (n:Int):Int × Wd:=if n > W.most-W.aL then W.cut (decide (W.aL > W.grow-W.bq)) else (0,W)
noncomputable def Wd.aW (W:Wd) (r k:Int) (from_:List Int):Int × Wd:=
 if (W.room (1+from_.length)).1=0 then (0,(W.room (1+from_.length)).2.put r k (from_.map (W.room (1+from_.length)).2.rt)) else ((W.room (1+from_.length)).1,W)
def Wd.au (W:Wd) (k:Int):Int:=if (W.rt k).1=3 then (W.rt k).2 else -1
def Wd.guard (W:Wd) (k:Int):Int:=if W.au k<0∨(W.th (W.au k)).k≠5 then -1 else W.au k
def Wd.cm (W:Wd) (i:Int) (fs:List Vl):Wd:={ W with T:=W.T.set i.toNat { W.th i with fs:=fs } }
def popW (wait:List (Int × Int)) (g:Int):Option (Int × List (Int × Int)):=
 match wait with
 | []=>none
 | e :: l=>if e.1=g then some (e.2,l) else (popW l g).map fun r=>(r.1,e :: r.2)
def Wd.gP (W:Wd) (x:St):Int × Wd:=
 if W.au x.a<0∨W.guard x.b<0 then (2,W)
 else if 24≤W.regs.length+W.wait.length then (3,W)
 else (0, { W with regs:=W.regs ++ [(W.guard x.b,W.au x.a)] })
def Wd.pop (W:Wd) (x:St):Int × Wd:=
 if W.guard x.a<0 then (2,W)
 else match popW W.wait (W.guard x.a) with
  | none=>(4,W)
  | some r=>(0, { W with wait:=r.2,roots:=W.roots.set x.r.toNat (3,r.1) })
def Wd.bm (W:Wd) (x:St):Int:=
 if W.au x.a<0∨(W.th (W.au x.a)).k=5 then 2 else if x.i<0∨((W.th (W.au x.a)).fs.length:Int)≤x.i then 1 else 0
def Wd.get (W:Wd) (x:St):Int × Wd:=if W.bm x=0 then (0,W.aP x.r ((W.th (W.au x.a)).fs.getD x.i.toNat (0,0))) else (W.bm x,W)
def Wd.set (W:Wd) (x:St):Int × Wd:=if W.bm x=0 then (0,W.cm (W.au x.a) ((W.th (W.au x.a)).fs.set x.i.toNat (W.rt x.b))) else (W.bm x,W)
def Wd.len (W:Wd) (x:St):Int × Wd:=if W.au x.a<0∨(W.th (W.au x.a)).k=5 then (2,W) else (0,W.aP x.r (1,(W.th (W.au x.a)).fs.length))
def Wd.same (W:Wd) (x:St):Int × Wd:=(0,W.aP x.r (1,if W.rt x.a=W.rt x.b then 1 else 0))
noncomputable def Wd.step (W:Wd) (x:St):Int × Wd:=
 if x.k=1 then (0,W.aP x.r (1,x.n))
 else if x.k=2 then (0,W.aP x.r (0,0))
 else if x.k=3 then (0,W.aP x.r (W.rt x.a))
 else if x.k=4 then W.aW x.r 1 [x.a,x.b]
 else if x.k=5 then W.aW x.r 2 (List.replicate x.n.toNat x.a)
 else if x.k=6 then W.aW x.r 3 [x.a,x.b]
 else if x.k=7 then W.aW x.r 4 [x.a,x.b]
 else if x.k=8 then W.aW x.r 5 []
 else if x.k=9 then W.gP x
 else if x.k=10 then W.pop x
 else if x.k=11 then W.get x
 else if x.k=12 then W.set x
 else if x.k=13 then W.len x
 else if x.k=14 then W.same x
 else if x.k=15 then W.cut false
 else W.cut true
noncomputable def Wd.do (W:Wd) (x:St):Int × Wd:=if bZ x=0 then W.step x else (bZ x,W)
end
end Go.Proofs.Ytjifdalflepcoab
