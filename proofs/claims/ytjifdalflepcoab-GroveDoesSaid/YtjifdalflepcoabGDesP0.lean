/-
  Parts of the proof, merged: what the functions do, and plain laws.
-/
import Derived.WalkKit
import Derived.WalkSpells
import Derived.WalkLawsBesides
import Derived.Deep.QuietTactic
import Derived.BigQuiet
import Derived.Lib.Hide
import Derived.ProofKit
import Derived.OpenShut
import Derived.Deep.Slices
import Derived.Deep.Fields
import Derived.ChangeSame
import Derived.Lib.SmallJoins
import Derived.Carry
import Derived.Test.YtjifdalflepcoabProg
import Derived.Deep.MidRow
import Derived.Laws.CopyRow
import Derived.Deep.DeepCutAuto
import Derived.Outline
set_option maxHeartbeats 16000000
set_option maxRecDepth 100000
set_option linter.unusedVariables false
set_option linter.unusedSimpArgs false
namespace Go.Proofs.Ytjifdalflepcoab
section
open Go.RowKit
theorem Lz.{u} {α:Type u} {a:α} {l:List α}:(a::l)[0]?=some a:=List.getElem?_cons_zero
theorem Ls.{u} {α:Type u} {a:α} {i:Nat} {l:List α}:(a::l)[i+1]?=l[i]?:=List.getElem?_cons_succ
theorem Ld.{u} {α:Type u} {l:List α} {i:Nat} {a:α}:l.getD i a=l[i]?.getD a:=List.getD_eq_getElem?_getD
theorem Le.{u} {α:Type u} {l:List α} {i:Nat} (h:i<l.length):l[i]?=some l[i]:=List.getElem?_eq_getElem h
theorem Hz {p:Prop} (h:p):Hid p:=Lib.hid h
theorem int_eq {k:IntKind} {a b:Int} (h:a=b):Value.int k a=Value.int k b:=by rw [h]
theorem r6 {a b:Value} (h:a=b):Ending.returned a=Ending.returned b:=by rw [h]
theorem gR {k:IntKind} {a b:Int} (h:a=b):Ending.returned (.int k a)=Ending.returned (.int k b):=by rw [h]
theorem cG {a b:Bool} (h:a=b):Ending.returned (.bool a)=Ending.returned (.bool b):=by rw [h]
def ah (w:World) (b:Nat) (c:List Value) (T:TypeId):Prop:=w.heap[b]? = some (.cells c.toArray T (0,0))
theorem ah.lt {w:World} {b:Nat} {c:List Value} {T:TypeId} (h:ah w b c T):b<w.heap.size:=lt_of_block h
theorem ah.cell {w:World} {b:Nat} {c:List Value} {T:TypeId} (h:ah w b c T) (i:Nat):w.cell? ⟨b,i,none⟩=c[i]? := by
 unfold ah at h;simp [World.cell?,h]
theorem ah.free {w:World} {b:Nat} {c:List Value} {T:TypeId} (h:ah w b c T) (i:Nat):w.frozen? ⟨b,i,none⟩=false:=by
 unfold ah at h;simp [World.frozen?,h]
theorem ah.ne {w:World} {a b:Nat} {c d:List Value} {T U:TypeId} (h:ah w a c T) (k:ah w b d U) (hTU:T≠U):a≠b:=by
 rintro rfl;unfold ah at h k;rw [h] at k;simp at k;exact hTU k.2
theorem ah.aF {w:World} {b:Nat} {c:List Value} {T:TypeId} (h:ah w b c T) (i:Nat) (v:Value):ah (w.setCell ⟨b,i,none⟩ v) b (c.set i v) T:=by
 unfold ah at *;simp [World.setCell,Array.getElem?_modify,h]
theorem ah.ez {w:World} {b:Nat} {c:List Value} {T:TypeId} (h:ah w b c T) {a:Addr} (hn:b≠a.block) (v:Value):ah (w.setCell a v) b c T:=by
 unfold ah at *;rw [Below.heap_setCell _ _ _ _ hn];exact h
theorem ah.alloc {w:World} {b:Nat} {c:List Value} {T:TypeId} (h:ah w b c T) (o:Obj):ah (w.alloc o) b c T:=by
 have:=h.lt;unfold ah at *;rw [Below.heap_alloc _ _ _ this];exact h
theorem ah.drew {w:World} {b:Nat} {c:List Value} {T:TypeId} (h:ah w b c T):ah w.drew b c T:=h
theorem ah.new (w:World) (c:List Value) (T:TypeId):ah (w.alloc (.cells c.toArray T)) w.heap.size c T:=by
 unfold ah
 show (w.heap.push _)[w.heap.size]? = _
 simp
theorem ah.newAt {w:World} {b:Nat} {c:List Value} {T:TypeId} (a:Array Value) (hb:b=w.heap.size) (hc:a.toList=c):ah (w.alloc (.cells a T)) b c T:=by
 subst hb;subst hc;simpa using ah.new w a.toList T
structure aa (S:Nat→Prop) (w w':World):Prop where
 os:w'.os=w.os
 tape:w'.tape=w.tape
 output:w'.output=w.output
 size:w.heap.size≤w'.heap.size
 block:∀ k,k<w.heap.size→¬ S k→w'.heap[k]? = w.heap[k]?
theorem aa.refl (S:Nat→Prop) (w:World):aa S w w:=⟨rfl,rfl,rfl,Nat.le_refl _,fun _ _ _=>rfl⟩
theorem Kz (w:World):aa (fun _=>False) w w:=aa.refl _ w
theorem aa.trans {S:Nat→Prop} {a b c:World} (h:aa S a b) (k:aa S b c):aa S a c:=
 ⟨k.os.trans h.os,k.tape.trans h.tape,k.output.trans h.output,Nat.le_trans h.size k.size,
  fun i hi hn=>(k.block i (Nat.lt_of_lt_of_le hi h.size) hn).trans (h.block i hi hn)⟩
theorem aa.mono {S T:Nat→Prop} {w w':World} (h:aa S w w') (hST:∀ k,k<w.heap.size→S k→T k):aa T w w':=
 ⟨h.os,h.tape,h.output,h.size,fun i hi hn=>h.block i hi (fun hs=>hn (hST i hi hs))⟩
theorem aa.ai {S:Nat→Prop} {w w':World} (h:aa S w w') {b:Nat} {c:List Value} {T:TypeId} (k:ah w b c T) (hn:¬ S b):ah w' b c T:=by
 have:=h.block b k.lt hn;unfold ah at *;rw [this];exact k
theorem aa.drew {S:Nat→Prop} {w w':World} (h:aa S w w'):aa S w w'.drew:=⟨h.os,h.tape,h.output,h.size,h.block⟩
theorem aa.alloc {S:Nat→Prop} {w w':World} (h:aa S w w') (o:Obj):aa S w (w'.alloc o):=
 h.trans ⟨rfl,rfl,rfl,by simp,fun k hk _=>Below.heap_alloc _ _ _ hk⟩
theorem aa.setCell {S:Nat→Prop} {w w':World} (h:aa S w w') {p:Addr} (hp:S p.block∨w.heap.size≤p.block) (u:Value):aa S w (w'.setCell p u):=by
 refine ⟨h.os,h.tape,h.output,by simpa using h.size,fun k hk hn=>?_⟩;rw [Below.heap_setCell _ _ _ _ (by rintro rfl;rcases hp with hp | hp;exact hn hp;omega)];exact h.block k hk hn
theorem aa.below {S:Nat→Prop} {w w':World} (h:aa S w w') (hS:∀ k,k<w.heap.size→¬ S k):Below w.heap.size w w':=
 ⟨h.os,h.tape,h.output,h.size,fun k hk=>h.block k hk (hS k hk)⟩
theorem aa.from {S:Nat→Prop} {w₀ w w':World} (h₀:aa S w₀ w) (h:aa (fun k=>S k∨w₀.heap.size≤k) w w'):aa S w₀ w':=
 ⟨h.os.trans h₀.os,h.tape.trans h₀.tape,h.output.trans h₀.output,Nat.le_trans h₀.size h.size,
  fun i hi hn=>(h.block i (Nat.lt_of_lt_of_le hi h₀.size) (by rintro (hs | hs);exact hn hs;omega)).trans (h₀.block i hi hn)⟩
theorem aa.then {S T:Nat→Prop} {w₀ w w':World} (h₀:aa S w₀ w) (h:aa T w w') (hT:∀ k,T k→S k∨w₀.heap.size≤k):aa S w₀ w':=
 h₀.from (h.mono fun k _ hk=>hT k hk)
end
section
open Go.RowKit
theorem ah.setRow {w:World} {b:Nat} {c:List Value} {T:TypeId} (h:ah w b c T) (d:List Value):ah (w.setRow b d.toArray) b d T:=
 setRow_heap w b _ _ T _ h
theorem js (w:World) (g k:Nat) (cs:Array Value) (h:k≠g):(w.setRow g cs).heap[k]? = w.heap[k]? := by
 unfold World.setRow;simp only [Array.getElem?_modify];rw [if_neg (fun e=>h e.symm)]
theorem size_setRow (w:World) (g:Nat) (cs:Array Value):(w.setRow g cs).heap.size=w.heap.size:=by simp [World.setRow]
theorem aa.setRow {S:Nat→Prop} {w w':World} (h:aa S w w') {g:Nat} (hp:S g∨w.heap.size≤g) (cs:Array Value):aa S w (w'.setRow g cs):=by
 refine ⟨h.os,h.tape,h.output,by rw [size_setRow];exact h.size,fun k hk hn=>?_⟩;rw [js _ _ _ _ (by rintro rfl;rcases hp with hp | hp;exact hn hp;omega)];exact h.block k hk hn
theorem lu (z:Value) (hz:z.cells=#[z]) (n:Nat):madeCells z.cells n=(List.replicate n z).toArray:=by
 rw [hz];apply Array.ext
 ·simp [size_madeCells]
 ·intro i h1 h2;simp [madeCells,Nat.mod_one]
theorem cB {P:Program} (w:World) (t e:TypeId) (i:TypeInfo) (z:Value) (ht:P.underlying t=some (.slice e)) (hi:P.info? e=some i) (hz:i.zero=some z) (hc:z.cells=#[z]) (hs:i.size=1)
  (n:Nat) (hbytes:i.bytes*n≤281474976710656) (h63:n≤9223372036854775807) :
  (Instr.makeSlice t (.int .i64 n) (.int .i64 n)).run P w=.ok (.slice (some ⟨w.heap.size,0,none⟩) n n) (w.alloc (.cells (List.replicate n z).toArray e)):=by
 have hb':(i.bytes:Int)*(n:Int)≤281474976710656:=by
  have h:((i.bytes*n:Nat):Int)≤281474976710656:=by omega
  rwa [Int.natCast_mul] at h
 rw [run_make (P:=P) w t e i z ht hi hz .i64 .i64 n n (by omega) (Int.le_refl _) hb' (by omega)];simp only [Int.toNat_natCast,hs,Nat.mul_one];rw [lu z hc]
def Rd (w:World) (ao:Option Addr) (xs:List Value):Prop:=
 xs≠[]→∃ g o,ao=some ⟨g,o,none⟩∧g<w.heap.size∧∀ j,j<xs.length→w.cell? ⟨g,o+j,none⟩=xs[j]?
theorem Rd.nil (w:World) (ao:Option Addr):Rd w ao []:=fun h=>(h rfl).elim
theorem Rd.ae {w w':World} {ao:Option Addr} {xs:List Value} {S:Nat→Prop} (h:Rd w ao xs) (k:aa S w w') (hn:∀ a,ao=some a→a.block<w.heap.size→¬ S a.block):Rd w' ao xs:=by
 intro hx;obtain ⟨g,o,rfl,hg,hc⟩:=h hx;refine ⟨g,o,rfl,Nat.lt_of_lt_of_le hg k.size,fun j hj=>?_⟩;rw [←hc j hj];exact World.cell?_of_block (w:=w) (a:=⟨g,o+j,none⟩) (k.block g hg (hn _ rfl hg))
theorem Rd.ai {w:World} {g:Nat} {c:List Value} {T:TypeId} (h:ah w g c T) (o:Nat) (xs:List Value) (hx:(c.drop o).take xs.length=xs):Rd w (some ⟨g,o,none⟩) xs:=by
 intro _;refine ⟨g,o,rfl,h.lt,fun j hj=>?_⟩;rw [h.cell];have:((c.drop o).take xs.length)[j]? = xs[j]? := by rw [hx]
 rw [←this,List.getElem?_take,if_pos hj,List.getElem?_drop]
theorem Rd.int {w:World} {ao:Option Addr} {k:IntKind} {l:List Int} (h:Rd w ao (l.map (Value.int k))) (i:Nat) (hi:i<l.length) :
  ∃ g o,ao=some ⟨g,o,none⟩∧w.cell? ⟨g,o+i,none⟩=some (.int k (l.getD i 0)):=by
 obtain ⟨g,o,rfl,_,hc⟩:=h (by intro e;simp at e;subst e;simp at hi);refine ⟨g,o,rfl,?_⟩;rw [hc i (by simpa using hi)];simp [List.getD,hi]
def ag (v:Value) (k:Nat):Prop:=v.ownBlock=some k
def Sl (w:World) (e size:Nat) (v:Value) (n:Nat) (xs:List Value):Prop:=
 xs.length=n*size∧((v=.slice none 0 0∧n=0) ∨
  ∃ g o cap cur,v=.slice (some ⟨g,o,none⟩) n cap∧ah w g cur e∧n≤cap∧cap≤maxLen∧o+cap*size≤cur.length∧(cur.drop o).take (n*size)=xs)
theorem Sl.nil (w:World) (e size:Nat):Sl w e size (.slice none 0 0) 0 []:=⟨by simp, .inl ⟨rfl,rfl⟩⟩
theorem Sl.own {w:World} {e size:Nat} {v:Value} {n:Nat} {xs:List Value} (h:Sl w e size v n xs) {k:Nat} (hk:ag v k):k<w.heap.size∧∃ cur,ah w k cur e:=by
 obtain ⟨_,⟨rfl,_⟩ | ⟨g,o,cap,cur,rfl,hb,_⟩⟩:=h
 ·simp [ag,Value.ownBlock] at hk
 ·simp [ag,Value.ownBlock] at hk;subst hk;exact ⟨hb.lt,_,hb⟩
theorem Sl.ae {w w':World} {e size:Nat} {v:Value} {n:Nat} {xs:List Value} {S:Nat→Prop} (h:Sl w e size v n xs) (k:aa S w w') (hn:∀ g,ag v g→¬ S g):Sl w' e size v n xs:=by
 refine ⟨h.1,?_⟩;rcases h.2 with h | ⟨g,o,cap,cur,rfl,hb,r⟩
 ·exact .inl h
 ·exact .inr ⟨g,o,cap,cur,rfl,k.ai hb (hn g rfl),r⟩
theorem Sl.rd {w:World} {e size:Nat} {v:Value} {n:Nat} {xs:List Value} (h:Sl w e size v n xs):∃ ao cap,v=.slice ao n cap∧Rd w ao xs∧n≤maxLen∧n≤cap:=by
 obtain ⟨hl,⟨rfl,rfl⟩ | ⟨g,o,cap,cur,rfl,hb,h1,h2,h3,h4⟩⟩:=h
 ·refine ⟨none,0,rfl,?_,Nat.zero_le _,Nat.le_refl _⟩;have:xs=[]:=by simpa using hl
  subst this;exact Rd.nil _ _
 ·exact ⟨_,cap,rfl,Rd.ai hb o xs (by rw [hl];exact h4),Nat.le_trans h1 h2,h1⟩
theorem cX (g o j:Nat):(⟨g,o,none⟩:Addr).add j=⟨g,o+j,none⟩:=by unfold Addr.add;split <;> simp_all
theorem kA {P:Program} (w:World) (t ty e:TypeId) (i:TypeInfo) (z:Value) (size bytes:Nat) (ht:P.underlying t=some (.slice e)) (hi:P.info? e=some i) (hz:i.zero=some z)
  (hsize:i.size=size) (hby:i.bytes=bytes) (hzs:z.cells.size=size) (hsz:0<size)
  (v:Value) (n:Nat) (xs:List Value) (hs:Sl w e size v n xs)
  (a:Addr) (m c:Nat) (news:List Value) (hl:news.length=m*size) (hnews:∀ j u,news[j]? = some u→w.cell? (a.add j)=some u) (h1:∀ u ∈ news,u.oneCell'=true)
  (h63:n+m≤maxLen) (hbytes:(n+m)*bytes≤140737488355328) :
  ∃ v' w',(Builtin.append_ #[t,t] ty #[v, .slice (some a) m c]).run P w=.ok v' w'∧Sl w' e size v' (n+m) (xs ++ news)∧aa (ag v) w w'∧(∀ k,ag v' k→ag v k∨w.heap.size≤k):=by
 subst hsize;subst hby
 obtain ⟨hxl,hv⟩:=hs;have hlen:(xs ++ news).length=(n+m)*i.size:=by rw [List.length_append,hxl,hl,Nat.add_mul]
 have h63':n+m≤9223372036854775807:=by simpa [maxLen] using h63
 have grown:∀ (aR:Nat) (S:Nat→Prop),
   Sl (w.drew.alloc (.cells (xs.toArray ++ news.toArray ++ Builtin.zeroCells z.cells (grownCap w (n+m) aR e-(n+m))) e)) e i.size (.slice (some ⟨w.heap.size,0,none⟩) (n+m) (grownCap w (n+m) aR e)) (n+m) (xs ++ news) ∧
   aa S w (w.drew.alloc (.cells (xs.toArray ++ news.toArray ++ Builtin.zeroCells z.cells (grownCap w (n+m) aR e-(n+m))) e)):=by
  intro aR S;have hge:=grownCap_ge w (n+m) aR e;have hcm:grownCap w (n+m) aR e≤maxLen:=grownCap_le_maxLen w (n+m) aR e h63;refine ⟨⟨hlen, .inr ⟨w.heap.size,0,_,_,rfl,ah.newAt _ rfl rfl,hge,hcm,?_,?_⟩⟩,((aa.refl _ _).drew).alloc _⟩
  ·simp only [Array.length_toList,Array.size_append,List.size_toArray,size_zeroCells,hzs,hxl,hl,←Nat.add_mul,Nat.zero_add];apply Nat.mul_le_mul_right;omega
  ·simp only [Array.toList_append,List.append_assoc,List.drop_zero];rw [←List.append_assoc,←hlen];exact List.take_left
 rcases hv with ⟨rfl,rfl⟩ | ⟨g,o,cap,cur,rfl,hb,hnc,hcm,hoc,hx⟩
 ·have hx:xs=[]:=List.eq_nil_of_length_eq_zero (by simpa using hxl);subst hx;by_cases hm:m=0
  ·subst hm;have hn:news=[]:=List.eq_nil_of_length_eq_zero (by simpa using hl);subst hn;refine ⟨.slice none 0 0,w,?_,Sl.nil _ _ _,aa.refl _ _,fun k hk=>.inl hk⟩;simp [Builtin.append_,run_underlying ht,sizeOf,typeInfo,hi,Builtin.lenOf,Builtin.firstCells,loadCells,loadCellsFrom]
  ·have hr:=run_append_nil (P:=P) w t ty e i z ht hi hz a m c news hl hnews (by omega) (by omega) (by have hb:=hbytes;simp only [Nat.zero_add] at hb;omega);have hgr:=grown 0 (ag (.slice none 0 0));simp only [Nat.zero_add,List.nil_append,Array.empty_append] at hgr ⊢;refine ⟨_,_,hr,hgr.1,hgr.2,fun k hk=>.inr ?_⟩;simp [ag,Value.ownBlock] at hk;omega
 ·by_cases hr:n+m≤cap
  ·have hf:=run_firstCells_some (P:=P) w i.size m a m c news hl hnews;have hfit:o+n*i.size+news.length≤cur.length:=by
    have:(n+m)*i.size≤cap*i.size:=Nat.mul_le_mul_right _ hr;rw [Nat.add_mul] at this;omega
   have hst:=run_storeCells_at P g (o+n*i.size) e news 0 cur.toArray w hb (by simpa using hfit) h1;simp only [Nat.add_zero] at hst;refine ⟨.slice (some ⟨g,o,none⟩) (n+m) cap,w.setRow g (cur.take (o+n*i.size) ++ news ++ cur.drop (o+n*i.size+news.length)).toArray,?_,?_,?_,?_⟩
   ·simp [Builtin.append_,run_underlying ht,sizeOf,typeInfo,hi,Builtin.lenOf,hr,hf,cX,hst]
   ·refine ⟨hlen, .inr ⟨g,o,cap,_,rfl,ah.setRow hb _,hr,hcm,?_,?_⟩⟩
    ·simp;omega
    ·have h1:(cur.take (o+n*i.size) ++ news ++ cur.drop (o+n*i.size+news.length)).drop o=(cur.drop o).take (n*i.size) ++ news ++ cur.drop (o+n*i.size+news.length):=by
      rw [List.append_assoc,List.drop_append_of_le_length (by simp;omega),List.drop_take,←List.append_assoc];congr 3;omega
     rw [h1,hx,←hlen,List.take_append_of_le_length (by simp),List.take_length]
   ·exact (aa.refl (ag (.slice (some ⟨g,o,none⟩) n cap)) w).setRow (g:=g) (.inl rfl) _
   ·intro k hk;exact .inl hk
  ·have holds:∀ j u,xs[j]? = some u→w.cell? ((⟨g,o,none⟩:Addr).add j)=some u:=by
    intro j u hu;have:=(List.getElem?_eq_some_iff.1 hu).1;rw [cX,hb.cell,←hu,←hx,List.getElem?_take,List.getElem?_drop,if_pos (by omega)]
   have hr:=run_append_grow (P:=P) w t ty e i z ht hi hz ⟨g,o,none⟩ n cap xs hxl holds a m c news hl hnews (by omega) (by omega) (growslice_fits (by omega) hbytes);have hgr:=grown cap (ag (.slice (some ⟨g,o,none⟩) n cap));refine ⟨_,_,hr,hgr.1,hgr.2,fun k hk=>.inr ?_⟩;simp [ag,Value.ownBlock] at hk;omega
theorem bD {P:Program} {w:World} {ops:Array Oper} {rest:List Oper} {o:Oper} {a:Act} {Q:Exit→Act→World→Prop} (hgd:o.guard=none) (s x:Operand) (t:TypeId)
  (ho:o.op=.call { callee:=.builtin .append,args:=#[s,x],argTypes:=#[t,t] })
  (e:TypeId) (i:TypeInfo) (z:Value) (size bytes:Nat) (ht:P.underlying t=some (.slice e)) (hi:P.info? e=some i) (hz:i.zero=some z)
  (hsize:i.size=size) (hby:i.bytes=bytes) (hzs:z.cells.size=size) (hsz:0<size)
  (v:Value) (n:Nat) (xs:List Value) (hs:a.eval s=v) (hown:Sl w e size v n xs)
  (ad:Addr) (m c:Nat) (news:List Value) (hx:a.eval x=.slice (some ad) m c) (hl:news.length=m*size) (hnews:∀ j u,news[j]? = some u→w.cell? (ad.add j)=some u) (h1:∀ u ∈ news,u.oneCell'=true)
  (h63:n+m≤maxLen) (hbytes:(n+m)*bytes≤140737488355328)
  (h:∀ v' w',Sl w' e size v' (n+m) (xs ++ news)→aa (ag v) w w'→(∀ k,ag v' k→ag v k∨w.heap.size≤k)→wpList P ops Q rest (a.put o.dst v') w'):wpList P ops Q (o :: rest) a w:=by
 refine wpList_plain hgd fun _ hK=>?_;obtain ⟨v',w',hr,h2,h3,h4⟩:=kA (P:=P) w t o.type e i z size bytes ht hi hz hsize hby hzs hsz v n xs hown ad m c news hl hnews h1 h63 hbytes;unfold Oper.wp execOp;simp only [ho,resolve,invoke,builtin,Sem.run_bind,Sem.run_pure,Result.andThen_ok,List.map_toArray,List.map_cons,List.map_nil,hs,hx,hr];exact hK _ _ (h v' w' h2 h3 h4)
theorem bq (w:World) (T:TypeId) (a:Array Value):∀ (j:Nat) (u:Value),a.toList[j]? = some u→(w.alloc (.cells a T)).cell? ((⟨w.heap.size,0,none⟩:Addr).add j)=some u:=by
 intro j u h;rw [cX,(ah.newAt (w:=w) (T:=T) a rfl rfl).cell,Nat.zero_add];exact h
theorem lF {P:Program} (w:World) (t ty e:TypeId) (i:TypeInfo) (size:Nat) (ht:P.underlying t=some (.slice e)) (hi:P.info? e=some i) (hsize:i.size=size)
  (g o n cap:Nat) (cur:List Value) (hb:ah w g cur e) (a:Addr) (m c:Nat) (news:List Value) (hl:news.length=m*size) (hnews:∀ j u,news[j]? = some u→w.cell? (a.add j)=some u) (h1:∀ u ∈ news,u.oneCell'=true)
  (hr:n+m≤cap) (hoc:o+cap*size≤cur.length) :
  (Builtin.append_ #[t,t] ty #[.slice (some ⟨g,o,none⟩) n cap, .slice (some a) m c]).run P w=.ok (.slice (some ⟨g,o,none⟩) (n+m) cap) (w.setRow g (cur.take (o+n*size) ++ news ++ cur.drop (o+n*size+news.length)).toArray):=by
 subst hsize;have hf:=run_firstCells_some (P:=P) w i.size m a m c news hl hnews;have hfit:o+n*i.size+news.length≤cur.length:=by
  have:(n+m)*i.size≤cap*i.size:=Nat.mul_le_mul_right _ hr;rw [Nat.add_mul] at this;omega
 have hst:=run_storeCells_at P g (o+n*i.size) e news 0 cur.toArray w hb (by simpa using hfit) h1;simp only [Nat.add_zero] at hst;simp [Builtin.append_,run_underlying ht,sizeOf,typeInfo,hi,Builtin.lenOf,hr,hf,cX,hst]
theorem iJ {P:Program} (w:World) (t ty e:TypeId) (z:Value) (ht:P.underlying t=some (.slice e)) (hz:∀ w,(zeroValue e).run P w=.ok z w) (h1:∀ u ∈ z.cells,u.oneCell'=true) (hpos:0<z.cells.size)
  (g o n cap:Nat) (cur:List Value) (hb:ah w g cur e) (hfit:o+n*z.cells.size≤cur.length) :
  ∃ zs:List Value,zs.length=n*z.cells.size∧(Builtin.clear_ #[t] ty #[.slice (some ⟨g,o,none⟩) n cap]).run P w=.ok (.tuple #[]) (w.setRow g (cur.take o ++ zs ++ cur.drop (o+zs.length)).toArray):=by
 refine ⟨(Builtin.zeroCells z.cells n).toList,by simp [size_zeroCells],?_⟩;cases n with
 | zero=>
  have hz0:(Builtin.zeroCells z.cells 0).toList=[]:=by simp [Builtin.zeroCells]
  have:w.setRow g (cur.take o ++ [] ++ cur.drop (o+0)).toArray=w:=by
   have:=setRow_self w g _ e (0,0) hb;simpa using this
  rw [hz0];simp only [List.length_nil];rw [this];simp [Builtin.clear_,run_underlying ht]
 | succ n=>
  have hlen:(Builtin.zeroCells z.cells (n+1)).toList.length=(n+1)*z.cells.size:=by simp [size_zeroCells]
  have hst:=run_storeCells_at P g o e (Builtin.zeroCells z.cells (n+1)).toList 0 cur.toArray w hb (by simp only [Nat.add_zero,hlen,List.size_toArray];exact hfit) (by
   intro v hv;simp only [Builtin.zeroCells,Array.toList_map,List.mem_map] at hv;obtain ⟨i,_,rfl⟩:=hv;apply h1;have hm:i%z.cells.size<z.cells.size:=Nat.mod_lt _ hpos;rw [getElem!_pos z.cells _ hm]
   exact Array.getElem_mem hm)
  simp only [Nat.add_zero] at hst;simp [Builtin.clear_,run_underlying ht,hz,hst]
end
section
open Go.RowKit Go.ChangeShapes Go.WideShapes Go.Deep Go.Joins
theorem Rd.pO {w:World} {a:Addr} {xs:List Value} (h:∀ j u,xs[j]? = some u→w.cell? (a.add j)=some u):Rd w (some a) xs:=by
 intro hx;have hl:0<xs.length:=by cases xs with | nil=>exact (hx rfl).elim | cons _ _=>simp
 obtain ⟨b,off,spot⟩:=a;have h0:=h 0 xs[0] (by simp [hl]);have hspot:spot=none:=by simpa [Addr.add] using World.cell?_spot h0
 subst hspot;refine ⟨b,off,rfl,World.block_lt_of_cell? _ _ h0,fun j hj=>?_⟩;have:=h j xs[j] (by simp [hj]);rw [cX] at this;rw [this];simp [hj]
theorem eK {n:Int} (h:(Lit.int .i64 n).wf=true):-9223372036854775808≤n∧n≤9223372036854775807:=by
 simp [Lit.wf,IntKind.min,IntKind.max,IntKind.bits,IntKind.signed] at h;omega
section
variable {H:Type} {enc:TypeId × Value→H} {P:Program} {w:World} {base:Nat} {spare:Nat→Bool} {held:Bool}
def qQ (c:Value):Prop:=∃ n:Int,c=.int .i64 n∧-9223372036854775808≤n∧n≤9223372036854775807
def Flat (enc:TypeId × Value→H) (P:Program) (w:World) (base:Nat) (spare:Nat→Bool) (held:Bool) (e:TypeId):Prop:=
 ∀ fuel cs x,DataW.trod enc P w base spare held fuel e cs=some x→cs.length=P.cellsOf e∧∀ c ∈ cs,qQ c
theorem eA {e:TypeId} (he:P.underlying e=some (.int .i64)) (hC:P.cellsOf e=1):Flat enc P w base spare held e:=by
 intro fuel cs x h;obtain ⟨n,rfl,_,hn⟩:=DataW.trod_int he h;refine ⟨by simp [hC],?_⟩;intro c hc;simp at hc;subst hc;exact ⟨n,rfl,eK hn⟩
def r7 (P:Program) (e:TypeId) (fs:Array Field):Bool:=
 (List.range (P.cellsOf e)).all fun j=>fs.toList.any fun f=>decide (f.offset≤j) && decide (j<f.offset+P.cellsOf f.type)
theorem mK {e:TypeId} {fs:Array Field} (he:P.underlying e=some (.struct fs)) (hcov:r7 P e fs=true)
  (hf:∀ (i:Nat) (f:Field),fs[i]? = some f→Flat enc P w base spare held f.type):Flat enc P w base spare held e:=by
 intro fuel cs x h;obtain ⟨ys,n,_,hy,hlen,hyl,hg⟩:=DataW.trod_struct he h;refine ⟨hlen,?_⟩;intro c hc;obtain ⟨j,hj,rfl⟩:=List.getElem_of_mem hc;have hcj:=List.all_eq_true.1 hcov j (List.mem_range.2 (by omega));obtain ⟨f,hfm,hfj⟩:=List.any_eq_true.1 hcj;simp only [Bool.and_eq_true,decide_eq_true_eq] at hfj;obtain ⟨i,hi,hif⟩:=List.getElem_of_mem hfm;have hfi:fs[i]? = some f:=by
  rw [←Array.getElem?_toList,Le hi,hif]
 have h1:=hg i f hfi;have hys:ys[i]? = some (ys[i]'(by rw [hyl];simpa using hi)):=Le _;rw [hys] at h1;have h2:=(hf i f hfi n _ _ h1).2;refine h2 _ ?_;rw [List.mem_iff_getElem?];refine ⟨j-f.offset,?_⟩;rw [List.getElem?_take,if_pos (by omega),List.getElem?_drop,show f.offset+(j-f.offset)=j by omega];simp [hj]
theorem sK {t e:TypeId} {k:Nat} (ht:P.underlying t=some (.array k e)) (hC:P.cellsOf t=k*P.cellsOf e) (he:Flat enc P w base spare held e):Flat enc P w base spare held t:=by
 intro fuel cs x h;obtain ⟨ys,n,_,hy,hlen,hyl,hg⟩:=DataW.trod_array ht h;refine ⟨hlen,?_⟩;intro c hc;obtain ⟨j,hj,rfl⟩:=List.getElem_of_mem hc;rw [hlen,hC] at hj;have hpos:0<P.cellsOf e:=by
  apply Nat.pos_of_ne_zero;intro h0;rw [h0] at hj;simp at hj
 have hi:j/P.cellsOf e<k:=Nat.div_lt_of_lt_mul (by rwa [Nat.mul_comm] at hj);have h1:=hg _ hi;have hys:ys[j/P.cellsOf e]? = some (ys[j/P.cellsOf e]'(by omega)):=Le _;rw [hys] at h1;have h2:=(he n _ _ h1).2;refine h2 _ ?_;rw [List.mem_iff_getElem?];refine ⟨j%P.cellsOf e,?_⟩;rw [List.getElem?_take,if_pos (Nat.mod_lt _ hpos),List.getElem?_drop,Nat.mul_comm,Nat.div_add_mod];simp
theorem lG {r:Reach} {b0:Nat} {t e:TypeId} {C:Nat} {v:Value} {d:DataW H} {p:List MemPlace} (ht:P.underlying t=some (.slice e)) (hC:P.cellsOf e=C) (hpos:0<C) (he:Flat enc P w base spare held e)
  (hv:Value.okWide P w r b0 t v) (h:DataW.Trod enc P w base spare held t v d p) :
  ∃ (ao:Option Addr) (cap n:Nat) (xs:List Value),v=.slice ao n cap∧xs.length=n*C∧Rd w ao xs∧n≤maxLen∧∀ c ∈ xs,qQ c:=by
 obtain ⟨a0,len0,cap0,rfl⟩:=okWide_slice ht hv;obtain ⟨fuel,hf⟩:=h;rcases open_slice ht hf with ⟨hcs,_⟩ | ⟨a,l,c,m,n,D,Pl,hcs,_,hl,hm,hmm,_,hi⟩
 ·simp [Value.cells] at hcs;obtain ⟨rfl,rfl,rfl⟩:=hcs;exact ⟨none,0,0,[],rfl,by simp,Rd.nil _ _,Nat.zero_le _,by simp⟩
 ·simp [Value.cells] at hcs;obtain ⟨rfl,rfl,rfl⟩:=hcs;have hle:len0≤m:=by rw [hmm];split <;> omega
  have key:∀ j,j<len0*C→∃ u,w.cell? (a.add j)=some u∧qQ u:=by
   intro j hj;have hi':j/C<len0:=Nat.div_lt_of_lt_mul (by rwa [Nat.mul_comm] at hj);obtain ⟨cs',h1,h2⟩:=hi (j/C) (by omega);obtain ⟨hlen,hall⟩:=he _ _ _ h2;obtain ⟨_,hcl,hat⟩:=World.cells?_some h1;have hr:j%C<cs'.length:=by rw [hlen,hC];exact Nat.mod_lt _ hpos
   have:=hat (j%C) (by rw [hC];exact Nat.mod_lt _ hpos);rw [Go.Deep.add_add,hC,Nat.mul_comm,Nat.div_add_mod,Le hr] at this;exact ⟨_,this,hall _ (List.getElem_mem hr)⟩
  refine ⟨some a,cap0,len0,(List.range (len0*C)).map fun j=>(w.cell? (a.add j)).getD undef,rfl,by simp,?_,Nat.le_trans hl hm,?_⟩
  ·refine Rd.pO ?_;intro j u hu;simp only [List.getElem?_map,Option.map_eq_some_iff] at hu;obtain ⟨j',hj',rfl⟩:=hu;have hjl:=(List.getElem?_eq_some_iff.1 hj').1;have:j=j':=by
    rw [Le hjl] at hj';simpa using hj'
   subst this;obtain ⟨u,hu,_⟩:=key j (by simpa using hjl);rw [hu];rfl
  ·intro c hc;simp only [List.mem_map,List.mem_range] at hc;obtain ⟨j,hj,rfl⟩:=hc;obtain ⟨u,hu,h64⟩:=key j hj;rw [hu];exact h64
theorem jC:∀ {xs:List Value},(∀ c ∈ xs,qQ c)→∃ l:List Int,xs=l.map (Value.int .i64)∧∀ x ∈ l,-9223372036854775808≤x∧x≤9223372036854775807
 | [],_=>⟨[],rfl,by simp⟩
 | c :: xs,h=>by
  obtain ⟨n,rfl,hn⟩:=h c (by simp);obtain ⟨l,rfl,hl⟩:=jC (xs:=xs) (fun c hc=>h c (List.mem_cons_of_mem _ hc));exact ⟨n :: l,rfl,by intro x hx;rcases List.mem_cons.1 hx with rfl | hx;exact hn;exact hl x hx⟩
theorem tp {r:Reach} {b0:Nat} {t e:TypeId} {v:Value} {d:DataW H} {p:List MemPlace} (ht:P.underlying t=some (.slice e)) (he:P.underlying e=some (.int .i64)) (hC:P.cellsOf e=1)
  (hv:Value.okWide P w r b0 t v) (h:DataW.Trod enc P w base spare held t v d p) :
  ∃ (ao:Option Addr) (cap:Nat) (l:List Int),v=.slice ao l.length cap∧Rd w ao (l.map (Value.int .i64))∧l.length≤maxLen∧∀ x ∈ l,-9223372036854775808≤x∧x≤9223372036854775807:=by
 obtain ⟨ao,cap,n,xs,rfl,hl,hr,hm,h64⟩:=lG ht hC (by omega) (eA he hC) hv h;obtain ⟨l,rfl,hb⟩:=jC h64;simp at hl;subst hl;exact ⟨ao,cap,l,rfl,hr,hm,hb⟩
theorem tq {r:Reach} {b0:Nat} {t:TypeId} {f0 f1:Field} {v:Value} {d:DataW H} {p:List MemPlace} (hs:P.underlying t=some (.struct #[f0,f1])) (hone:oneCellFields P #[f0,f1]=true) (hC:P.cellsOf t=2)
  (h0:P.underlying f0.type=some (.int .i64)) (h1:P.underlying f1.type=some (.int .i64))
  (hv:Value.okWide P w r b0 t v) (h:DataW.Trod enc P w base spare held t v d p) :
  ∃ a:Int × Int,v=.agg #[.int .i64 a.1, .int .i64 a.2]∧(-9223372036854775808≤a.1∧a.1≤9223372036854775807)∧-9223372036854775808≤a.2∧a.2≤9223372036854775807:=by
 obtain ⟨c0,c1,y0,y1,m,rfl,_,_,hy0,hy1⟩:=open_agg2 hs hone hC hv h;obtain ⟨a,ea,_,wa⟩:=DataW.trod_int h0 hy0;obtain ⟨b,eb,_,wb⟩:=DataW.trod_int h1 hy1;simp at ea eb;subst ea;subst eb;exact ⟨(a,b),rfl,eK wa,eK wb⟩
end
end
section
open Go.RowKit Go.ChangeShapes Go.WideShapes Go.ChangeAt Go.Joins
section
variable {H:Type} {enc:TypeId × Value→H} {P:Program} {w:World} {base:Nat} {spare:Nat→Bool} {held:Bool}
theorem pP {r:Reach} {b0:Nat} {t e:TypeId} {C:Nat} {v:Value} {d:DataW H} {p:List MemPlace} (ht:P.underlying t=some (.slice e)) (hC:P.cellsOf e=C) (hpos:0<C) (he:Flat enc P w base spare held e)
  (hv:Value.okWide P w r b0 t v) (h:DataW.Trod enc P w base spare held t v d p) :
  ∃ (ao:Option Addr) (cap m:Nat) (l:List Int),v=.slice ao m cap∧Rd w ao (l.map (Value.int .i64))∧l.length=m*C∧m≤maxLen∧∀ x ∈ l,-9223372036854775808≤x∧x≤9223372036854775807:=by
 obtain ⟨ao,cap,n,xs,rfl,hl,hr,hm,h64⟩:=lG ht hC hpos he hv h;obtain ⟨l,rfl,hb⟩:=jC h64;exact ⟨ao,cap,n,l,rfl,hr,by simpa using hl,hm,hb⟩
theorem tr {r:Reach} {b n c:Nat} {t e:TypeId} {a:Addr} (ht:P.underlying t=some (.slice e)) (hv:Value.okWide P w r b t (.slice (some a) n c)):a.block<w.heap.size:=by
 simp only [Value.okWide,ht,Cell.okWide,Cell.ok] at hv;obtain ⟨_,_,_,_,row,cells,hs,_⟩:=hv;unfold World.shape? at hs;cases hb:w.heap[a.block]? with
 | none=>rw [hb] at hs;simp at hs
 | some o=>exact (Array.getElem?_eq_some_iff.1 hb).1
end
end
section
open Go.RowKit
section
variable {P:Program} {ops:Array Oper} {md:Region.Mode} {G:World→Prop}
def gUpon (P:Program) (o:Oper) (a:Act) (K:Act→World→Prop):Result Next→Prop
 | .ok (.value v) w'=>K (a.put o.dst v) w'
 | .ok .skip w'=>K (a.put o.dst undef) w'
 | .ok (.enter f args) w'=>Calls P f args w' fun
   | .returned v,w''=>K (a.put o.dst v) w''
   | _,_=>False
 | _=>False
def aM (P:Program) (o:Oper) (a:Act) (w:World) (K:Act→World→Prop):Prop:=gUpon P o a K ((execOp a.eval o).run P w)
def gOp (P:Program) (ops:Array Oper) (i:Nat) (K:Act→World→Prop) (a:Act) (w:World):Prop:=
 match ops[i]? with
 | none=>K a w
 | some o=>if Region.wanted o (yielded ops a.tmps)=true then aM P o a w K else K (a.put o.dst undef) w
theorem oD {o:Oper} {a:Act} {w:World} {K K':Act→World→Prop} (h:∀ a w,K a w→K' a w) (hh:aM P o a w K):aM P o a w K':=by
 unfold aM at *;generalize (execOp a.eval o).run P w=r at *;cases r with
 | ok n w'=>
  cases n <;> simp only [gUpon] at hh ⊢
  case value u=>exact h _ _ hh
  case skip=>exact h _ _ hh
  case enter f args=>exact hh.mono fun e w'' hq=>by cases e <;> first | exact h _ _ hq | exact hq
 | halt x w'=>exact hh
theorem dq {i:Nat} {a:Act} {w:World} {K K':Act→World→Prop} (h:∀ a w,K a w→K' a w) (hh:gOp P ops i K a w):gOp P ops i K' a w:=by
 unfold gOp at *;split
 ·rename_i ho;simp only [ho] at hh;exact h _ _ hh
 ·rename_i o ho;simp only [ho] at hh;split
  ·rename_i hw;rw [if_pos hw] at hh;exact oD h hh
  ·rename_i hw;rw [if_neg hw] at hh;exact h _ _ hh
theorem jt {i:Nat} {a:Act} {w:World} {K:Act→World→Prop} {Q':Exit→Act→World→Prop} (hh:gOp P ops i K a w):wpOp P ops Q' i K a w:=by
 unfold gOp at hh;unfold wpOp;split
 ·rename_i ho;simp only [ho] at hh;exact hh
 ·rename_i o ho;simp only [ho] at hh;split
  ·rename_i hw;rw [if_pos hw] at hh;left;unfold aM at hh;unfold Oper.wp;generalize (execOp a.eval o).run P w=r at *;cases r with
   | ok n w'=>
    cases n <;> simp only [gUpon] at hh <;> simp only [Oper.upon]
    case value u=>exact hh
    case skip=>exact hh
    case enter f args=>exact hh.mono fun e w'' hq=>by cases e <;> first | exact hq | exact hq.elim
   | halt x w'=>exact hh.elim
  ·rename_i hw;rw [if_neg hw] at hh;exact hh
def waitsT (md:Region.Mode) (ops:Array Oper):Nat→Nat→Nat→Bool
 | 0,_,_=>false
 | n+1,j,i=>match ops[j]? with
  | none=>false
  | some o=>o.after.any fun e=>Region.binds md e && (e.on == i || waitsT md ops n e.on i)
def fT (md:Region.Mode) (ops:Array Oper) (listed:Array Bool):Prop:=
 ∀ (j:Nat) (o:Oper),ops[j]? = some o→listed.getD j false=true→∀ e ∈ o.after,Region.binds md e=true→listed.getD e.on false=true
theorem fT.waits {listed:Array Bool} (h:fT md ops listed):∀ (n j i:Nat),(∃ o,ops[j]? = some o∧∀ e ∈ o.after,Region.binds md e=true→listed.getD e.on false=true)→waitsT md ops n j i=true→listed.getD i false=true
 | 0,_,_,_,hw=>by simp [waitsT] at hw
 | n+1,j,i,⟨o,ho,hall⟩,hw=>by
  simp only [waitsT,ho,Array.any_eq_true] at hw;obtain ⟨k,hk,hb⟩:=hw;simp only [Bool.and_eq_true,Bool.or_eq_true,beq_iff_eq] at hb;have he:=hall _ (Array.getElem_mem hk) hb.1;rcases hb.2 with e | e
  ·rw [←e];exact he
  ·refine h.waits n _ i ?_ e;cases hx:ops[(o.after[k]).on]? with
   | none=>exfalso;cases n <;> simp [waitsT,hx] at e
   | some ox=>exact ⟨ox,rfl,h _ ox hx he⟩
theorem fT.next {listed:Array Bool} (h:fT md ops listed) {i:Nat} (hi:i ∈ Region.ready md ops listed):fT md ops (listed.setIfInBounds i true):=by
 intro j o ho hl e he hb;by_cases hji:j=i
 ·subst hji;obtain ⟨_,o',ho',hall⟩:=mem_ready.1 hi;rw [ho] at ho';cases ho';exact getD_set_true (hall e he hb)
 ·rw [getD_set_ne false (Ne.symm hji)] at hl;exact getD_set_true (h j o ho hl e he hb)
def iK (P:Program) (md:Region.Mode) (ops:Array Oper) (z:List Nat) (G:World→Prop) (Q:Act→World→Prop):Nat→Array Bool→Act→World→Prop
 | 0,listed,a,w=>Region.ready md ops listed=[]∧Q a w
 | f+1,listed,a,w=>
  (Region.ready md ops listed=[]→Q a w) ∧
  ∀ i ∈ Region.ready md ops listed,gOp P ops i (fun a' w'=>(z.contains i=false→G w')∧iK P md ops z G Q f (listed.setIfInBounds i true) a' w') a w
theorem j1 {z:List Nat} {Q:Act→World→Prop} {Q':Exit→Act→World→Prop} (hQ:∀ a w,Q a w→Q' .normal a w):∀ (f:Nat) (listed:Array Bool) (a:Act) (w:World),
  iK P md ops z G Q f listed a w→wpAny P md ops Q' f listed a w
 | 0,_,_,_,h=>⟨h.1,hQ _ _ h.2⟩
 | f+1,_,_,_,h=>⟨fun h0=>hQ _ _ (h.1 h0),fun i hi=>jt (dq (fun a w ⟨_,hk⟩=>j1 hQ f _ a w hk) (h.2 i hi))⟩
def bH (v:Value) (w:World) (r:Result Next):Prop:=r=.ok (.value v) w
theorem bH.mk (v:Value) (w:World):bH v w (.ok (.value v) w):=rfl
def cP (P:Program) (ops:Array Oper) (G:World→Prop) (o:Oper) (v:Value) (a:Act):Prop:=
 (Region.wanted o (yielded ops a.tmps)=true∧∀ w,G w→bH v w ((execOp a.eval o).run P w))∨(Region.wanted o (yielded ops a.tmps)=false∧v=undef)
theorem cP.gOp {i:Nat} {o:Oper} {v:Value} {a:Act} {w:World} (hi:ops[i]? = some o) (hy:cP P ops G o v a) (hw:G w) {K:Act→World→Prop} (h:K (a.put o.dst v) w):gOp P ops i K a w:=by
 unfold Go.Proofs.Ytjifdalflepcoab.gOp;simp only [hi];rcases hy with ⟨hwt,hv⟩ | ⟨hwt,rfl⟩
 ·rw [if_pos hwt];unfold aM;rw [show (execOp a.eval o).run P w=_ from hv w hw];exact h
 ·rw [if_neg (by simp [hwt])];exact h
theorem mY {j:Nat} {oi oj:Oper} {v:Value} (hj:ops[j]? = some oj) (hap:oi.apart ops oj=true)
  (hsi:∀ cs b,oi.op≠.select cs b) (hsj:∀ cs b,oj.op≠.select cs b) {K:Act→World→Prop} {a:Act} {w:World}
  (hy:cP P ops G oi v a) (h:gOp P ops j K (a.put oi.dst v) w) :
  gOp P ops j (fun a' w'=>cP P ops G oi v a'∧K (a'.put oi.dst v) w') a w:=by
 obtain ⟨h1,h2,h3⟩:=Oper.apart_spec hap;have ae:∀ u,cP P ops G oi v (a.put oj.dst u):=fun u=>by
  unfold cP at *;rw [execOp_put oi hsi a oj.dst u h3,wanted_put oi a oj.dst u h3];exact hy
 have com:∀ u,(a.put oi.dst v).put oj.dst u=(a.put oj.dst u).put oi.dst v:=fun u=>Act.put_comm a v u h2;unfold gOp at *;simp only [hj] at *;rw [wanted_put oj a oi.dst v h1] at h;split
 ·rename_i hw;rw [if_pos hw] at h;unfold aM at *;rw [execOp_put oj hsj a oi.dst v h1] at h;generalize (execOp a.eval oj).run P w=r at *;cases r with
  | ok n w'=>
   cases n <;> simp only [gUpon] at h ⊢
   case value u=>exact ⟨ae u,by rw [←com];exact h⟩
   case skip=>exact ⟨ae undef,by rw [←com];exact h⟩
   case enter f args=>
    refine h.mono fun e w'' hq=>?_;cases e with
    | returned u=>exact ⟨ae u,by rw [←com];exact hq⟩
    | panicked _=>exact hq
    | outgrown=>exact hq
  | halt x w'=>exact h
 ·rename_i hw;rw [if_neg hw] at h;exact ⟨ae undef,by rw [←com];exact h⟩
theorem lH {z:List Nat} {Q:Act→World→Prop} {i:Nat} {oi:Oper} {v:Value} (hi:ops[i]? = some oi) (hsel:∀ (j:Nat) (o:Oper) cs b,ops[j]? = some o→o.op≠.select cs b)
  (hz:∀ j,z.contains j=true→waitsT md ops ops.size j i=true) :
  ∀ (fuel:Nat) (listed:Array Bool) (a:Act) (w:World),G w→fT md ops listed →
   (∀ j oj,ops[j]? = some oj→j≠i→listed.getD j true=false→(∀ e ∈ oj.after,Region.binds md e=true→e.on≠i)→oi.apart ops oj=true) →
   i ∈ Region.ready md ops listed→cP P ops G oi v a →
   iK P md ops z G Q fuel (listed.setIfInBounds i true) (a.put oi.dst v) w→iK P md ops z G Q (fuel+1) listed a w:=by
 intro fuel
 induction fuel with
 | zero=>
  intro listed a w hG hS _ hr hy H;refine ⟨fun h=>(by rw [h] at hr;cases hr),fun j hj=>?_⟩;by_cases hji:j=i
  ·subst hji;exact hy.gOp hi hG ⟨fun _=>hG,H⟩
  ·have:=ready_mono hj hji;rw [H.1] at this;cases this
 | succ fuel ih=>
  intro listed a w hG hS hfree hr hy H;refine ⟨fun h=>(by rw [h] at hr;cases hr),fun j hj=>?_⟩;by_cases hji:j=i
  ·subst hji;exact hy.gOp hi hG ⟨fun _=>hG,H⟩
  ·have h1:=H.2 j (ready_mono hj hji);obtain ⟨hjun,oj,hoj,hall⟩:=mem_ready.1 hj;have hin:listed.getD i false=false:=by
    have h0:=(mem_ready.1 hr).1;rcases Nat.lt_or_ge i listed.size with h' | h'
    ·simp [h'] at h0 ⊢;exact h0
    ·simp [Array.getElem?_eq_none h'] at h0
   have hjz:z.contains j=false:=by
    cases hc:z.contains j
    ·rfl
    ·have:=hS.waits _ j i ⟨oj,hoj,hall⟩ (hz j hc);rw [hin] at this;cases this
   have hnot:∀ e ∈ oj.after,Region.binds md e=true→e.on≠i:=fun e he hb heq=>by
    have h1:=hall e he hb;rw [heq,hin] at h1;cases h1
   have h2:=mY hoj (hfree j oj hoj hji hjun hnot) (fun cs b=>hsel i oi cs b hi) (fun cs b=>hsel j oj cs b hoj) hy h1;have hfree':∀ k ok,ops[k]? = some ok→k≠i→(listed.setIfInBounds j true).getD k true=false →
     (∀ e ∈ ok.after,Region.binds md e=true→e.on≠i)→oi.apart ops ok=true:=fun k ok hk hki hun hno=>by
    refine hfree k ok hk hki ?_ hno;by_cases hjk:j=k
    ·subst hjk;exact hjun
    ·rw [getD_set_ne true hjk] at hun;exact hun
   refine dq (fun a' w' ⟨hy',hG',h3⟩=>?_) h2;refine ⟨fun _=>hG' hjz,ih (listed.setIfInBounds j true) a' w' (hG' hjz) (hS.next hj) hfree' (ready_mono hr (Ne.symm hji)) hy' ?_⟩;rw [Array.setIfInBounds_comm _ _ hji];exact h3
def lI (ord:List (Nat × Nat)):List Nat:=(ord.filter fun p=>p.2 == 2).map (·.1)
def ordB (md:Region.Mode) (ops:Array Oper) (z:List Nat):List (Nat × Nat)→Array Bool→Bool
 | [],listed=>(Region.ready md ops listed).isEmpty
 | (i,k) :: r,listed=>
  (if k=0 then (Region.ready md ops listed).contains i && Region.free md ops listed i && z.all fun j=>waitsT md ops ops.size j i
  else Region.ready md ops listed == [i] && (k == 1 || z.contains i && r.all fun p=>p.2 != 0)) && ordB md ops z r (listed.setIfInBounds i true)
def eL (P:Program) (ops:Array Oper) (z:List Nat) (G:World→Prop) (Q:Act→World→Prop):List (Nat × Nat)→Act→World→Prop
 | [],a,w=>Q a w
 | (i,0) :: r,a,w=>∃ o v,ops[i]? = some o∧cP P ops G o v a∧eL P ops z G Q r (a.put o.dst v) w
 | (i,k+1) :: r,a,w=>gOp P ops i (fun a' w'=>(k=0→G w')∧eL P ops z G Q r a' w') a w
theorem fG {z:List Nat} {Q:Act→World→Prop} (hs:Region.noSelect ops=true):∀ (ord:List (Nat × Nat)) (listed:Array Bool) (a:Act) (w:World),fT md ops listed→(G w∨∀ p ∈ ord,p.2≠0) →
  ordB md ops z ord listed=true→eL P ops z G Q ord a w→iK P md ops z G Q ord.length listed a w
 | [],_,_,_,_,_,hB,h=>⟨by simpa [ordB] using hB,h⟩
 | (i,0) :: r,listed,a,w,hS,hG,hB,h=>by
  have hG:G w:=by
   rcases hG with h | h
   ·exact h
   ·exact absurd rfl (h (i,0) (by simp))
  simp only [ordB,if_true,Bool.and_eq_true] at hB;obtain ⟨⟨⟨hr,hf⟩,hz⟩,hB'⟩:=hB;obtain ⟨o,v,ho,hy,hn⟩:=h;have hr':i ∈ Region.ready md ops listed:=by simpa using hr
  refine lH ho (Region.noSelect_spec hs) (fun j hj=>?_) r.length listed a w hG hS (Region.free_spec ho hf) hr' hy ?_
  ·have:=List.all_eq_true.1 hz j (by simpa using hj);exact this
  ·exact fG hs r _ _ w (hS.next hr') (.inl hG) hB' hn
 | (i,k+1) :: r,listed,a,w,hS,hG,hB,h=>by
  have h0:¬ (k+1=0):=by omega
  simp only [ordB,if_neg h0,Bool.and_eq_true] at hB;obtain ⟨⟨hr,hk⟩,hB'⟩:=hB;have hr1:Region.ready md ops listed=[i]:=by simpa using hr
  have hin:i ∈ Region.ready md ops listed:=by rw [hr1];simp
  refine ⟨(fun h0=>by rw [hr1] at h0;cases h0),fun j hj=>?_⟩;rw [hr1] at hj;obtain rfl:j=i:=by simpa using hj
  refine dq (fun a' w' ⟨hG',hn⟩=>?_) h;by_cases hk0:k=0
  ·exact ⟨fun _=>hG' hk0,fG hs r _ a' w' (hS.next hin) (.inl (hG' hk0)) hB' hn⟩
  ·have hk1:(k+1 == 1)=false:=by simpa using hk0
   simp only [hk1,Bool.false_or,Bool.and_eq_true] at hk;refine ⟨(fun hz=>by rw [hk.1] at hz;cases hz),fG hs r _ a' w' (hS.next hin) (.inr fun p hp=>?_) hB' hn⟩;have:=List.all_eq_true.1 hk.2 p hp;simpa using this
theorem cv {id:Nat} {Q:Exit→Act→World→Prop} {a:Act} {w:World} {l:List Oper} (ord:List (Nat × Nat)) (G:World→Prop) (hm:P.follows .mixedOrders=true)
  (hB:(Region.noSelect l.toArray && ord.length == l.toArray.size && ordB .any l.toArray (lI ord) ord (Array.replicate l.toArray.size false))=true) (hG:G w.drew)
  (h:eL P l.toArray (lI ord) G (fun a' w'=>Q .normal a' w') ord a w.drew):(Code.region id l.toArray true).wp P Q a w:=by
 simp only [Bool.and_eq_true,beq_iff_eq] at hB;obtain ⟨⟨hs,hl⟩,hB⟩:=hB;refine wp_region_any hm ?_;have hshut:fT .any l.toArray (Array.replicate l.toArray.size false):=by
  intro j o ho hx;have h0:(Array.replicate l.toArray.size false).getD j false=false:=by
   rw [Array.getD_eq_getD_getElem?,Array.getElem?_replicate];split <;> rfl
  rw [h0] at hx;cases hx
 have:=fG (z:=lI ord) (md:=.any) hs ord _ a w.drew hshut (.inl hG) hB h;rw [hl] at this;exact j1 (fun _ _ h=>h) _ _ _ _ this
theorem bx {z:List Nat} {Q:Act→World→Prop} {i:Nat} {r:List (Nat × Nat)} {a:Act} {w:World} {o:Oper} (ho:ops[i]? = some o) (hw:Region.wanted o (yielded ops a.tmps)=true) (v:Value)
  (h:∀ w',G w'→bH v w' ((execOp a.eval o).run P w')) (hn:∀ K:Act→Prop,(∀ a',eL P ops z G Q r a' w→K a')→K (a.put o.dst v)):eL P ops z G Q ((i,0) :: r) a w:=
 ⟨o,v,ho, .inl ⟨hw,h⟩,hn _ (fun _ h=>h)⟩
theorem bL {z:List Nat} {Q:Act→World→Prop} {i:Nat} {r:List (Nat × Nat)} {a:Act} {w:World} {o:Oper} (ho:ops[i]? = some o) (hw:Region.wanted o (yielded ops a.tmps)=true)
  (h:∀ K:Act→World→Prop,(∀ a' w',G w'→eL P ops z G Q r a' w'→K a' w')→aM P o a w K):eL P ops z G Q ((i,1) :: r) a w:=by
 show gOp P ops i _ a w
 unfold gOp;simp only [ho,hw,if_true];exact h _ (fun a' w' hg hk=>⟨fun _=>hg,hk⟩)
theorem j2 {z:List Nat} {Q:Act→World→Prop} {i:Nat} {r:List (Nat × Nat)} {a:Act} {w:World} {o:Oper} (ho:ops[i]? = some o) (hw:Region.wanted o (yielded ops a.tmps)=true)
  (h:∀ K:Act→World→Prop,(∀ a' w',eL P ops z G Q r a' w'→K a' w')→aM P o a w K):eL P ops z G Q ((i,2) :: r) a w:=by
 show gOp P ops i _ a w
 unfold gOp;simp only [ho,hw,if_true];exact h _ (fun a' w' hk=>⟨(fun h=>by cases h),hk⟩)
theorem dk {z:List Nat} {Q:Act→World→Prop} {a:Act} {w:World} (h:Q a w):eL P ops z G Q [] a w:=h
theorem cy {w:World} {o:Oper} {a:Act} {K:Act→World→Prop} (s x:Operand) (t:TypeId)
  (ho:o.op=.call { callee:=.builtin .append,args:=#[s,x],argTypes:=#[t,t] })
  (e:TypeId) (i:TypeInfo) (z:Value) (size bytes:Nat) (ht:P.underlying t=some (.slice e)) (hi:P.info? e=some i) (hz:i.zero=some z)
  (hsize:i.size=size) (hby:i.bytes=bytes) (hzs:z.cells.size=size) (hsz:0<size)
  (v:Value) (n:Nat) (xs:List Value) (hs:a.eval s=v) (hown:Sl w e size v n xs)
  (ad:Addr) (m c:Nat) (news:List Value) (hx:a.eval x=.slice (some ad) m c) (hl:news.length=m*size) (hnews:∀ j u,news[j]? = some u→w.cell? (ad.add j)=some u) (h1:∀ u ∈ news,u.oneCell'=true)
  (h63:n+m≤maxLen) (hbytes:(n+m)*bytes≤140737488355328)
  (h:∀ v' w',Sl w' e size v' (n+m) (xs ++ news)→aa (ag v) w w'→(∀ k,ag v' k→ag v k∨w.heap.size≤k)→K (a.put o.dst v') w'):aM P o a w K:=by
 obtain ⟨v',w',hr,h2,h3,h4⟩:=kA (P:=P) w t o.type e i z size bytes ht hi hz hsize hby hzs hsz v n xs hown ad m c news hl hnews h1 h63 hbytes;unfold aM execOp;simp only [ho,resolve,invoke,builtin,Sem.run_bind,Sem.run_pure,Result.andThen_ok,List.map_toArray,List.map_cons,List.map_nil,hs,hx,hr];exact h v' w' h2 h3 h4
theorem iF {w:World} {o:Oper} {a:Act} {K:Act→World→Prop} (s x:Operand) (t:TypeId)
  (ho:o.op=.call { callee:=.builtin .append,args:=#[s,x],argTypes:=#[t,t] })
  (e:TypeId) (i:TypeInfo) (size:Nat) (ht:P.underlying t=some (.slice e)) (hi:P.info? e=some i) (hsize:i.size=size)
  (g off n cap:Nat) (cur:List Value) (hs:a.eval s=.slice (some ⟨g,off,none⟩) n cap) (hb:ah w g cur e)
  (ad:Addr) (m c:Nat) (news:List Value) (hx:a.eval x=.slice (some ad) m c) (hl:news.length=m*size) (hnews:∀ j u,news[j]? = some u→w.cell? (ad.add j)=some u) (h1:∀ u ∈ news,u.oneCell'=true)
  (hr:n+m≤cap) (hoc:off+cap*size≤cur.length)
  (h:K (a.put o.dst (.slice (some ⟨g,off,none⟩) (n+m) cap)) (w.setRow g (cur.take (off+n*size) ++ news ++ cur.drop (off+n*size+news.length)).toArray)):aM P o a w K:=by
 have hr:=lF (P:=P) w t o.type e i size ht hi hsize g off n cap cur hb ad m c news hl hnews h1 hr hoc;unfold aM execOp;simp only [ho,resolve,invoke,builtin,Sem.run_bind,Sem.run_pure,Result.andThen_ok,List.map_toArray,List.map_cons,List.map_nil,hs,hx,hr];exact h
end
end
section
open Go.RowKit
def au (l:List (Int × Int)):List Value:=l.flatMap fun e=>[.int .i64 e.1, .int .i64 e.2]
theorem a7 (l:List (Int × Int)):(au l).length=l.length*2:=by
 induction l with
 | nil=>rfl
 | cons e l ih=>simp [au] at ih ⊢;omega
structure ct (w:World) (p:Nat) (rv wv:Value) (regs wait:List (Int × Int)):Prop where
 hp:ah w p [rv,wv] 129
 hr:Sl w 170 2 rv regs.length (au regs)
 hw:Sl w 170 2 wv wait.length (au wait)
 ap:∀ k,¬ (ag rv k∧ag wv k)
def aU (p:Nat) (rv wv:Value) (k:Nat):Prop:=k=p∨ag rv k∨ag wv k
theorem ct.lA {w:World} {p:Nat} {rv wv:Value} {regs wait:List (Int × Int)} (h:ct w p rv wv regs wait) {k:Nat} (hk:aU p rv wv k):k<w.heap.size:=by
 rcases hk with rfl | hk | hk
 ·exact h.hp.lt
 ·exact (h.hr.own hk).1
 ·exact (h.hw.own hk).1
theorem ct.ae {w w':World} {p:Nat} {rv wv:Value} {regs wait:List (Int × Int)} {S:Nat→Prop} (h:ct w p rv wv regs wait) (k:aa S w w') (hn:∀ b,aU p rv wv b→¬ S b):ct w' p rv wv regs wait:=
 ⟨k.ai h.hp (hn p (.inl rfl)),h.hr.ae k (fun g hg=>hn g (.inr (.inl hg))),h.hw.ae k (fun g hg=>hn g (.inr (.inr hg))),h.ap⟩
theorem fH:(Try.prog.info? 170).map (fun i=>(i.zero,i.size,i.bytes))=some (some (.agg #[.int .i64 0, .int .i64 0]),2,16):=by kernel_rfl
end
section
open Go.RowKit
theorem jD:∀ (l:List (Int × Int)) (i:Nat),i<l.length→(au l)[i*2]? = some (.int .i64 (l.getD i (0,0)).1)∧(au l)[i*2+1]? = some (.int .i64 (l.getD i (0,0)).2)
 | e :: l,0,_=>by simp [au]
 | e :: l,i+1,h=>by
  have ih:=jD l i (by simpa using h);have h1:(i+1)*2=i*2+1+1:=by omega
  have h2:(i+1)*2+1=i*2+1+1+1:=by omega
  have e0:au (e :: l)=.int .i64 e.1 :: .int .i64 e.2 :: au l:=by simp [au]
  rw [h2,h1,e0];simpa using ih
theorem Rd.dM {w:World} {ao:Option Addr} {l:List (Int × Int)} (h:Rd w ao (au l)) (i:Nat) (hi:i<l.length) :
  ∃ g o,ao=some ⟨g,o,none⟩∧g<w.heap.size∧w.cell? ⟨g,o+i*2,none⟩=some (.int .i64 (l.getD i (0,0)).1)∧w.cell? ⟨g,o+i*2+1,none⟩=some (.int .i64 (l.getD i (0,0)).2):=by
 have hl:=a7 l;obtain ⟨g,o,rfl,hg,hc⟩:=h (by intro e;rw [e] at hl;simp at hl;omega);have hi2:=jD l i hi;refine ⟨g,o,rfl,hg,?_,?_⟩
 ·rw [hc _ (by omega)];exact hi2.1
 ·rw [show o+i*2+1=o+(i*2+1) by omega,hc _ (by omega)];exact hi2.2
theorem oE (b:Nat) (x g t:Int) (w:World) (h:w.cell? ⟨b,0,none⟩=some (.int .i64 x)) (hb:b<w.heap.size) :
  Calls Try.prog 159 #[.agg #[.int .i64 g, .int .i64 t], .pointer (some ⟨b,0,none⟩)] w fun e w'=>e=.returned (.bool (g == x))∧aa (fun _=>False) w w':=by
 go_enter Try.func159,Try.ntmps159
 go_wp2
 go_ret;exact ⟨rfl,(aa.refl _ _).alloc _⟩
def findG (x:Int):List (Int × Int)→Nat
 | []=>0
 | e :: l=>if e.1=x then 0 else findG x l+1
def jE (x:Int) (l:List (Int × Int)):Int:=if findG x l<l.length then (findG x l:Int) else -1
theorem hZ {x:Int}:∀ {l:List (Int × Int)} {k:Nat},k<l.length→(∀ j,j<k→(l.getD j (0,0)).1≠x)→(l.getD k (0,0)).1=x→findG x l=k
 | e :: l,0,_,_,h=>by simp at h;simp [findG,h]
 | e :: l,k+1,hk,hj,h=>by
  have h0:=hj 0 (by omega);simp at h0;simp only [findG,h0,if_false];rw [hZ (k:=k) (by simpa using hk) (fun j hjk=>by simpa using hj (j+1) (by omega)) (by simpa using h)]
theorem ia {x:Int}:∀ {l:List (Int × Int)},(∀ j,j<l.length→(l.getD j (0,0)).1≠x)→findG x l=l.length
 | [],_=>rfl
 | e :: l,h=>by
  have h0:=h 0 (by simp);simp at h0;simp only [findG,h0,if_false];rw [ia (fun j hj=>by simpa using h (j+1) (by simpa using hj))];rfl
theorem ju (ao:Option Addr) (cap b:Nat) (x:Int) (l:List (Int × Int)) (w:World) (h:Rd w ao (au l)) (hc:w.cell? ⟨b,0,none⟩=some (.int .i64 x)) (hl:l.length≤9223372036854775806) (hb:b<w.heap.size) :
  Calls Try.prog 158 #[.slice ao l.length cap, .func (.func 159) #[] #[.pointer (some ⟨b,0,none⟩)]] w fun e w'=>
   e=.returned (.int .i64 (jE x l))∧aa (fun _=>False) w w':=by
 have HR:=Hz h;have HB:=Hz hc;clear h hc;go_enter Try.func158,Try.ntmps158;go_wp2_with fail;go_loopw [8] (fun i wr=>∃ k:Nat,k≤l.length∧i=.int .i64 k∧Hid (∀ j,j<k→(l.getD j (0,0)).1≠x)∧aa (fun _=>False) w wr) (fun i _=>l.length-(intOf i).toNat)
 case atStart=>exact ⟨0,Nat.zero_le _,rfl,(fun j hj=>by omega),aa.refl _ _⟩
 case round=>
  obtain ⟨k,hk,rfl,hno,hkk⟩:=hrel;have HK:=Hz hkk;clear hkk;by_cases hlt:k<l.length
  ·obtain ⟨g,o,rfl,_,hc0,hc1⟩:=(HR.out.ae HK.out (fun _ _ _ h=>h)).dM k hlt;have hbb:wr.cell? ⟨b,0,none⟩=some (.int .i64 x):=by
    rw [←HB.out];exact World.cell?_of_block (w:=w) (a:=⟨b,0,none⟩) (HK.out.block b hb (fun h=>h))
   have hbs:b<wr.heap.size:=Nat.lt_of_lt_of_le hb HK.out.size;generalize hv:l.getD k (0,0)=v at *;have HV:=Hz hv;clear hv;cases he:(v.1 == x)
   ·go_wp2_with (go_at_call 159;refine (oE b x v.1 v.2 _ hbb hbs).mono ?_;rintro e w2 ⟨rfl,hk2⟩);go_roundw
    case rel=>exact ⟨k+1,by omega,by go_num,fun j hj=>by
     by_cases e:j=k
     ·subst e;rw [HV.out];simpa using he
     ·exact hno.out j (by omega),HK.out.trans hk2⟩
    case measure=>simp [intOf];omega
   ·have HE:=Hz (hZ hlt hno.out (by rw [HV.out];simpa using he));go_wp2_with (go_at_call 159;refine (oE b x v.1 v.2 _ hbb hbs).mono ?_;rintro e w2 ⟨rfl,hk2⟩);go_ret;exact ⟨gR (by unfold jE;rw [HE.out,if_pos hlt]),HK.out.trans hk2⟩
  ·obtain rfl:k=l.length:=by omega
   have HE:=Hz (ia hno.out);go_wp2_with fail;go_ret;exact ⟨gR (by unfold jE;rw [HE.out,if_neg (by omega)]),HK.out⟩
theorem jF {l:List (Int × Int)} {u:Value} (h:u ∈ au l):u.oneCell'=true:=by
 simp only [au,List.mem_flatMap] at h;obtain ⟨e,_,he⟩:=h;simp at he;rcases he with rfl | rfl <;> rfl
theorem dN (e:Int × Int) (l:List (Int × Int)):au (e :: l)=.int .i64 e.1 :: .int .i64 e.2 :: au l:=by simp [au]
theorem fI:∀ {l:List (Int × Int)} {i:Nat},i<l.length→au (l.eraseIdx i)=(au l).take (i*2) ++ (au l).drop ((i+1)*2)
 | e :: l,0,_=>by simp [dN]
 | e :: l,i+1,h=>by
  have ih:=fI (l:=l) (i:=i) (by simpa using h);have e1:(i+1)*2=i*2+1+1:=by omega
  have e2:(i+1+1)*2=i*2+1+1+1+1:=by omega
  rw [List.eraseIdx_cons_succ,dN,dN,ih,e2,e1]
  rfl
theorem mZ {cur news rest:List Value} {o k j:Nat} (hk:o+k≤cur.length) (hj:j=k+news.length) (tail:List Value) :
  (((cur.take (o+k) ++ news ++ tail).take (o+j) ++ rest).drop o).take j=(cur.drop o).take k ++ news:=by
 subst hj;have h1:(cur.take (o+k) ++ news ++ tail).take (o+(k+news.length))=cur.take (o+k) ++ news:=by
  apply List.take_left';simp;omega
 rw [h1,List.append_assoc,List.drop_append_of_le_length (by simp;omega),List.drop_take,show o+k-o=k by omega,←List.append_assoc];apply List.take_left';simp;omega
theorem pQ (g o cap i m:Nat) (l:List (Int × Int)) (cur:List Value) (w:World) (hb:ah w g cur 170) (hn:l.length=i+1+m) (hcap:i+1+m≤cap) (hcm:cap≤9223372036854775807) (hoc:o+cap*2≤cur.length)
  (hx:(cur.drop o).take (l.length*2)=au l) :
  Calls Try.prog 160 #[.slice (some ⟨g,o,none⟩) (i+1+m) cap, .int .i64 i, .int .i64 ((i:Int)+1)] w fun e w'=>
   e=.returned (.slice (some ⟨g,o,none⟩) (i+m) cap)∧Sl w' 170 2 (.slice (some ⟨g,o,none⟩) (i+m) cap) (i+m) (au (l.eraseIdx i))∧aa (·=g) w w':=by
 obtain ⟨i0,hi0,hz0,hz1,hz2⟩:=info_parts fH;have Hi:=Hz hi0;have Hz1:=Hz hz1;clear hi0 hz0 hz1 hz2;have HX:=Hz hx;have HB:=Hz hb;have HN:=Hz hn;clear hx hb hn;have hne:((i:Int) == (i:Int)+1)=false:=by simp;omega
 have b1:(0:Int)≤(i:Int)+1:=by omega
 have b2:(i:Int)+1≤((i+1+m:Nat):Int):=by omega
 have b3:(i:Int)+1≤(i:Int)+1+(m:Int):=by omega
 have b4:(i:Int)≤(cap:Int):=by omega
 have b5:(i:Int)≤(i:Int)+1:=by omega
 by_cases hcc:cap=i+1
 ·have hif:(if cap=i+1 then some (⟨g,o,none⟩:Addr) else some ⟨g,o+(i+1)*2,none⟩)=some ⟨g,o,none⟩:=if_pos hcc;have hif2:(if cap=i+m then some (⟨g,o,none⟩:Addr) else some ⟨g,o+(i+m)*2,none⟩)=some ⟨g,o+(i+m)*2,none⟩:=if_neg (by omega);have HCC:=Hz hcc;clear hcc;have hm0:m≤0:=by have:=HCC.out;omega
  go_enter Try.func160,Try.ntmps160;go_wp2_with fail;refine cv [(0,0),(1,0),(2,0),(3,0),(4,0),(5,0),(6,1),(7,0)] (fun _=>True) (by kernel_rfl) (by kernel_rfl) trivial ?_
  iterate 6 (refine bx rfl rfl _ (fun w' hG=>by obtain ⟨_⟩:=hG;go_simp;exact bH.mk _ _) (fun K hK=>?_);go_simp;refine hK _ ?_;clear hK K)
  refine bL rfl rfl (fun K hK=>?_);refine iF (.tmp 22) (.tmp 25) 127 rfl 170 i0 2 Try.underlying127 Hi.out Hz1.out g o i cap cur rfl HB.out ⟨g,o,none⟩ m (cap-(i+1)) ((au l).drop ((i+1)*2)) ?hxq ?hlq ?hnq ?h1q ?hrq hoc ?hkq
  case hxq=>rfl
  case hlq=>rw [List.length_drop,a7,HN.out];omega
  case hnq=>
   intro j u hu;have hj:=(List.getElem?_eq_some_iff.1 hu).1;rw [List.length_drop,a7,HN.out] at hj;omega
  case h1q=>intro u hu;exact jF (List.mem_of_mem_drop hu)
  case hrq=>omega
  case hkq=>
   refine hK _ _ trivial ?_;clear hK K;have hb1:ah (w.drew.setRow g (cur.take (o+i*2) ++ (au l).drop ((i+1)*2) ++ cur.drop (o+i*2+((au l).drop ((i+1)*2)).length)).toArray) g _ 170:=ah.setRow (w:=w.drew) HB.out _;have hk1:aa (·=g) w (w.drew.setRow g (cur.take (o+i*2) ++ (au l).drop ((i+1)*2) ++ cur.drop (o+i*2+((au l).drop ((i+1)*2)).length)).toArray):=((aa.refl (·=g) w).drew).setRow (g:=g) (.inl rfl) _;generalize hc1:cur.take (o+i*2) ++ (au l).drop ((i+1)*2) ++ cur.drop (o+i*2+((au l).drop ((i+1)*2)).length)=c1 at *;generalize w.drew.setRow g _=w1 at *;have hln:((au l).drop ((i+1)*2)).length=m*2:=by rw [List.length_drop,a7,HN.out];omega
   have hl1:c1.length=cur.length:=by
    rw [←hc1];simp only [List.length_append,List.length_take,List.length_drop,hln];simp at hln;omega
   obtain ⟨zs,hzl,hclr⟩:=iJ (P:=Try.prog) w1 127 0 170 (.agg #[.int .i64 0, .int .i64 0]) Try.underlying127 (by intro w;kernel_rfl) (by intro u hu;simp [Value.cells] at hu;subst hu;rfl) (by decide) g (o+(i+m)*2) (i+1+m-(i+m)) (cap-(i+m)) _ hb1 (by rw [hl1];show o+(i+m)*2+(i+1+m-(i+m))*2≤_;omega);generalize hc2:c1.take (o+(i+m)*2) ++ zs ++ c1.drop (o+(i+m)*2+zs.length)=c2 at *;have HB2:=Hz (hb1.setRow c2);have HK2:=Hz (hk1.setRow (g:=g) (.inl rfl) c2.toArray);have HL:=Hz hl1;have HZ:=Hz hzl;have HLN:=Hz hln;have HC1:=Hz hc1;have HC2:=Hz hc2;clear hb1 hk1 hl1 hzl hln hc1 hc2
   iterate 1 (refine bx rfl rfl _ (fun w' hG=>by obtain ⟨_⟩:=hG;go_simp;exact bH.mk _ _) (fun K hK=>?_);go_simp;refine hK _ ?_;clear hK K)
   refine dk ?_;go_wp2_with fail;go_ret;refine ⟨rfl,⟨?_, .inr ⟨g,o,cap,_,rfl,HB2.out,by omega,by unfold maxLen;omega,?_,?_⟩⟩,HK2.out⟩
   ·rw [a7,List.length_eraseIdx_of_lt (by rw [HN.out];omega),HN.out];omega
   ·have h1:=HL.out;have h2:=HZ.out;have h3:zs.length=(i+1+m-(i+m))*2:=h2;rw [←HC2.out];simp only [List.length_append,List.length_take,List.length_drop];omega
   ·rw [←HC2.out,←HC1.out,List.append_assoc _ zs _,mZ (by omega) (by rw [HLN.out];omega),fI (by rw [HN.out];omega)];congr 1;rw [←HX.out,HN.out,List.take_take,Nat.min_eq_left (by omega)]
 ·go_enter Try.func160,Try.ntmps160;go_wp2_with fail;refine cv [(0,0),(1,0),(2,0),(3,0),(4,0),(5,0),(6,1),(7,0)] (fun _=>True) (by kernel_rfl) (by kernel_rfl) trivial ?_
  iterate 6 (refine bx rfl rfl _ (fun w' hG=>by obtain ⟨_⟩:=hG;go_simp;exact bH.mk _ _) (fun K hK=>?_);go_simp;refine hK _ ?_;clear hK K)
  refine bL rfl rfl (fun K hK=>?_);refine iF (.tmp 22) (.tmp 25) 127 rfl 170 i0 2 Try.underlying127 Hi.out Hz1.out g o i cap cur rfl HB.out ⟨g,o+(i+1)*2,none⟩ m (cap-(i+1)) ((au l).drop ((i+1)*2)) ?hx ?hl ?hn ?h1 ?hr hoc ?hk
  case hx=>rfl
  case hl=>rw [List.length_drop,a7,HN.out];omega
  case hn=>
   intro j u hu;have hj:=(List.getElem?_eq_some_iff.1 hu).1;rw [List.length_drop,a7,HN.out] at hj;rw [cX]
   show w.cell? ⟨g,o+(i+1)*2+j,none⟩=some u
   rw [HB.out.cell,←hu,←HX.out,HN.out,List.getElem?_drop,List.getElem?_take,if_pos (by omega),List.getElem?_drop];congr 1;omega
  case h1=>intro u hu;exact jF (List.mem_of_mem_drop hu)
  case hr=>omega
  case hk=>
   refine hK _ _ trivial ?_;clear hK K;have hb1:ah (w.drew.setRow g (cur.take (o+i*2) ++ (au l).drop ((i+1)*2) ++ cur.drop (o+i*2+((au l).drop ((i+1)*2)).length)).toArray) g _ 170:=ah.setRow (w:=w.drew) HB.out _;have hk1:aa (·=g) w (w.drew.setRow g (cur.take (o+i*2) ++ (au l).drop ((i+1)*2) ++ cur.drop (o+i*2+((au l).drop ((i+1)*2)).length)).toArray):=((aa.refl (·=g) w).drew).setRow (g:=g) (.inl rfl) _;generalize hc1:cur.take (o+i*2) ++ (au l).drop ((i+1)*2) ++ cur.drop (o+i*2+((au l).drop ((i+1)*2)).length)=c1 at *;generalize w.drew.setRow g _=w1 at *;have hln:((au l).drop ((i+1)*2)).length=m*2:=by rw [List.length_drop,a7,HN.out];omega
   have hl1:c1.length=cur.length:=by
    rw [←hc1];simp only [List.length_append,List.length_take,List.length_drop,hln];simp at hln;omega
   obtain ⟨zs,hzl,hclr⟩:=iJ (P:=Try.prog) w1 127 0 170 (.agg #[.int .i64 0, .int .i64 0]) Try.underlying127 (by intro w;kernel_rfl) (by intro u hu;simp [Value.cells] at hu;subst hu;rfl) (by decide) g (o+(i+m)*2) (i+1+m-(i+m)) (cap-(i+m)) _ hb1 (by rw [hl1];show o+(i+m)*2+(i+1+m-(i+m))*2≤_;omega);generalize hc2:c1.take (o+(i+m)*2) ++ zs ++ c1.drop (o+(i+m)*2+zs.length)=c2 at *;have HB2:=Hz (hb1.setRow c2);have HK2:=Hz (hk1.setRow (g:=g) (.inl rfl) c2.toArray);have HL:=Hz hl1;have HZ:=Hz hzl;have HLN:=Hz hln;have HC1:=Hz hc1;have HC2:=Hz hc2;clear hb1 hk1 hl1 hzl hln hc1 hc2
   iterate 1 (refine bx rfl rfl _ (fun w' hG=>by obtain ⟨_⟩:=hG;go_simp;exact bH.mk _ _) (fun K hK=>?_);go_simp;refine hK _ ?_;clear hK K)
   refine dk ?_;go_wp2_with fail;go_ret;refine ⟨rfl,⟨?_, .inr ⟨g,o,cap,_,rfl,HB2.out,by omega,by unfold maxLen;omega,?_,?_⟩⟩,HK2.out⟩
   ·rw [a7,List.length_eraseIdx_of_lt (by rw [HN.out];omega),HN.out];omega
   ·have h1:=HL.out;have h2:=HZ.out;have h3:zs.length=(i+1+m-(i+m))*2:=h2;rw [←HC2.out];simp only [List.length_append,List.length_take,List.length_drop];omega
   ·rw [←HC2.out,←HC1.out,List.append_assoc _ zs _,mZ (by omega) (by rw [HLN.out];omega),fI (by rw [HN.out];omega)];congr 1;rw [←HX.out,HN.out,List.take_take,Nat.min_eq_left (by omega)]
end
section
open Go.RowKit
theorem Sl.laid {w:World} {e size:Nat} {v:Value} {n:Nat} {xs:List Value} (h:Sl w e size v n xs) (hn:0<n) :
  ∃ g o cap cur,v=.slice (some ⟨g,o,none⟩) n cap∧ah w g cur e∧n≤cap∧cap≤maxLen∧o+cap*size≤cur.length∧(cur.drop o).take (n*size)=xs:=by
 rcases h.2 with ⟨_,h0⟩ | h
 ·omega
 ·exact h
theorem nA:(Try.prog.info? 2).map (fun i=>(i.zero,i.size,i.bytes))=some (some (.int .i64 0),1,8):=by kernel_rfl
def fU (x:Int) (l:List (Int × Int)):List Int:=(l.filter fun e=>e.1 == x).map (·.2)
theorem pR {x:Int} {l:List (Int × Int)} {k:Nat} (h:k<l.length):fU x (l.take (k+1))=fU x (l.take k) ++ if ((l.getD k (0,0)).1 == x)=true then [(l.getD k (0,0)).2] else []:=by
 unfold fU;rw [List.take_succ_eq_append_getElem h,List.filter_append,List.map_append];congr 1;have hg:l.getD k (0,0)=l[k]:=by simp [List.getD,h]
 rw [hg];cases hc:(l[k].1 == x) <;> simp [hc]
theorem oF (x:Int) (l:List (Int × Int)):(fU x l).length≤l.length:=by
 unfold fU;rw [List.length_map];exact List.length_filter_le _ _
def pS (w:World) (e:Ending) (w':World) (l:List Int):Prop:=
 ∃ ao cap,e=.returned (.slice ao l.length cap)∧Sl w' 2 1 (.slice ao l.length cap) l.length (l.map (Value.int .i64))∧aa (fun _=>False) w w'∧∀ k,ag (.slice ao l.length cap) k→w.heap.size≤k
def q9 (w:World) (e:Ending) (w':World) (l:List (Int × Int)):Prop:=
 ∃ ao cap,e=.returned (.slice ao l.length cap)∧Sl w' 170 2 (.slice ao l.length cap) l.length (au l)∧aa (fun _=>False) w w'∧∀ k,ag (.slice ao l.length cap) k→w.heap.size≤k
theorem m0 (v:Value) (l:List (Int × Int)) (w:World) (h:Sl w 170 2 v l.length (au l)) (hl:l.length≤1000000) :
  Calls Try.prog 161 #[v] w fun e w'=>q9 w e w' l:=by
 obtain ⟨i0,hi,hz0,hz1,hz2⟩:=info_parts fH;have Hi:=Hz hi;have Hz0:=Hz hz0;have Hz1:=Hz hz1;have Hz2:=Hz hz2;clear hi hz0 hz1 hz2;have hxl:=h.1;rcases h.2 with ⟨rfl,hn⟩ | ⟨g,o,cap,cur,rfl,hb,hnc,hcm,hoc,hx⟩
 ·have hl0:l=[]:=List.eq_nil_of_length_eq_zero hn;subst hl0;have hne:=fun (wx:World)=>Lib.run_eql_slice_nil (P:=Try.prog) wx 127 170 none 0 0 0 0 Try.underlying127;go_enter Try.func161,Try.ntmps161;go_wp2_with fail;go_ret;exact ⟨none,0,rfl,Sl.nil _ _ _,aa.refl _ _,by intro k hk;simp [ag,Value.ownBlock] at hk⟩
 ·have hne:=fun (wx:World)=>Lib.run_eql_slice_nil (P:=Try.prog) wx 127 170 (some ⟨g,o,none⟩) l.length cap 0 0 Try.underlying127;have HX:=Hz hx;have HB:=Hz hb;clear hx hb h hxl;go_enter Try.func161,Try.ntmps161;go_wp2_with (at_builtin;refine bD rfl (.tmp 5) (.tmp 6) 127 rfl 170 i0 (.agg #[.int .i64 0, .int .i64 0]) 2 16 Try.underlying127 Hi.out Hz0.out Hz1.out Hz2.out rfl (by decide) _ 0 [] rfl ?ha ⟨g,o,none⟩ l.length cap (au l) rfl ?hl ?hb ?hc ?hd ?he ?hf)
  case ha=>exact ⟨rfl, .inr ⟨w.heap.size,0,0,[],rfl,ah.newAt _ rfl rfl,Nat.le_refl _,Nat.zero_le _,by simp,by simp⟩⟩
  case hl=>exact a7 l
  case hb=>
   intro j u hu;have hj:=(List.getElem?_eq_some_iff.1 hu).1;rw [a7] at hj;rw [cX,(HB.out.alloc _).cell,←hu,←HX.out,List.getElem?_take,if_pos hj,List.getElem?_drop]
  case hc=>intro u hu;exact jF hu
  case hd=>unfold maxLen;omega
  case he=>omega
  case hf=>
   intro v2 w2 hs2 hk2 ho2;go_wp2_with fail;go_ret;obtain ⟨ao,c2,rfl,_,_,_⟩:=hs2.rd;refine ⟨ao,c2,rfl,hs2,((Kz w).alloc _).then hk2 (fun j hj=>by simp [ag,Value.ownBlock] at hj;exact .inr (by omega)),fun j hj=>?_⟩;rcases ho2 j hj with h | h
   ·simp [ag,Value.ownBlock] at h;omega
   ·first | omega | (simp at h;omega)
def ra (w:World) (e:Ending) (w':World) (regs wait:List (Int × Int)):Prop:=
 ∃ p' rv' wv',e=.returned (.pointer (some ⟨p',0,none⟩))∧ct w' p' rv' wv' regs wait∧aa (fun _=>False) w w'∧∀ k,aU p' rv' wv' k→w.heap.size≤k
end
section
open Go.RowKit
structure GX where
 l:Value
 ro:Value
 y:Value
 o:Value
 m:Value
 g:Value
variable {gx:GX}
structure a8 (gx:GX) (w:World) (p:Nat) (rv wv:Value) (regs wait:List (Int × Int)):Prop where
 hp:ah w p [gx.l,gx.ro,rv,wv,gx.y,gx.o,gx.m,gx.g] 146
 hr:Sl w 170 2 rv regs.length (au regs)
 hw:Sl w 170 2 wv wait.length (au wait)
 ap:∀ k,¬ (ag rv k∧ag wv k)
theorem a8.pr {w:World} {p:Nat} {rv wv:Value} {regs wait:List (Int × Int)} (h:a8 gx w p rv wv regs wait):¬ ag rv p:=fun hk=>by
 obtain ⟨_,cur,hc⟩:=h.hr.own hk;exact (hc.ne h.hp (by decide)) rfl
theorem a8.pw {w:World} {p:Nat} {rv wv:Value} {regs wait:List (Int × Int)} (h:a8 gx w p rv wv regs wait):¬ ag wv p:=fun hk=>by
 obtain ⟨_,cur,hc⟩:=h.hw.own hk;exact (hc.ne h.hp (by decide)) rfl
theorem a8.lA {w:World} {p:Nat} {rv wv:Value} {regs wait:List (Int × Int)} (h:a8 gx w p rv wv regs wait) {k:Nat} (hk:aU p rv wv k):k<w.heap.size:=by
 rcases hk with rfl | hk | hk
 ·exact h.hp.lt
 ·exact (h.hr.own hk).1
 ·exact (h.hw.own hk).1
theorem a8.ae {w w':World} {p:Nat} {rv wv:Value} {regs wait:List (Int × Int)} {S:Nat→Prop} (h:a8 gx w p rv wv regs wait) (k:aa S w w') (hn:∀ b,aU p rv wv b→¬ S b):a8 gx w' p rv wv regs wait:=
 ⟨k.ai h.hp (hn p (.inl rfl)),h.hr.ae k (fun g hg=>hn g (.inr (.inl hg))),h.hw.ae k (fun g hg=>hn g (.inr (.inr hg))),h.ap⟩
def kB (gx:GX) (w:World) (p:Nat) (rv wv:Value) (w':World) (regs wait:List (Int × Int)):Prop:=
 ∃ rv' wv',a8 gx w' p rv' wv' regs wait∧aa (aU p rv wv) w w'∧∀ k,aU p rv' wv' k→aU p rv wv k∨w.heap.size≤k
theorem m3 (p:Nat) (rv wv:Value) (regs wait:List (Int × Int)) (w:World) (h:a8 gx w p rv wv regs wait) (h1:regs.length≤1000000) (h2:wait.length≤1000000) :
  Calls Try.prog 145 #[.pointer (some ⟨p,2,none⟩)] w fun e w'=>e=.returned (.bool (decide (24≤regs.length+wait.length)))∧aa (fun _=>False) w w':=by
 obtain ⟨ro,rc,rfl,_,_,_⟩:=h.hr.rd;obtain ⟨wo,wc,rfl,_,_,_⟩:=h.hw.rd;have c0:w.cell? ⟨p,2,none⟩=_:=h.hp.cell 2;have c1:w.cell? ⟨p,3,none⟩=_:=h.hp.cell 3;simp only [Lz,Ls] at c0 c1;have hw:IntKind.i64.wrap ((regs.length:Int)+(wait.length:Int))=(regs.length:Int)+(wait.length:Int):=IntWalk.i64_in _ (by omega);go_enter Try.func145,Try.ntmps145;go_wp2_with fail;refine cv [(0,0),(1,0),(2,0),(5,0),(6,0),(7,0),(3,0),(4,0),(8,0),(9,0),(10,0),(11,0),(12,0)] (fun w'=>w'.cell? ⟨p,2,none⟩=some (.slice ro regs.length rc)∧w'.cell? ⟨p,3,none⟩=some (.slice wo wait.length wc)) (by kernel_rfl) (by kernel_rfl) ⟨c0,c1⟩ ?_
 iterate 13 (refine bx rfl rfl _ (fun w' hG=>by obtain ⟨g0,g1⟩:=hG;go_simp;exact bH.mk _ _) (fun K hK=>?_);go_simp;refine hK _ ?_;clear hK K)
 refine dk ?_;go_wp2_with fail;go_ret;refine ⟨cG ?_,(aa.refl _ _).drew⟩;congr 1;simp only [eq_iff_iff];omega
theorem oG (p:Nat) (rv wv:Value) (regs wait:List (Int × Int)) (g t:Int) (w:World) (h:a8 gx w p rv wv regs wait) (h1:regs.length≤1000000) (h2:wait.length≤1000000) (hf:24≤regs.length+wait.length) :
  Calls Try.prog 115 #[.pointer (some ⟨p,2,none⟩), .agg #[.int .i64 g, .int .i64 t]] w fun e w'=>e=.returned (.bool false)∧aa (fun _=>False) w w':=by
 have H:=Hz (h.ae ((Kz w).alloc (.cells #[.int .i64 g, .int .i64 t] 170)) (fun _ _ h=>h));clear h;have hd:decide (24≤regs.length+wait.length)=true:=by simpa using hf
 go_enter Try.func115,Try.ntmps115;go_wp2_with fail;refine (m3 p rv wv regs wait _ H.out h1 h2).mono ?_;rintro e w1 ⟨rfl,hk⟩;rw [hd];go_wp2_with fail;go_ret;exact ⟨rfl,((aa.refl _ _).alloc _).trans hk⟩
theorem oH (p:Nat) (rv wv:Value) (regs wait:List (Int × Int)) (g t:Int) (w:World) (h:a8 gx w p rv wv regs wait) (h1:regs.length≤1000000) (h2:wait.length≤1000000) (hf:¬ 24≤regs.length+wait.length) :
  Calls Try.prog 115 #[.pointer (some ⟨p,2,none⟩), .agg #[.int .i64 g, .int .i64 t]] w fun e w'=>e=.returned (.bool true)∧kB gx w p rv wv w' (regs ++ [(g,t)]) wait:=by
 obtain ⟨i0,hi,hz0,hz1,hz2⟩:=info_parts fH;have Hi:=Hz hi;have Hz0:=Hz hz0;have Hz1:=Hz hz1;have Hz2:=Hz hz2;clear hi hz0 hz1 hz2;have HW:=Hz h;have H:=Hz (h.ae ((Kz w).alloc (.cells #[.int .i64 g, .int .i64 t] 170)) (fun _ _ h=>h));have HB:=Hz (ah.newAt (w:=w) (b:=w.heap.size) (T:=170) #[.int .i64 g, .int .i64 t] rfl rfl);clear h;have hd:decide (24≤regs.length+wait.length)=false:=by simpa using hf
 obtain ⟨ro,rc,rfl,_,_,_⟩:=HW.out.hr.rd;go_enter Try.func115,Try.ntmps115;go_wp2_with fail;refine (m3 p _ wv regs wait _ H.out h1 h2).mono ?_;rintro e w1 ⟨rfl,hk⟩;rw [hd];have HB1:=Hz (hk.ai HB.out (fun h=>h));have HW1:=Hz (H.out.ae hk (fun _ _ h=>h));have HK1:=Hz (((aa.refl (aU p (.slice ro regs.length rc) wv) w).alloc (.cells #[.int .i64 g, .int .i64 t] 170)).trans (hk.mono fun _ _ h=>h.elim));clear hk;have c0:=HW1.out.hp.cell 2;have b0:=HB1.out.cell 0;have b1:=HB1.out.cell 1;have f0:=HW1.out.hp.free 2;simp only [Lz,Ls] at c0 b0 b1;go_wp2_with fail;refine cv [(0,0),(1,0),(2,0),(3,0),(4,0),(5,0),(6,1),(7,1),(8,0),(9,0),(10,2)] (fun w'=>w'.cell? ⟨p,2,none⟩=some (.slice ro regs.length rc)∧w'.cell? ⟨w.heap.size,0,none⟩=some (.int .i64 g)∧w'.cell? ⟨w.heap.size,1,none⟩=some (.int .i64 t)) (by kernel_rfl) (by kernel_rfl) ⟨c0,b0,b1⟩ ?_
 iterate 6 (refine bx rfl rfl _ (fun w' hG=>by obtain ⟨g0,g1,g2⟩:=hG;go_simp;exact bH.mk _ _) (fun K hK=>?_);go_simp;refine hK _ ?_;clear hK K)
 refine bL rfl rfl (fun K hK=>?_);unfold aM;go_simp;refine hK _ _ ?_ ?_
 ·have k:=(Kz w1).alloc (.cells #[.int .i64 g, .int .i64 t] 170);have b:=k.ai HW1.out.hp (fun h=>h);have b':=k.ai HB1.out (fun h=>h);exact ⟨b.cell 2,b'.cell 0,b'.cell 1⟩
 clear hK K;refine bL rfl rfl (fun K hK=>?_);refine cy (.tmp 11) (.tmp 13) 127 rfl 170 i0 (.agg #[.int .i64 0, .int .i64 0]) 2 16 Try.underlying127 Hi.out Hz0.out Hz1.out Hz2.out rfl (by decide) _ regs.length (au regs) rfl ?ha ⟨w1.heap.size,0,none⟩ 1 1 [.int .i64 g, .int .i64 t] rfl rfl ?hb ?hc ?hd ?he ?hf
 case ha=>exact HW1.out.hr.ae (((Kz w1).alloc _).drew) (fun _ _ h=>h)
 case hb=>exact bq w1 170 #[.int .i64 g, .int .i64 t]
 case hc=>intro u hu;simp at hu;rcases hu with rfl | rfl <;> rfl
 case hd=>unfold maxLen;omega
 case he=>omega
 case hf=>
  intro v2 w2 hs2 hk2 ho2;have hka:aa (fun _=>False) w1 ((w1.alloc (.cells #[.int .i64 g, .int .i64 t] 170)).drew):=((Kz w1).alloc _).drew;have hp2:=hk2.ai (hka.ai HW1.out.hp (fun h=>h)) HW1.out.pr;have hw2:=(HW1.out.hw.ae hka (fun _ _ h=>h)).ae hk2 (fun b hb hr=>HW1.out.ap b ⟨hr,hb⟩);have hb2:=hk2.ai (hka.ai HB1.out (fun h=>h)) (fun hr=>by have:=(HW.out.hr.own hr).1;omega);refine hK _ _ ⟨hp2.cell 2,hb2.cell 0,hb2.cell 1⟩ ?_;clear hK K;have hs3:Sl w2 170 2 v2 (regs ++ [(g,t)]).length (au (regs ++ [(g,t)])):=by simpa [au] using hs2
  obtain ⟨vo,vc,rfl,_,_,_⟩:=hs3.rd;have HK2:Hid (aa (aU p (.slice ro regs.length rc) wv) w w2):=(HK1.out.trans (hka.mono fun _ _ h=>h.elim)).trans (hk2.mono fun k _ hk=>.inr (.inl hk));have HO:Hid (∀ k,ag (.slice vo (regs ++ [(g,t)]).length vc) k→ag (.slice ro regs.length rc) k∨w.heap.size≤k):=fun k hk=>by
   rcases ho2 k hk with h | h
   ·exact .inl h
   ·have:=HK1.out.size;simp at h;exact .inr (by omega)
  have HP:=Hz hp2;have HW2:=Hz hw2;have HS:=Hz hs3;have HWL:Hid (∀ k,ag wv k→k<w.heap.size):=fun k hk=>(HW.out.hw.own hk).1;clear hs2 hk2 ho2 hka hp2 hw2 hb2 hs3;have d0:=HP.out.cell 2;have e0:=HP.out.free 2;simp only [Lz,Ls] at d0
  iterate 2 (refine bx rfl rfl _ (fun w' hG=>by obtain ⟨g0,g1,g2⟩:=hG;go_simp;exact bH.mk _ _) (fun K hK=>?_);go_simp;refine hK _ ?_;clear hK K)
  refine j2 rfl rfl (fun K hK=>?_);unfold aM;go_simp;refine hK _ _ ?_;clear hK K;refine dk ?_;go_wp2_with fail;go_ret;refine ⟨rfl,_,_,⟨by simpa using HP.out.aF 2 _,HS.out.ae ((aa.refl (·=p) w2).setCell (p:=⟨p,2,none⟩) (.inl rfl) _) ?_,HW2.out.ae ((aa.refl (·=p) w2).setCell (p:=⟨p,2,none⟩) (.inl rfl) _) ?_,?_⟩,HK2.out.setCell (p:=⟨p,2,none⟩) (.inl (.inl rfl)) _,?_⟩
  ·rintro b hb rfl;obtain ⟨_,cur,hc⟩:=HS.out.own hb;exact (hc.ne HP.out (by decide)) rfl
  ·rintro b hb rfl;obtain ⟨_,cur,hc⟩:=HW2.out.own hb;exact (hc.ne HP.out (by decide)) rfl
  ·rintro k ⟨h1,h2⟩;rcases HO.out k h1 with h | h
   ·exact HW.out.ap k ⟨h,h2⟩
   ·have:=HWL.out k h2;omega
  ·rintro k (h | h | h)
   ·exact .inl (.inl h)
   ·rcases HO.out k h with h | h
    ·exact .inl (.inr (.inl h))
    ·exact .inr h
   ·exact .inl (.inr (.inr h))
end
section
open Go.RowKit
variable {gx:GX}
theorem oI (p:Nat) (rv wv:Value) (regs wait:List (Int × Int)) (x:Int) (w:World) (h:a8 gx w p rv wv regs wait) (h2:wait.length≤1000000) (hf:¬ findG x wait<wait.length) :
  Calls Try.prog 136 #[.pointer (some ⟨p,2,none⟩), .int .i64 x] w fun e w'=>e=.returned (.tuple #[.int .i64 0, .bool false])∧aa (fun _=>False) w w':=by
 obtain ⟨wo,wc,rfl,hrd,_,_⟩:=h.hw.rd;have hka:=(Kz w).alloc (.cells #[.int .i64 x] 2);have H:=Hz (h.ae hka (fun _ _ h=>h));have c1:=H.out.hp.cell 3;simp only [Lz,Ls] at c1;have HR:=Hz (hrd.ae hka (fun _ _ _ h=>h));have HE:=Hz (show jE x wait=-1 by unfold jE;rw [if_neg hf]);have hbx:(w.alloc (.cells #[.int .i64 x] 2)).cell? ⟨w.heap.size,0,none⟩=some (.int .i64 x):=by simp
 have HBX:=Hz hbx;clear h hrd hka hf hbx;go_enter Try.func136,Try.ntmps136;go_wp2_with fail;refine (ju wo wc w.heap.size x wait _ HR.out HBX.out (by omega) (by simp)).mono ?_;rintro e w1 ⟨rfl,hk⟩;rw [HE.out];go_wp2_with fail;go_ret2;exact ⟨rfl,((aa.refl _ _).alloc _).trans hk⟩
theorem oJ (p:Nat) (rv wv:Value) (regs wait:List (Int × Int)) (x:Int) (i m:Nat) (w:World) (h:a8 gx w p rv wv regs wait) (h2:wait.length≤1000000) (hf:findG x wait=i) (hm:wait.length=i+1+m) :
  Calls Try.prog 136 #[.pointer (some ⟨p,2,none⟩), .int .i64 x] w fun e w'=>e=.returned (.tuple #[.int .i64 (wait.getD i (0,0)).2, .bool true])∧kB gx w p rv wv w' regs (wait.eraseIdx i):=by
 have HW:=Hz h;have hka:=(Kz w).alloc (.cells #[.int .i64 x] 2);have h1:=h.ae hka (fun _ _ h=>h);obtain ⟨g,o,cap,cur,rfl,hb,hnc,hcm,hoc,hx⟩:=h1.hw.laid (by omega);obtain ⟨_,_,e,hrd,_,_⟩:=h1.hw.rd;cases e;have H:=Hz h1;have c1:=H.out.hp.cell 3;simp only [Lz,Ls] at c1;have HR:=Hz hrd;have HE:=Hz (show jE x wait=(i:Int) by unfold jE;rw [hf,if_pos (by omega)]);have hbx:(w.alloc (.cells #[.int .i64 x] 2)).cell? ⟨w.heap.size,0,none⟩=some (.int .i64 x):=by simp
 have HBX:=Hz hbx;have HM:=Hz hm;have hcm':cap≤9223372036854775807:=by simpa [maxLen] using hcm
 have HX:=Hz hx;have HB:=Hz hb;have hlo:i+1+m≤wait.length:=by omega
 have h2':i+1+m≤1000000:=by omega
 have hlt:i<wait.length:=by omega
 clear h hrd hf hbx hm h1 hka hx hb hcm;go_enter Try.func136,Try.ntmps136;go_wp2_with fail;refine (ju (some ⟨g,o,none⟩) cap w.heap.size x wait _ HR.out HBX.out (by omega) (by simp)).mono ?_;rintro e w1 ⟨rfl,hk⟩;rw [HE.out];have HK1:=Hz (((aa.refl (aU p rv (.slice (some ⟨g,o,none⟩) wait.length cap)) w).alloc (.cells #[.int .i64 x] 2)).trans (hk.mono fun _ _ h=>h.elim));have H1:=Hz (H.out.ae hk (fun _ _ h=>h));have HB1:=Hz (hk.ai HB.out (fun h=>h));obtain ⟨g',o',e',_,d0,d1⟩:=((HR.out.ae hk (fun _ _ _ h=>h))).dM i (by omega);cases e';clear hk c1;have c1:=H1.out.hp.cell 3;simp only [Lz,Ls] at c1;have ht:(i:Int)<((wait.length:Nat):Int):=by omega
 generalize hv:wait.getD i (0,0)=v at *;have HV:=Hz hv;clear hv;go_wp2_with fail;rw [HM.out];refine (pQ g o cap i m wait cur _ HB1.out HM.out (by omega) hcm' hoc HX.out).mono ?_;rintro e w2 ⟨rfl,hs2,hk2⟩;have hpg:p≠g:=fun e=>by subst e;exact (HB1.out.ne H1.out.hp (by decide)) rfl
 have HP2:=Hz (hk2.ai H1.out.hp hpg);have HR2:=Hz (H1.out.hr.ae hk2 (by rintro b hb rfl;exact H1.out.ap b ⟨hb,rfl⟩));have HK2:Hid (aa (aU p rv (.slice (some ⟨g,o,none⟩) wait.length cap)) w w2):=HK1.out.trans (hk2.mono (by rintro k _ rfl;exact .inr (.inr rfl)));have HS2:=Hz hs2;have e1:=HP2.out.cell 3;have f1:=HP2.out.free 3;simp only [Lz,Ls] at e1;clear hs2 hk2 c1 d0 d1;go_wp2_with fail;go_ret2;have hlen:(wait.eraseIdx i).length=i+m:=by rw [List.length_eraseIdx_of_lt hlt,HM.out];omega
 refine ⟨by rw [HV.out];rfl,rv, .slice (some ⟨g,o,none⟩) (i+m) cap,⟨by simpa using HP2.out.aF 3 _,HR2.out.ae ((aa.refl (·=p) w2).setCell (p:=⟨p,3,none⟩) (.inl rfl) _) ?_,?_,?_⟩,HK2.out.setCell (p:=⟨p,3,none⟩) (.inl (.inl rfl)) _,?_⟩
 ·rintro b hb rfl;exact HW.out.pr hb
 ·rw [hlen];exact HS2.out.ae ((aa.refl (·=p) w2).setCell (p:=⟨p,3,none⟩) (.inl rfl) _) (by rintro b hb rfl;simp [ag,Value.ownBlock] at hb;exact hpg hb.symm)
 ·rintro k ⟨a1,a2⟩;exact HW.out.ap k ⟨a1,a2⟩
 ·rintro k (a | a | a)
  ·exact .inl (.inl a)
  ·exact .inl (.inr (.inl a))
  ·exact .inl (.inr (.inr a))
theorem sL (p:Nat) (rv wv:Value) (regs wait:List (Int × Int)) (x:Int) (w:World) (h:a8 gx w p rv wv regs wait) (h2:wait.length≤1000000) :
  Calls Try.prog 155 #[.pointer (some ⟨p,2,none⟩), .int .i64 x] w fun e w'=>pS w e w' (fU x wait):=by
 obtain ⟨i0,hi,hz0,hz1,hz2⟩:=info_parts nA;have Hi:=Hz hi;have Hz0:=Hz hz0;have Hz1:=Hz hz1;have Hz2:=Hz hz2;clear hi hz0 hz1 hz2;obtain ⟨wo,wc,rfl,hrd,_,_⟩:=h.hw.rd;have c1:=h.hp.cell 3;simp only [Lz,Ls] at c1;have H:=Hz h;have HR:=Hz hrd;clear h hrd;go_enter Try.func155,Try.ntmps155;go_wp2_with fail;go_loopw [5,13] (fun v i wr=>∃ k:Nat,k≤wait.length∧i=.int .i64 k∧Sl wr 2 1 v (fU x (wait.take k)).length ((fU x (wait.take k)).map (Value.int .i64))∧aa (fun _=>False) w wr∧∀ k,ag v k→w.heap.size≤k) (fun _ i _=>wait.length-(intOf i).toNat)
 case atStart=>exact ⟨0,Nat.zero_le _,rfl,by simpa [fU] using Sl.nil w 2 1,aa.refl _ _,by intro k hk;simp [ag,Value.ownBlock] at hk⟩
 case round=>
  obtain ⟨k,hk,rfl,hs,hkk,how⟩:=hrel;have HK:=Hz hkk;have HS:=Hz hs;have HO:=Hz how;clear hkk hs how;have hal:(fU x (wait.take k)).length≤k:=Nat.le_trans (oF _ _) (List.length_take_le _ _);by_cases hlt:k<wait.length
  ·obtain ⟨g,o,rfl,_,d0,d1⟩:=((HR.out.ae HK.out (fun _ _ _ h=>h))).dM k hlt;have HST:=Hz (pR (x:=x) hlt);generalize wait.getD k (0,0)=v at *;cases hv:(v.1 == x)
   ·go_wp2_with fail;go_roundw
    case rel=>exact ⟨k+1,by omega,by go_num,by rw [HST.out,hv];simpa using HS.out.ae ((Kz wr).alloc _) (fun _ _ h=>h),HK.out.alloc _,HO.out⟩
    case measure=>simp [intOf];omega
   ·go_wp2_with (at_builtin;refine bD rfl (.tmp 21) (.tmp 24) 22 rfl 2 i0 (.int .i64 0) 1 8 Try.underlying22 Hi.out Hz0.out Hz1.out Hz2.out rfl (by decide) _ (fU x (wait.take k)).length ((fU x (wait.take k)).map (Value.int .i64)) rfl ?ha ⟨wr.heap.size+1,0,none⟩ 1 1 [.int .i64 v.2] rfl rfl ?hb ?hc ?hd ?he ?hf)
    case ha=>exact HS.out.ae (((Kz wr).alloc _).alloc _) (fun _ _ h=>h)
    case hb=>
     have:=bq (wr.alloc (Obj.cells #[.int .i64 v.1, .int .i64 v.2] 170)) 2 #[.int .i64 v.2];simpa using this
    case hc=>intro u hu;simp at hu;subst hu;rfl
    case hd=>unfold maxLen;omega
    case he=>omega
    case hf=>
     intro v2 w2 hs2 hk2 ho2;have HK2:=Hz (((HK.out.alloc (Obj.cells #[.int .i64 v.1, .int .i64 v.2] 170)).alloc (Obj.cells #[.int .i64 v.2] 2)).then hk2 (fun j hj=>.inr (HO.out j hj)));have HO2:Hid (∀ j,ag v2 j→w.heap.size≤j):=fun j hj=>by
      rcases ho2 j hj with h | h
      ·exact HO.out j h
      ·have:=HK.out.size;first | omega | (simp at h;omega)
     have HS2:=Hz hs2;clear hs2 hk2 ho2;go_wp2_with fail;go_roundw
     case rel=>exact ⟨k+1,by omega,by go_num,by rw [HST.out,if_pos hv];simpa using HS2.out,HK2.out,HO2.out⟩
     case measure=>simp [intOf];omega
  ·obtain rfl:k=wait.length:=by omega
   go_wp2_with fail;go_ret;have hs:=HS.out;rw [List.take_length] at hs;obtain ⟨ao,cap,rfl,_,_,_⟩:=hs.rd;exact ⟨ao,cap,rfl,hs,HK.out,HO.out⟩
end
section
open Go.RowKit
variable {gx:GX}
theorem re (p:Nat) (rv wv:Value) (regs wait:List (Int × Int)) (w:World) (h:a8 gx w p rv wv regs wait) (h1:regs.length≤1000000) (h2:wait.length≤1000000) :
  Calls Try.prog 138 #[.pointer (some ⟨p,2,none⟩)] w fun e w'=>ra w e w' regs wait:=by
 obtain ⟨ro,rc,rfl,_,_,_⟩:=h.hr.rd;obtain ⟨wo,wc,rfl,_,_,_⟩:=h.hw.rd;have c0:=h.hp.cell 2;have c1:=h.hp.cell 3;simp only [Lz,Ls] at c0 c1;have H:=Hz h;clear h;go_enter Try.func138,Try.ntmps138;go_wp2_with fail;refine cv [(0,0),(1,0),(2,0),(5,0),(6,0),(7,0),(3,0),(8,0),(4,1),(9,1),(10,0),(11,1),(12,0)] (fun w'=>w'.cell? ⟨p,2,none⟩=some (.slice ro regs.length rc)∧w'.cell? ⟨p,3,none⟩=some (.slice wo wait.length wc)) (by kernel_rfl) (by kernel_rfl) ⟨c0,c1⟩ ?_
 iterate 8 (refine bx rfl rfl _ (fun w' hG=>by obtain ⟨g0,g1⟩:=hG;go_simp;exact bH.mk _ _) (fun K hK=>?_);go_simp;refine hK _ ?_;clear hK K)
 refine bL rfl rfl (fun K hK=>?_);unfold aM;go_simp;refine (m0 _ regs _ (H.out.hr.ae ((Kz w).drew) (fun _ _ h=>h)) h1).mono ?_;rintro e w1 ⟨ao,ac,rfl,hs,hk,ho⟩;have HK1:=Hz (((Kz w).drew).trans hk);have H1:=Hz (H.out.ae HK1.out (fun _ _ h=>h));have HS:=Hz hs;have HO:=Hz ho;have HSL:Hid (∀ k,ag (.slice ao regs.length ac) k→k<w1.heap.size):=fun k hk=>(HS.out.own hk).1;clear hs hk ho;refine hK _ _ ⟨H1.out.hp.cell 2,H1.out.hp.cell 3⟩ ?_;clear hK K;refine bL rfl rfl (fun K hK=>?_);unfold aM;go_simp;refine (m0 _ wait _ H1.out.hw h2).mono ?_;rintro e w2 ⟨bo,bc,rfl,hs,hk,ho⟩;have HK2:=Hz (HK1.out.trans hk);have H2:=Hz (H1.out.ae hk (fun _ _ h=>h));have HS1:=Hz (HS.out.ae hk (fun _ _ h=>h));have HS2:=Hz hs;have HO2:=Hz ho;have hsz:=HK1.out.size;clear hs hk ho HS;refine hK _ _ ⟨H2.out.hp.cell 2,H2.out.hp.cell 3⟩ ?_;clear hK K
 iterate 1 (refine bx rfl rfl _ (fun w' hG=>by obtain ⟨g0,g1⟩:=hG;go_simp;exact bH.mk _ _) (fun K hK=>?_);go_simp;refine hK _ ?_;clear hK K)
 refine bL rfl rfl (fun K hK=>?_);unfold aM;go_simp;refine hK _ _ ?_ ?_
 ·have:=H2.out.hp.alloc (Obj.cells #[Value.slice ao regs.length ac,Value.slice bo wait.length bc] 129);exact ⟨this.cell 2,this.cell 3⟩
 clear hK K
 iterate 1 (refine bx rfl rfl _ (fun w' hG=>by obtain ⟨g0,g1⟩:=hG;go_simp;exact bH.mk _ _) (fun K hK=>?_);go_simp;refine hK _ ?_;clear hK K)
 refine dk ?_;go_wp2_with fail;go_ret;refine ⟨w2.heap.size, .slice ao regs.length ac, .slice bo wait.length bc,rfl,⟨.newAt _ rfl rfl,HS1.out.ae ((Kz w2).alloc _) (fun _ _ h=>h),HS2.out.ae ((Kz w2).alloc _) (fun _ _ h=>h),?_⟩,HK2.out.alloc _,?_⟩
 ·rintro k ⟨a1,a2⟩;have:=HO2.out k a2;have:=HSL.out k a1;omega
 ·rintro k (a | a | a)
  ·subst a;exact HK2.out.size
  ·exact HO.out k a
  ·exact Nat.le_trans hsz (HO2.out k a)
end
section
variable {τ:Type}
def wakeM (alive:τ→Int→Bool) (ae:τ→Int→τ × Int):τ→List (Int × Int)→τ × List (Int × Int) × Bool
 | t,[]=>(t,[],false)
 | t,e :: l=>
  if alive t e.1 && !alive t e.2 then
   let r:=wakeM alive ae (ae t e.2).1 l
   (r.1,(e.1,(ae t e.2).2) :: r.2.1,true)
  else
   let r:=wakeM alive ae t l
   (r.1,e :: r.2.1,r.2.2)
abbrev It:=(Int × Int) × Bool × Bool
def scanM (alive:τ→Int→Bool) (ae:τ→List (Int × Int)→Int→τ × List (Int × Int) × Int):τ→List (Int × Int)→List It→τ × List (Int × Int) × List It × Bool
 | t,q,[]=>(t,q,[],false)
 | t,q,i :: l=>
  if (i.2.1 && !i.2.2) && alive t i.1.1 then
   let r:=scanM alive ae (ae t q i.1.2).1 ((ae t q i.1.2).2.1 ++ [(i.1.1,(ae t q i.1.2).2.2)]) l
   (r.1,r.2.1,(i.1,i.2.1,true) :: r.2.2.1,true)
  else
   let r:=scanM alive ae t q l
   (r.1,r.2.1,i :: r.2.2.1,r.2.2.2)
def roundsM (alive:τ→Int→Bool) (ae:τ→List (Int × Int)→Int→τ × List (Int × Int) × Int):Nat→τ→List (Int × Int)→List It→τ × List (Int × Int) × List It
 | 0,t,q,l=>(t,q,l)
 | n+1,t,q,l=>
  let r:=scanM alive ae t q l
  if r.2.2.2 then roundsM alive ae n r.1 r.2.1 r.2.2.1 else (r.1,r.2.1,r.2.2.1)
def bM (l:List It):Nat:=(l.filter fun i=>!i.2.2).length
theorem eX (i:It) (l:List It):bM (i :: l)=(if i.2.2 then 0 else 1)+bM l:=by
 unfold bM;cases h:i.2.2 <;> simp [List.filter_cons,h];omega
theorem gS (a b:List It):bM (a ++ b)=bM a+bM b:=by unfold bM;simp
theorem fy (alive:τ→Int→Bool) (ae):∀ (l:List It) (t:τ) (q:List (Int × Int)),(scanM alive ae t q l).2.2.1.map (fun i=>(i.1,i.2.1))=l.map (fun i=>(i.1,i.2.1))
 | [],_,_=>rfl
 | i :: l,t,q=>by
  simp only [scanM];split
  ·simp only [List.map_cons];rw [fy alive ae l]
  ·simp only [List.map_cons];rw [fy alive ae l]
theorem jG (alive:τ→Int→Bool) (ae):∀ (l:List It) (t:τ) (q:List (Int × Int)),bM (scanM alive ae t q l).2.2.1≤bM l∧((scanM alive ae t q l).2.2.2=true→bM (scanM alive ae t q l).2.2.1<bM l)
 | [],_,_=>by simp [scanM]
 | i :: l,t,q=>by
  simp only [scanM];split
  ·rename_i h;have ih:=jG alive ae l (ae t q i.1.2).1 ((ae t q i.1.2).2.1 ++ [(i.1.1,(ae t q i.1.2).2.2)]);simp only [Bool.and_eq_true,Bool.not_eq_true'] at h;simp only [eX,h.1.2];simp;omega
  ·have ih:=jG alive ae l t q;simp only [eX];refine ⟨by omega,fun h=>?_⟩;have:=ih.2 h;omega
def bz (alive:τ→Int→Bool) (now:τ→Int→Int) (t:τ) (l:List It):List (Int × Int):=(l.filter fun i=>!i.2.1 && alive t i.1.1).map fun i=>(now t i.1.1,now t i.1.2)
def bA (alive:τ→Int→Bool) (now:τ→Int→Int) (t:τ) (l:List (Int × Int)):List (Int × Int):=(l.filter fun e=>alive t e.1).map fun e=>(now t e.1,now t e.2)
def bC (alive:τ→Int→Bool) (t:τ) (regs:List (Int × Int)):List It:=regs.map fun e=>(e,!alive t e.2,false)
def ev (alive:τ→Int→Bool) (ae:τ→List (Int × Int)→Int→τ × List (Int × Int) × Int) (t:τ) (regs wait:List (Int × Int)):τ × List (Int × Int) × List It:=
 roundsM alive ae (regs.length+1) t wait (bC alive t regs)
end
section
open Go.RowKit
def eM (F:Nat→Prop) (p:Nat) (rv wv:Value):Prop:=∀ k,¬ (F k∧aU p rv wv k)
structure qR (P:Program) (p:Nat) (τ:Type) where
 J:World→τ→(Nat→Prop)→Prop
 D:τ→Int→Prop
 DK:τ→Int→Prop
 alive:τ→Int→Bool
 ae:τ→List (Int × Int)→Int→τ × List (Int × Int) × Int
 now:τ→Int→Int
 fa:FuncId
 fk:FuncId
 fn:FuncId
 a1:Array Value
 a2:Array Value
 k1:Array Value
 k2:Array Value
 n1:Array Value
 n2:Array Value
 ea:∀ (args:Array Value) (w:World),(callFunc fa args).run P w=.ok (.enter fa args) w
 ek:∀ (args:Array Value) (w:World),(callFunc fk args).run P w=.ok (.enter fk args) w
 en:∀ (args:Array Value) (w:World),(callFunc fn args).run P w=.ok (.enter fn args) w
 J_keep:∀ {w w' t F S},J w t F→aa S w w'→(∀ k,F k→¬ S k)→J w' t F
 J_lt:∀ {w t F k},J w t F→F k→k<w.heap.size
 alive_c:∀ (w t F x),J w t F→D t x→Calls P fa (a1.push (.int .i64 x) ++ a2) w fun e w'=>e=.returned (.bool (alive t x))∧aa (fun _=>False) w w'
 now_c:∀ (w t F x),J w t F→D t x→Calls P fn (n1.push (.int .i64 x) ++ n2) w fun e w'=>e=.returned (.int .i64 (now t x))∧aa (fun _=>False) w w'
 keep_c:∀ (w t F rv wv regs wait x),J w t F→ct w p rv wv regs wait→eM F p rv wv→DK t x→(∀ e ∈ wait,D t e.1∧D t e.2)→wait.length≤1000000 →
  Calls P fk (k1.push (.int .i64 x) ++ k2) w fun e w'=>e=.returned (.int .i64 (ae t wait x).2.2)∧∃ F',J w' (ae t wait x).1 F'∧ct w' p rv wv regs (ae t wait x).2.1∧eM F' p rv wv ∧
   aa (fun k=>F k∨aU p rv wv k) w w'∧∀ k,F' k→F k∨w.heap.size≤k
 DK_D:∀ {t x},DK t x→D t x
 DK_keep:∀ {t wait x y},DK t x→DK t y→DK (ae t wait x).1 y
 D_keep:∀ {t wait x y},DK t x→D t y→D (ae t wait x).1 y
 D_new:∀ {t wait x},DK t x→D (ae t wait x).1 (ae t wait x).2.2
 D_wait:∀ {t wait x},DK t x→(∀ e ∈ wait,D t e.1∧D t e.2)→∀ e ∈ (ae t wait x).2.1,D (ae t wait x).1 e.1∧D (ae t wait x).1 e.2
 keep_len:∀ {t wait x},(ae t wait x).2.1.length=wait.length
variable {τ:Type}
end
section
open Go.RowKit
variable {gx:GX}
structure cM (gx:GX) (P:Program) (p:Nat) (τ:Type) where
 J:World→τ→(Nat→Prop)→Prop
 D:τ→Int→Prop
 DK:τ→Int→Prop
 Q:Int × Int→Prop
 alive:τ→Int→Bool
 ae:τ→List (Int × Int)→Int→τ × List (Int × Int) × Int
 now:τ→Int→Int
 fa:FuncId
 fk:FuncId
 fn:FuncId
 a1:Array Value
 a2:Array Value
 k1:Array Value
 k2:Array Value
 n1:Array Value
 n2:Array Value
 ea:∀ (args:Array Value) (w:World),(callFunc fa args).run P w=.ok (.enter fa args) w
 ek:∀ (args:Array Value) (w:World),(callFunc fk args).run P w=.ok (.enter fk args) w
 en:∀ (args:Array Value) (w:World),(callFunc fn args).run P w=.ok (.enter fn args) w
 J_keep:∀ {w w' t F S},J w t F→aa S w w'→(∀ k,F k→¬ S k)→J w' t F
 J_lt:∀ {w t F k},J w t F→F k→k<w.heap.size
 alive_c:∀ (w t F x),J w t F→D t x→Calls P fa (a1.push (.int .i64 x) ++ a2) w fun e w'=>e=.returned (.bool (alive t x))∧aa (fun _=>False) w w'
 now_c:∀ (w t F x),J w t F→D t x→Calls P fn (n1.push (.int .i64 x) ++ n2) w fun e w'=>e=.returned (.int .i64 (now t x))∧aa (fun _=>False) w w'
 keep_c:∀ (w t F rv wv regs wait x),J w t F→a8 gx w p rv wv regs wait→eM F p rv wv→DK t x→(∀ e ∈ wait,(D t e.1∧D t e.2)∧Q e)→wait.length≤1000000 →
  Calls P fk (k1.push (.int .i64 x) ++ k2) w fun e w'=>e=.returned (.int .i64 (ae t wait x).2.2)∧∃ F',J w' (ae t wait x).1 F'∧a8 gx w' p rv wv regs (ae t wait x).2.1∧eM F' p rv wv ∧
   aa (fun k=>F k∨aU p rv wv k) w w'∧∀ k,F' k→F k∨w.heap.size≤k
 DK_D:∀ {t x},DK t x→D t x
 DK_keep:∀ {t wait x y},DK t x→DK t y→DK (ae t wait x).1 y
 D_keep:∀ {t wait x y},DK t x→D t y→D (ae t wait x).1 y
 D_new:∀ {t wait x},DK t x→D (ae t wait x).1 (ae t wait x).2.2
 D_wait:∀ {t wait x},DK t x→(∀ e ∈ wait,D t e.1∧D t e.2)→∀ e ∈ (ae t wait x).2.1,D (ae t wait x).1 e.1∧D (ae t wait x).1 e.2
 Q_new:∀ {t wait e},DK t e.2→Q e→Q (e.1,(ae t wait e.2).2.2)
 Q_wait:∀ {t wait x},(∀ e ∈ wait,Q e)→∀ e ∈ (ae t wait x).2.1,Q e
 keep_len:∀ {t wait x},(ae t wait x).2.1.length=wait.length
def cM.val {P:Program} {p:Nat} {τ:Type} (L:cM gx P p τ):Value:=
 .agg #[.func (.func L.fa) L.a1 L.a2, .func (.func L.fk) L.k1 L.k2, .func (.func L.fn) L.n1 L.n2]
end
section
def ck (base:Int) (n:Nat) (at_:Int):Int:=if base≤at_∧(at_-base)/8<n then (at_-base)/8 else -1
def gB (base:Int) (l:List Bool) (at_:Int):List Bool:=if 0≤ck base l.length at_ then l.set (ck base l.length at_).toNat true else l
theorem lJ (base:Int) (l:List Bool) (at_:Int):(gB base l at_).length=l.length:=by unfold gB;split <;> simp
theorem oK {base:Int} {n:Nat} {at_:Int} (h:0≤ck base n at_):(ck base n at_).toNat<n:=by
 unfold ck at *;split at h
 ·rename_i c;rw [if_pos c];omega
 ·omega
def eN (words:Int):Nat:=((max words 0+7)/8).toNat
end
section
open Go.RowKit
structure cD (w:World) (p q:Nat) (base:Int) (l:List Bool):Prop where
 hp:ah w p [.int .i64 base, .slice (some ⟨q,0,none⟩) l.length l.length] 140
 hq:ah w q (l.map Value.bool) 4
theorem cD.ne {w:World} {p q:Nat} {base:Int} {l:List Bool} (h:cD w p q base l):p≠q:=h.hp.ne h.hq (by decide)
theorem cD.ae {w w':World} {p q:Nat} {base:Int} {l:List Bool} {S:Nat→Prop} (h:cD w p q base l) (k:aa S w w') (h1:¬ S p) (h2:¬ S q):cD w' p q base l:=
 ⟨k.ai h.hp h1,k.ai h.hq h2⟩
theorem r8 (p q:Nat) (base at_:Int) (l:List Bool) (w:World) (h:cD w p q base l)
  (hb:0≤base) (hb2:base≤1000000) (ha:-9223372036854775808≤at_) (ha2:at_≤9223372036854775807) (hl:l.length≤1000000) :
  Calls Try.prog 124 #[.pointer (some ⟨p,0,none⟩), .int .i64 at_] w fun e w'=>e=.returned (.int .i64 (ck base l.length at_))∧w=w':=by
 have h0:w.cell? ⟨p,0,none⟩=some (.int .i64 base):=h.hp.cell 0;have h1:w.cell? ⟨p,1,none⟩=some (.slice (some ⟨q,0,none⟩) l.length l.length):=h.hp.cell 1;clear h;generalize hn:l.length=n at *;clear hn;by_cases c1:base≤at_
 ·by_cases c2:(at_-base)/8<n
  ·have hv:ck base n at_=(at_-base)/8:=by simp [ck,c1,c2]
   rw [hv];clear hv;go_enter Try.func124,Try.ntmps124
   go_wp2
   go_ret;exact ⟨rfl,rfl⟩
  ·have hv:ck base n at_=-1:=by simp [ck,c2]
   rw [hv];clear hv;go_enter Try.func124,Try.ntmps124
   go_wp2
   go_ret;exact ⟨rfl,rfl⟩
 ·have hv:ck base n at_=-1:=by simp [ck,c1]
  rw [hv];clear hv;go_enter Try.func124,Try.ntmps124
  go_wp2
  go_ret;exact ⟨rfl,rfl⟩
theorem r9 (p q:Nat) (base at_:Int) (l:List Bool) (w:World) (h:cD w p q base l)
  (hb:0≤base) (hb2:base≤1000000) (ha:-9223372036854775808≤at_) (ha2:at_≤9223372036854775807) (hl:l.length≤1000000) :
  Calls Try.prog 90 #[.pointer (some ⟨p,0,none⟩), .int .i64 at_] w fun e w'=>e=.returned (.bool (decide (0≤ck base l.length at_))) ∧
   cD w' p q base (gB base l at_)∧aa (·=q) w w':=by
 have H:=r8 p q base at_ l w h hb hb2 ha ha2 hl;have h1:w.cell? ⟨p,1,none⟩=some (.slice (some ⟨q,0,none⟩) l.length l.length):=h.hp.cell 1;have HM:Hid (gB base l at_=if 0≤ck base l.length at_ then l.set (ck base l.length at_).toNat true else l):=rfl;have HL:0≤ck base l.length at_→(ck base l.length at_).toNat<l.length:=oK;have hup:ck base l.length at_≤1000000:=by unfold ck;split <;> omega
 generalize gB base l at_=l' at *;generalize ck base l.length at_=k at *;have HH:=Hz H;clear H;have HC:=Hz h;clear h;by_cases c:0≤k
 ·obtain ⟨k,rfl⟩:=Int.eq_ofNat_of_zero_le c;have hk:=HL c;simp only [Int.toNat_natCast] at hk HM;have hq:w.cell? ⟨q,k,none⟩=some (.bool (l.getD k false)):=by rw [HC.out.hq.cell];simp [List.getD,hk]
  have hf:w.frozen? ⟨q,k,none⟩=false:=HC.out.hq.free _;go_enter Try.func90,Try.ntmps90;go_wp2_with (go_at_call 124;refine HH.out.mono ?_;rintro e w' ⟨rfl,rfl⟩);go_ret;have hm:=HM.out;simp at hm;subst hm;refine ⟨rfl,⟨?_,?_⟩,(aa.refl (·=q) w).setCell (p:=⟨q,k,none⟩) (.inl rfl) _⟩
  ·simpa using HC.out.hp.ez (a:=⟨q,k,none⟩) HC.out.ne (.bool true)
  ·simpa [List.map_set] using HC.out.hq.aF k (.bool true)
 ·have hd:decide (0≤k)=false:=by simpa using c
  go_enter Try.func90,Try.ntmps90;go_wp2_with (go_at_call 124;refine HH.out.mono ?_;rintro e w' ⟨rfl,rfl⟩);go_ret;have hm:=HM.out;rw [if_neg (by omega)] at hm;subst hm;exact ⟨r6 (by show Value.bool false=_;rw [hd]),HC.out,aa.refl _ _⟩
theorem eD:(Try.prog.info? 4).map (fun i=>(i.zero,i.size,i.bytes))=some (some (.bool false),1,1):=by kernel_rfl
theorem sM (base words:Int) (w:World) (hw:words≤1000000) (hw2:-9223372036854775808≤words) :
  Calls Try.prog 88 #[.int .i64 base, .int .i64 words] w fun e w'=>e=.returned (.pointer (some ⟨w.heap.size+1,0,none⟩)) ∧
   cD w' (w.heap.size+1) w.heap.size base (List.replicate (eN words) false)∧w'.heap.size=w.heap.size+2∧aa (fun _=>False) w w':=by
 obtain ⟨i0,hi,hz0,hz1,hz2⟩:=info_parts eD;have HN:Hid (eN words=((max words 0+7)/8).toNat):=rfl;have hmk:=fun (wx:World) (n:Nat) (h1:n≤9223372036854775807) (h2:n≤281474976710656)=>cB (P:=Try.prog) wx 76 4 i0 (.bool false) Try.underlying76 hi hz0 rfl hz1 n (by rw [hz2];omega) h1;have Hi:=Hz hi;clear hi hz0 hz1 hz2;have HM:=Hz hmk;clear hmk;by_cases c:0≤words
 ·have hm:(eN words:Int)=(words+8-1)/8:=by rw [HN.out];omega
  have hk:=fun (wx:World)=>HM.out wx (eN words) (by omega) (by omega);have h2:max words 0=words:=by omega
  rw [hm] at hk;have Hm:=Hz hm;clear hm;generalize hn:eN words=n at *;clear hn;go_enter Try.func88,Try.ntmps88
  go_wp2
  go_ret;exact ⟨rfl,⟨.newAt _ (by simp) (by simp),(ah.newAt _ rfl (by simp)).alloc _⟩,by simp,((aa.refl _ _).alloc _).alloc _⟩
 ·have hm:eN words=0:=by rw [HN.out];omega
  have hk:∀ wx:World,(Instr.makeSlice 76 (.int .i64 0) (.int .i64 0)).run Try.prog wx=.ok (.slice (some ⟨wx.heap.size,0,none⟩) 0 0) (wx.alloc (.cells #[] 4)):=fun wx=>by simpa using HM.out wx 0 (by omega) (by omega)
  have h2:max words 0=0:=by omega
  rw [hm];have Hm:=Hz hm;clear hm;go_enter Try.func88,Try.ntmps88
  go_wp2
  go_ret;exact ⟨rfl,⟨.newAt _ (by simp) (by simp),(ah.newAt _ rfl (by simp)).alloc _⟩,by simp,((aa.refl _ _).alloc _).alloc _⟩
end
section
open Go.RowKit
variable {τ:Type}
def cntF (w:World) (b:Nat):Nat:=match w.heap[b]? with
 | some (.cells c _ _)=>(c.toList.filter fun v=>match v with | .bool false=>true | _=>false).length
 | _=>0
theorem lK {w:World} {b:Nat} {l:List It} {T:TypeId} (h:ah w b (l.map fun i=>.bool i.2.2) T):cntF w b=bM l:=by
 unfold ah at h;unfold cntF bM;rw [h];simp only [List.filter_map,List.length_map];congr 2
 funext i
 simp only [Function.comp];cases i.2.2 <;> rfl
def qR.cells {P:Program} {p:Nat} (L:qR P p τ):List Value:=[.func (.func L.fa) L.a1 L.a2, .func (.func L.fk) L.k1 L.k2, .func (.func L.fn) L.n1 L.n2]
structure dO {P:Program} {p:Nat} (L:qR P p τ) (w:World) (F:Nat→Prop) (rv wv:Value) (b0 b1 b2:Nat) (items:List It) (q:List (Int × Int)) (t':τ) (F':Nat→Prop) (wv':Value) (wr:World):Prop where
 hJ:L.J wr t' F'
 hS:ct wr p rv wv' (items.map (·.1)) q
 hA:eM F' p rv wv'
 hK:aa (fun b=>F b∨aU p rv wv b) w wr
 hF:∀ b,F' b→F b∨w.heap.size≤b
 hO:∀ b,ag wv' b→ag wv b∨w.heap.size≤b
 h0:ah wr b0 L.cells 178
 h1:ah wr b1 (items.map fun i=>.bool i.2.1) 4
 h2:ah wr b2 (items.map fun i=>.bool i.2.2) 4
 n0:¬ F' b0
 n1:¬ F' b1
 n2:¬ F' b2
 g0:w.heap.size≤b0
 g1:w.heap.size≤b1
 g2:w.heap.size≤b2
 b12:b1≠b2
 hq:∀ e ∈ q,L.D t' e.1∧L.D t' e.2
 hr:∀ i ∈ items,L.D t' i.1.1∧L.DK t' i.1.2
theorem ct.j3 {w:World} {p b:Nat} {rv wv:Value} {regs wait:List (Int × Int)} {c:List Value} {T:TypeId} (h:ct w p rv wv regs wait) (hb:ah w b c T) (h1:T≠129) (h2:T≠170):¬ aU p rv wv b:=by
 rintro (rfl | h' | h')
 ·exact hb.ne h.hp h1 rfl
 ·obtain ⟨_,cur,hc⟩:=h.hr.own h';exact hb.ne hc h2 rfl
 ·obtain ⟨_,cur,hc⟩:=h.hw.own h';exact hb.ne hc h2 rfl
section
variable {P:Program} {p:Nat} {L:qR P p τ} {w:World} {F:Nat→Prop} {rv wv:Value} {b0 b1 b2:Nat} {items:List It} {q:List (Int × Int)} {t':τ} {F':Nat→Prop} {wv':Value} {wr:World}
theorem dO.ae {w2:World} (h:dO L w F rv wv b0 b1 b2 items q t' F' wv' wr) (k:aa (fun _=>False) wr w2):dO L w F rv wv b0 b1 b2 items q t' F' wv' w2:=
 ⟨L.J_keep h.hJ k (fun _ _ h=>h),h.hS.ae k (fun _ _ h=>h),h.hA,h.hK.trans (k.mono fun _ _ h=>h.elim),h.hF,h.hO,k.ai h.h0 (fun h=>h),k.ai h.h1 (fun h=>h),k.ai h.h2 (fun h=>h),h.n0,h.n1,h.n2,h.g0,h.g1,h.g2,h.b12,h.hq,h.hr⟩
end
end
section
open Go.RowKit
variable {gx:GX}
variable {τ:Type}
def cM.cells {P:Program} {p:Nat} (L:cM gx P p τ):List Value:=[.func (.func L.fa) L.a1 L.a2, .func (.func L.fk) L.k1 L.k2, .func (.func L.fn) L.n1 L.n2]
structure dP {P:Program} {p:Nat} (L:cM gx P p τ) (w:World) (F:Nat→Prop) (rv wv:Value) (b0 b1 b2:Nat) (items:List It) (q:List (Int × Int)) (t':τ) (F':Nat→Prop) (wv':Value) (wr:World):Prop where
 hJ:L.J wr t' F'
 hS:a8 gx wr p rv wv' (items.map (·.1)) q
 hA:eM F' p rv wv'
 hK:aa (fun b=>F b∨aU p rv wv b) w wr
 hF:∀ b,F' b→F b∨w.heap.size≤b
 hO:∀ b,ag wv' b→ag wv b∨w.heap.size≤b
 h0:ah wr b0 L.cells 178
 h1:ah wr b1 (items.map fun i=>.bool i.2.1) 4
 h2:ah wr b2 (items.map fun i=>.bool i.2.2) 4
 n0:¬ F' b0
 n1:¬ F' b1
 n2:¬ F' b2
 g0:w.heap.size≤b0
 g1:w.heap.size≤b1
 g2:w.heap.size≤b2
 b12:b1≠b2
 hq:∀ e ∈ q,(L.D t' e.1∧L.D t' e.2)∧L.Q e
 hr:∀ i ∈ items,(L.D t' i.1.1∧L.DK t' i.1.2)∧L.Q i.1
theorem a8.j3 {w:World} {p b:Nat} {rv wv:Value} {regs wait:List (Int × Int)} {c:List Value} {T:TypeId} (h:a8 gx w p rv wv regs wait) (hb:ah w b c T) (h1:T≠146) (h2:T≠170):¬ aU p rv wv b:=by
 rintro (rfl | h' | h')
 ·exact hb.ne h.hp h1 rfl
 ·obtain ⟨_,cur,hc⟩:=h.hr.own h';exact hb.ne hc h2 rfl
 ·obtain ⟨_,cur,hc⟩:=h.hw.own h';exact hb.ne hc h2 rfl
section
variable {P:Program} {p:Nat} {L:cM gx P p τ} {w:World} {F:Nat→Prop} {rv wv:Value} {b0 b1 b2:Nat} {items:List It} {q:List (Int × Int)} {t':τ} {F':Nat→Prop} {wv':Value} {wr:World}
theorem dP.ae {w2:World} (h:dP L w F rv wv b0 b1 b2 items q t' F' wv' wr) (k:aa (fun _=>False) wr w2):dP L w F rv wv b0 b1 b2 items q t' F' wv' w2:=
 ⟨L.J_keep h.hJ k (fun _ _ h=>h),h.hS.ae k (fun _ _ h=>h),h.hA,h.hK.trans (k.mono fun _ _ h=>h.elim),h.hF,h.hO,k.ai h.h0 (fun h=>h),k.ai h.h1 (fun h=>h),k.ai h.h2 (fun h=>h),h.n0,h.n1,h.n2,h.g0,h.g1,h.g2,h.b12,h.hq,h.hr⟩
theorem dP.move {i:It} {a b:List It} (h:dP L w F rv wv b0 b1 b2 (a ++ i :: b) q t' F' wv' wr):dP L w F rv wv b0 b1 b2 (a ++ (i.1,i.2.1,true) :: b) q t' F' wv' (wr.setCell ⟨b2,a.length,none⟩ (.bool true)):=by
 have k:=(aa.refl (·=b2) wr).setCell (p:=⟨b2,a.length,none⟩) (.inl rfl) (.bool true);have hn:¬ aU p rv wv' b2:=h.hS.j3 h.h2 (by decide) (by decide);refine ⟨L.J_keep h.hJ k (by rintro b hb rfl;exact h.n2 hb),?_,h.hA,h.hK.setCell (p:=⟨b2,a.length,none⟩) (.inr h.g2) _,h.hF,h.hO,k.ai h.h0 (fun e=>?_),?_,?_,h.n0,h.n1,h.n2,h.g0,h.g1,h.g2,h.b12,h.hq,?_⟩
 ·have:=h.hS.ae k (by rintro b hb rfl;exact hn hb);simpa using this
 ·subst e;exact h.h0.ne h.h2 (by decide) rfl
 ·have:=k.ai h.h1 h.b12;simpa using this
 ·have:=h.h2.aF a.length (.bool true);simpa using this
 ·intro j hj;simp only [List.mem_append,List.mem_cons] at hj;rcases hj with hj | rfl | hj
  ·exact h.hr j (by simp [hj])
  ·exact h.hr i (by simp)
  ·exact h.hr j (by simp [hj])
theorem dP.kept {x:Int} {w2:World} {F2:Nat→Prop} (h:dP L w F rv wv b0 b1 b2 items q t' F' wv' wr) (hx:L.DK t' x)
  (hJ:L.J w2 (L.ae t' q x).1 F2) (hS:a8 gx w2 p rv wv' (items.map (·.1)) (L.ae t' q x).2.1) (hA:eM F2 p rv wv') (hk:aa (fun k=>F' k∨aU p rv wv' k) wr w2) (hF2:∀ k,F2 k→F' k∨wr.heap.size≤k) :
  dP L w F rv wv b0 b1 b2 items (L.ae t' q x).2.1 (L.ae t' q x).1 F2 wv' w2:=by
 have out:∀ {b:Nat} {c:List Value} {T:TypeId},ah wr b c T→¬ F' b→T≠146→T≠170→ah w2 b c T∧¬ F2 b:=fun {b c T} hb hn h1 h2=>
  ⟨hk.ai hb (by rintro (h3 | h3);exact hn h3;exact h.hS.j3 hb h1 h2 h3),fun h3=>by
   rcases hF2 _ h3 with h4 | h4
   ·exact hn h4
   ·have:=hb.lt;omega⟩
 refine ⟨hJ,hS,hA,h.hK.then hk ?_,?_,h.hO,(out h.h0 h.n0 (by decide) (by decide)).1,(out h.h1 h.n1 (by decide) (by decide)).1,(out h.h2 h.n2 (by decide) (by decide)).1,
  (out h.h0 h.n0 (by decide) (by decide)).2,(out h.h1 h.n1 (by decide) (by decide)).2,(out h.h2 h.n2 (by decide) (by decide)).2,h.g0,h.g1,h.g2,h.b12,fun e he=>⟨L.D_wait hx (fun e he=>(h.hq e he).1) e he,L.Q_wait (fun e he=>(h.hq e he).2) e he⟩,fun i hi=>⟨⟨L.D_keep hx (h.hr i hi).1.1,L.DK_keep hx (h.hr i hi).1.2⟩,(h.hr i hi).2⟩⟩
 ·rintro b (hb | hb | hb | hb)
  ·rcases h.hF b hb with h1 | h1
   ·exact .inl (.inl h1)
   ·exact .inr h1
  ·exact .inl (.inr (.inl hb))
  ·exact .inl (.inr (.inr (.inl hb)))
  ·rcases h.hO b hb with h1 | h1
   ·exact .inl (.inr (.inr (.inr h1)))
   ·exact .inr h1
 ·intro b hb;rcases hF2 b hb with h1 | h1
  ·exact h.hF b h1
  ·exact .inr (Nat.le_trans h.hK.size h1)
theorem dP.app {e:Int × Int} {w2:World} {v2:Value} (h:dP L w F rv wv b0 b1 b2 items q t' F' wv' wr) (he:(L.D t' e.1∧L.D t' e.2)∧L.Q e)
  (hs:Sl w2 170 2 v2 (q ++ [e]).length (au (q ++ [e]))) (hk:aa (ag wv') wr w2) (ho:∀ k,ag v2 k→ag wv' k∨wr.heap.size≤k) :
  dP L w F rv wv b0 b1 b2 items (q ++ [e]) t' F' v2 (w2.setCell ⟨p,3,none⟩ v2):=by
 have hkp:=(aa.refl (·=p) w2).setCell (p:=⟨p,3,none⟩) (.inl rfl) v2;have hpw:=h.hS.pw;have hp2:=hk.ai h.hS.hp hpw;have hFp:¬ F' p:=fun hb=>h.hA p ⟨hb, .inl rfl⟩;have out:∀ {b:Nat} {c:List Value} {T:TypeId},ah wr b c T→T≠146→T≠170→ah (w2.setCell ⟨p,3,none⟩ v2) b c T:=fun {b c T} hb h1 h2=>by
  have hn:=h.hS.j3 hb h1 h2;exact hkp.ai (hk.ai hb (fun h3=>hn (.inr (.inr h3)))) (fun h3=>hn (.inl h3))
 have hv2p:¬ ag v2 p:=fun hb=>by
  obtain ⟨_,cur,hc⟩:=hs.own hb;exact hp2.ne hc (by decide) rfl
 refine ⟨L.J_keep (L.J_keep h.hJ hk (fun b hb h1=>h.hA b ⟨hb, .inr (.inr h1)⟩)) hkp (by rintro b hb rfl;exact hFp hb),⟨by simpa using hp2.aF 3 v2,?_,?_,?_⟩,?_,?_,h.hF,?_,out h.h0 (by decide) (by decide),out h.h1 (by decide) (by decide),out h.h2 (by decide) (by decide),
  h.n0,h.n1,h.n2,h.g0,h.g1,h.g2,h.b12,?_,h.hr⟩
 ·exact (h.hS.hr.ae hk (fun b hb h1=>h.hS.ap b ⟨hb,h1⟩)).ae hkp (by rintro b hb rfl;exact h.hS.pr hb)
 ·exact hs.ae hkp (by rintro b hb rfl;exact hv2p hb)
 ·rintro b ⟨h1,h2⟩;rcases ho b h2 with h3 | h3
  ·exact h.hS.ap b ⟨h1,h3⟩
  ·have:=(h.hS.hr.own h1).1;omega
 ·rintro b ⟨h1,h2 | h2 | h2⟩
  ·exact h.hA b ⟨h1, .inl h2⟩
  ·exact h.hA b ⟨h1, .inr (.inl h2)⟩
  ·rcases ho b h2 with h3 | h3
   ·exact h.hA b ⟨h1, .inr (.inr h3)⟩
   ·have:=L.J_lt h.hJ h1;omega
 ·refine (h.hK.then hk (fun b hb=>?_)).setCell (p:=⟨p,3,none⟩) (.inl (.inr (.inl rfl))) _;rcases h.hO b hb with h1 | h1
  ·exact .inl (.inr (.inr (.inr h1)))
  ·exact .inr h1
 ·intro b hb;rcases ho b hb with h1 | h1
  ·exact h.hO b h1
  ·exact .inr (Nat.le_trans h.hK.size h1)
 ·intro e' he';simp only [List.mem_append,List.mem_singleton] at he';rcases he' with he' | rfl
  ·exact h.hq _ he'
  ·exact he
end
def dB {P:Program} {p:Nat} (L:cM gx P p τ) (w:World) (F:Nat→Prop) (rv wv:Value) (b0 b1 b2:Nat) (t1:τ) (q1:List (Int × Int)) (items:List It) (N:Nat) (wr:World) (k:Nat) (more:Bool):Prop:=
 ∃ t' q' F' wv' done,done.length=k∧dP L w F rv wv b0 b1 b2 (done ++ items.drop k) q' t' F' wv' wr∧q'.length+bM (done ++ items.drop k)≤N ∧
  scanM L.alive L.ae t1 q1 items=((scanM L.alive L.ae t' q' (items.drop k)).1,(scanM L.alive L.ae t' q' (items.drop k)).2.1,done ++ (scanM L.alive L.ae t' q' (items.drop k)).2.2.1,more || (scanM L.alive L.ae t' q' (items.drop k)).2.2.2)
theorem dB.skip {P:Program} {p:Nat} {L:cM gx P p τ} {w:World} {F:Nat→Prop} {rv wv:Value} {b0 b1 b2:Nat} {t1:τ} {q1:List (Int × Int)} {items:List It} {N:Nat} {wr w2:World} {k:Nat} {more:Bool}
  {t':τ} {q':List (Int × Int)} {F':Nat→Prop} {wv':Value} {done:List It} {i:It} (hd:done.length=k) (hdr:items.drop k=i :: items.drop (k+1)) (hm:dP L w F rv wv b0 b1 b2 (done ++ i :: items.drop (k+1)) q' t' F' wv' wr) (hN:q'.length+bM (done ++ i :: items.drop (k+1))≤N)
  (he:scanM L.alive L.ae t1 q1 items=((scanM L.alive L.ae t' q' (i :: items.drop (k+1))).1,(scanM L.alive L.ae t' q' (i :: items.drop (k+1))).2.1,done ++ (scanM L.alive L.ae t' q' (i :: items.drop (k+1))).2.2.1,more || (scanM L.alive L.ae t' q' (i :: items.drop (k+1))).2.2.2))
  (hk2:aa (fun _=>False) wr w2) (hc:((i.2.1 && !i.2.2) && L.alive t' i.1.1)=false):dB L w F rv wv b0 b1 b2 t1 q1 items N w2 (k+1) more:=by
 have e:done ++ i :: items.drop (k+1)=(done ++ [i]) ++ items.drop (k+1):=by simp
 refine ⟨t',q',F',wv',done ++ [i],by simp [hd],?_,?_,?_⟩
 ·rw [←e];exact hm.ae hk2
 ·rw [←e];exact hN
 ·rw [he];simp only [scanM,hc,if_neg (show ¬ (false=true) by decide),List.append_assoc,List.cons_append,List.nil_append]
theorem dB.lL {P:Program} {p:Nat} {L:cM gx P p τ} {w:World} {F:Nat→Prop} {rv wv:Value} {b0 b1 b2:Nat} {t1:τ} {q1:List (Int × Int)} {items:List It} {N:Nat} {w2:World} {k:Nat} {more:Bool}
  {t':τ} {q':List (Int × Int)} {F2:Nat→Prop} {v2:Value} {done:List It} {i:It} (hd:done.length=k) (hN:q'.length+bM (done ++ i :: items.drop (k+1))≤N)
  (he:scanM L.alive L.ae t1 q1 items=((scanM L.alive L.ae t' q' (i :: items.drop (k+1))).1,(scanM L.alive L.ae t' q' (i :: items.drop (k+1))).2.1,done ++ (scanM L.alive L.ae t' q' (i :: items.drop (k+1))).2.2.1,more || (scanM L.alive L.ae t' q' (i :: items.drop (k+1))).2.2.2))
  (hm:dP L w F rv wv b0 b1 b2 (done ++ (i.1,i.2.1,true) :: items.drop (k+1)) ((L.ae t' q' i.1.2).2.1 ++ [(i.1.1,(L.ae t' q' i.1.2).2.2)]) (L.ae t' q' i.1.2).1 F2 v2 w2)
  (hc:((i.2.1 && !i.2.2) && L.alive t' i.1.1)=true):dB L w F rv wv b0 b1 b2 t1 q1 items N w2 (k+1) true:=by
 have e:done ++ (i.1,i.2.1,true) :: items.drop (k+1)=(done ++ [(i.1,i.2.1,true)]) ++ items.drop (k+1):=by simp
 refine ⟨(L.ae t' q' i.1.2).1,(L.ae t' q' i.1.2).2.1 ++ [(i.1.1,(L.ae t' q' i.1.2).2.2)],F2,v2,done ++ [(i.1,i.2.1,true)],by simp [hd],?_,?_,?_⟩
 ·rw [←e];exact hm
 ·rw [←e];simp only [Bool.and_eq_true,Bool.not_eq_true'] at hc;simp only [List.length_append,L.keep_len,gS,eX,hc.1.2] at hN ⊢;simp at hN ⊢;omega
 ·rw [he];simp only [scanM,hc,if_true,List.append_assoc,List.cons_append,List.nil_append,Bool.or_true,Bool.true_or]
end
section
open Go.RowKit
variable {τ:Type}
def eO (alive:τ→Int→Bool) (t:τ) (regs:List (Int × Int)) (k:Nat):List Value:=((regs.take k).map fun e=>.bool (!alive t e.2)) ++ List.replicate (regs.length-k) (.bool false)
theorem oL {alive:τ→Int→Bool} {t:τ} {regs:List (Int × Int)} {k:Nat} (h:k<regs.length):eO alive t regs (k+1)=(eO alive t regs k).set k (.bool (!alive t (regs.getD k (0,0)).2)):=by
 unfold eO;rw [List.take_succ_eq_append_getElem h,List.map_append,List.set_append_right _ _ (by simp;omega)];have hr:List.replicate (regs.length-k) (Value.bool false)=.bool false :: List.replicate (regs.length-(k+1)) (.bool false):=by
  rw [show regs.length-k=(regs.length-(k+1))+1 by omega,List.replicate_succ]
 rw [hr];have hg:regs.getD k (0,0)=regs[k]:=by simp [List.getD,h]
 rw [hg];have h0:k-(List.map (fun e=>Value.bool (!alive t e.2)) (regs.take k)).length=0:=by simp;omega
 rw [h0];simp
theorem lM {alive:τ→Int→Bool} {t:τ} {regs:List (Int × Int)} {k:Nat} (h:k≤regs.length):(eO alive t regs k).length=regs.length:=by
 unfold eO;simp;omega
theorem nC (alive:τ→Int→Bool) (t:τ) (regs:List (Int × Int)):eO alive t regs regs.length=(bC alive t regs).map fun i=>.bool i.2.1:=by
 unfold eO bC;simp
theorem j4 (alive:τ→Int→Bool) (t:τ) (regs:List (Int × Int)):(bC alive t regs).map (·.1)=regs:=by
 simp [bC,List.map_map,Function.comp_def]
theorem kQ (alive:τ→Int→Bool) (t:τ) (regs:List (Int × Int)):bM (bC alive t regs)=regs.length:=by
 unfold bC bM;rw [List.filter_map,List.length_map];congr 1;apply List.filter_eq_self.2;intro a _;rfl
theorem lN (alive:τ→Int→Bool) (t:τ) (regs:List (Int × Int)):List.replicate regs.length (Value.bool false)=(bC alive t regs).map fun i=>.bool i.2.2:=by
 unfold bC;rw [List.map_map];apply List.ext_getElem (by simp);intro i h1 h2;simp
def bit (v:Value):Nat:=match v with | .bool true=>1 | _=>0
theorem lO {alive:τ→Int→Bool} {now:τ→Int→Int} {t:τ} {l:List It} {k:Nat} (h:k<l.length):bz alive now t (l.take (k+1))=bz alive now t (l.take k) ++ if (!l[k].2.1 && alive t l[k].1.1)=true then [(now t l[k].1.1,now t l[k].1.2)] else []:=by
 unfold bz;rw [List.take_succ_eq_append_getElem h,List.filter_append,List.map_append];congr 1;cases hc:(!l[k].2.1 && alive t l[k].1.1) <;> simp [List.filter_cons,hc]
theorem nD {alive:τ→Int→Bool} {now:τ→Int→Int} {t:τ} {l:List It}:(bz alive now t l).length≤l.length:=by
 unfold bz;rw [List.length_map];exact List.length_filter_le _ _
theorem lP {alive:τ→Int→Bool} {now:τ→Int→Int} {t:τ} {l:List (Int × Int)} {k:Nat} (h:k<l.length):bA alive now t (l.take (k+1))=bA alive now t (l.take k) ++ if alive t (l.getD k (0,0)).1=true then [(now t (l.getD k (0,0)).1,now t (l.getD k (0,0)).2)] else []:=by
 have hg:l.getD k (0,0)=l[k]:=by simp [List.getD,h]
 rw [hg];unfold bA;rw [List.take_succ_eq_append_getElem h,List.filter_append,List.map_append];congr 1;cases hc:alive t l[k].1 <;> simp [List.filter_cons,hc]
theorem nG {alive:τ→Int→Bool} {now:τ→Int→Int} {t:τ} {l:List (Int × Int)}:(bA alive now t l).length≤l.length:=by
 unfold bA;rw [List.length_map];exact List.length_filter_le _ _
def ec (w wr:World) (v:Value) (l:List (Int × Int)):Prop:=Sl wr 170 2 v l.length (au l)∧aa (fun _=>False) w wr∧∀ b,ag v b→w.heap.size≤b
theorem ec.nil (w:World):ec w w (.slice none 0 0) []:=⟨Sl.nil w 170 2,aa.refl _ _,by intro k hk;simp [ag,Value.ownBlock] at hk⟩
theorem ec.ae {w wr w2:World} {v:Value} {l:List (Int × Int)} (h:ec w wr v l) (k:aa (fun _=>False) wr w2):ec w w2 v l:=⟨h.1.ae k (fun _ _ h=>h),h.2.1.trans k,h.2.2⟩
theorem ec.app {w wr w1 w2:World} {v v2:Value} {l:List (Int × Int)} {e:Int × Int} (h:ec w wr v l) (k1:aa (fun _=>False) wr w1) (hs:Sl w2 170 2 v2 (l.length+1) (au l ++ [.int .i64 e.1, .int .i64 e.2])) (hk:aa (ag v) w1 w2) (ho:∀ b,ag v2 b→ag v b∨w1.heap.size≤b):ec w w2 v2 (l ++ [e]):=by
 refine ⟨by simpa [au] using hs,(h.2.1.trans k1).then hk (fun b hb=>.inr (h.2.2 b hb)),fun b hb=>?_⟩;rcases ho b hb with h1 | h1
 ·exact h.2.2 b h1
 ·exact Nat.le_trans (Nat.le_trans h.2.1.size k1.size) h1
end
section
open Go.RowKit
variable {gx:GX}
variable {τ:Type}
def fA {P:Program} {p:Nat} (L:cM gx P p τ) (t:τ) (F:Nat→Prop) (rv wv:Value) (regs wait:List (Int × Int)) (w:World) (e:Ending) (w':World):Prop:=
 e=.returned (.tuple #[])∧∃ F' rv' wv',L.J w' (ev L.alive L.ae t regs wait).1 F' ∧
  a8 gx w' p rv' wv' (bz L.alive L.now (ev L.alive L.ae t regs wait).1 (ev L.alive L.ae t regs wait).2.2) (bA L.alive L.now (ev L.alive L.ae t regs wait).1 (ev L.alive L.ae t regs wait).2.1) ∧
  eM F' p rv' wv'∧aa (fun b=>F b∨aU p rv wv b) w w'∧(∀ b,F' b→F b∨w.heap.size≤b)∧(∀ b,aU p rv' wv' b→aU p rv wv b∨w.heap.size≤b)
def eY {P:Program} {p:Nat} (L:cM gx P p τ) (w:World) (F:Nat→Prop) (rv wv:Value) (b0 b1 b2:Nat) (t:τ) (regs wait:List (Int × Int)) (N:Nat) (wr:World) (more:Bool) (items:List It):Prop:=
 ∃ n t' q' F' wv',dP L w F rv wv b0 b1 b2 items q' t' F' wv' wr∧items.map (·.1)=regs∧q'.length+bM items≤N∧(more=true→bM items<n) ∧
  ev L.alive L.ae t regs wait=if more then roundsM L.alive L.ae n t' q' items else (t',q',items)
theorem eY.start {P:Program} {p:Nat} {L:cM gx P p τ} {w:World} {F:Nat→Prop} {rv wv:Value} {t:τ} {regs wait:List (Int × Int)} {wr wm:World}
  (hJ:L.J w t F) (h:a8 gx w p rv wv regs wait) (hap:eM F p rv wv) (hD1:∀ e ∈ regs,(L.D t e.1∧L.DK t e.2)∧L.Q e) (hD:∀ e ∈ wait,(L.D t e.1∧L.D t e.2)∧L.Q e)
  (hk:aa (fun b=>w.heap.size≤b) w wr) (h0:ah wr w.heap.size L.cells 178) (h1:ah wr (w.heap.size+1) (eO L.alive t regs regs.length) 4)
  (hkm:aa (fun _=>False) wr wm) (h2:ah wm wr.heap.size (List.replicate regs.length (.bool false)) 4):eY L w F rv wv w.heap.size (w.heap.size+1) wr.heap.size t regs wait (wait.length+regs.length) wm true (bC L.alive t regs):=by
 have k2:aa (fun b=>w.heap.size≤b) w wm:=hk.trans (hkm.mono fun _ _ h=>h.elim);have l1:=h1.lt;have hF:∀ b,w.heap.size≤b→¬ F b:=fun b hb hf=>by have:=L.J_lt hJ hf;omega
 refine ⟨regs.length+1,t,wait,F,wv,⟨L.J_keep hJ k2 (fun b hb hw=>hF b hw hb),?_,hap,?_,fun b hb=>.inl hb,fun b hb=>.inl hb,hkm.ai h0 (fun h=>h),?_,?_,hF _ (Nat.le_refl _),hF _ (by omega),hF _ (by omega),Nat.le_refl _,by omega,by omega,by omega,hD,?_⟩,j4 _ _ _,?_,?_,?_⟩
 ·rw [j4];exact h.ae k2 (fun b hb hw=>by have:=h.lA hb;omega)
 ·exact ⟨k2.os,k2.tape,k2.output,k2.size,fun b hb hn=>k2.block b hb (by omega)⟩
 ·rw [←nC];exact hkm.ai h1 (fun h=>h)
 ·rw [←lN];exact h2
 ·intro i hi;unfold bC at hi;simp only [List.mem_map] at hi;obtain ⟨e,he,rfl⟩:=hi;exact hD1 e he
 ·rw [kQ];exact Nat.le_refl _
 ·intro _;rw [kQ];omega
 ·rfl
theorem eY.next {P:Program} {p:Nat} {L:cM gx P p τ} {w:World} {F:Nat→Prop} {rv wv:Value} {b0 b1 b2:Nat} {t:τ} {regs wait:List (Int × Int)} {N n:Nat} {t':τ} {q':List (Int × Int)} {items:List It} {w2:World} {more:Bool}
  (hf:items.map (·.1)=regs) (hn:bM items<n) (he:ev L.alive L.ae t regs wait=roundsM L.alive L.ae n t' q' items) (hs:dB L w F rv wv b0 b1 b2 t' q' items N w2 regs.length more) :
  ∃ done,eY L w F rv wv b0 b1 b2 t regs wait N w2 more done∧bM done≤bM items∧(more=true→bM done<bM items)∧ah w2 b2 (done.map fun i=>.bool i.2.2) 4:=by
 obtain ⟨t2,q2,F2,v2,done,hd,hm,hN,hE⟩:=hs;have hl:items.length=regs.length:=by rw [←hf];simp
 rw [←hl,List.drop_length,List.append_nil] at hm hN;rw [←hl,List.drop_length] at hE;simp only [scanM,List.append_nil,Bool.or_false] at hE;obtain ⟨m,rfl⟩:∃ m,n=m+1:=⟨n-1,by omega⟩;have hu:=jG L.alive L.ae items t' q';have hfs:=fy L.alive L.ae items t' q';rw [hE] at hu hfs;simp only at hu hfs;refine ⟨done,⟨m,t2,q2,F2,v2,hm,?_,hN,fun h=>by have:=hu.2 h;omega,?_⟩,hu.1,hu.2,hm.h2⟩
 ·have:=congrArg (List.map (fun x:(Int × Int) × Bool=>x.1)) hfs;simp only [List.map_map] at this;rw [←hf];exact this
 ·rw [he];simp only [roundsM,hE]
theorem fA.done {P:Program} {p:Nat} {L:cM gx P p τ} {w:World} {F:Nat→Prop} {rv wv:Value} {b0 b1 b2:Nat} {t:τ} {regs wait:List (Int × Int)} {t':τ} {q':List (Int × Int)} {items:List It} {F':Nat→Prop} {wv':Value} {wr w1 w2:World} {v1 v2:Value}
  (he:ev L.alive L.ae t regs wait=(t',q',items)) (h:dP L w F rv wv b0 b1 b2 items q' t' F' wv' wr) (n1:ec wr w1 v1 (bz L.alive L.now t' items)) (n2:ec w1 w2 v2 (bA L.alive L.now t' q')) :
  fA L t F rv wv regs wait w (.returned (.tuple #[])) ((w2.setCell ⟨p,2,none⟩ v1).setCell ⟨p,3,none⟩ v2):=by
 have hm2:=(h.ae n1.2.1).ae n2.2.1;have kset:=((aa.refl (·=p) w2).setCell (p:=⟨p,2,none⟩) (.inl rfl) v1).setCell (p:=⟨p,3,none⟩) (.inl rfl) v2;have hpl:=h.hS.hp.lt;have s1:=n1.2.1.size;have s0:=h.hK.size;have o1:¬ ag v1 p:=fun hb=>by have:=n1.2.2 p hb;omega
 have o2:¬ ag v2 p:=fun hb=>by have:=n2.2.2 p hb;omega
 unfold fA;rw [he];refine ⟨rfl,F',v1,v2,L.J_keep hm2.hJ kset (by rintro b hb rfl;exact h.hA b ⟨hb, .inl rfl⟩),⟨by simpa using (hm2.hS.hp.aF 2 v1).aF 3 v2,(n1.1.ae n2.2.1 (fun _ _ h=>h)).ae kset (by rintro b hb rfl;exact o1 hb),n2.1.ae kset (by rintro b hb rfl;exact o2 hb),?_⟩,?_,
  (hm2.hK.setCell (p:=⟨p,2,none⟩) (.inl (.inr (.inl rfl))) v1).setCell (p:=⟨p,3,none⟩) (.inl (.inr (.inl rfl))) v2,h.hF,?_⟩
 ·rintro b ⟨h1,h2⟩;have:=(n1.1.own h1).1;have:=n2.2.2 b h2;omega
 ·rintro b ⟨h1,h2 | h2 | h2⟩
  ·exact h.hA b ⟨h1, .inl h2⟩
  ·have:=L.J_lt h.hJ h1;have:=n1.2.2 b h2;omega
  ·have:=L.J_lt h.hJ h1;have:=n2.2.2 b h2;omega
 ·rintro b (h1 | h1 | h1)
  ·exact .inl (.inl h1)
  ·have:=n1.2.2 b h1;exact .inr (by omega)
  ·have:=n2.2.2 b h1;exact .inr (by omega)
theorem oM (p:Nat) (L:cM gx Try.prog p τ) (t:τ) (F:Nat→Prop) (rv wv:Value) (regs wait:List (Int × Int)) (w:World)
  (hJ:L.J w t F) (h:a8 gx w p rv wv regs wait) (hap:eM F p rv wv) (hl1:regs.length≤100000) (hl2:wait.length≤100000) (hD1:∀ e ∈ regs,(L.D t e.1∧L.DK t e.2)∧L.Q e) (hD:∀ e ∈ wait,(L.D t e.1∧L.D t e.2)∧L.Q e) :
  Calls Try.prog 120 #[.pointer (some ⟨p,2,none⟩),L.val] w fun e w'=>fA L t F rv wv regs wait w e w':=by
 obtain ⟨ie,hie,hez0,hez1,hez2⟩:=info_parts fH;have Hi:=Hz hie;have Hz0:=Hz hez0;have Hz1:=Hz hez1;have Hz2:=Hz hez2;clear hie hez0 hez1 hez2;obtain ⟨ib,hi,hz0,hz1,hz2⟩:=info_parts eD;have hmk:=fun (wx:World) (n:Nat) (h1:n≤9223372036854775807) (h2:n≤281474976710656)=>cB (P:=Try.prog) wx 76 4 ib (.bool false) Try.underlying76 hi hz0 rfl hz1 n (by rw [hz2];omega) h1;have HM:=Hz hmk;clear hmk hi hz0 hz1 hz2;have hk:=fun (wx:World)=>HM.out wx regs.length (by omega) (by omega);obtain ⟨ro,rc,rfl,hrd,_,_⟩:=h.hr.rd;have c0:=h.hp.cell 2;simp only [Lz,Ls] at c0;have hpl:=h.hp.lt;have H:=Hz h;have HR:=Hz hrd;have HJ:=Hz hJ;have HA:=Hz hap;have HD:=Hz hD;have HD1:=Hz hD1;clear h hrd hJ hap hD hD1;have ea:=L.ea;have ek:=L.ek;have en:=L.en;generalize hbox:w.alloc (.cells #[.func (.func L.fa) L.a1 L.a2, .func (.func L.fk) L.k1 L.k2, .func (.func L.fn) L.n1 L.n2] 178)=wb;have hkb:aa (fun _=>False) w wb:=by rw [←hbox];exact (aa.refl _ _).alloc _
 have hbb:ah wb w.heap.size L.cells 178:=by rw [←hbox];exact ah.newAt _ rfl rfl
 have hszb:wb.heap.size=w.heap.size+1:=by rw [←hbox];simp
 have HKB:=Hz hkb;have HBB:=Hz hbb;have HSZ:=Hz hszb;have HBX:=Hz hbox;clear hkb hbb hszb hbox;generalize hwd:wb.alloc (.cells (Array.replicate regs.length (.bool false)) 4)=wd;have hkd:aa (fun _=>False) wb wd:=by rw [←hwd];exact (aa.refl _ _).alloc _
 have hbd:ah wd (w.heap.size+1) (eO L.alive t regs 0) 4:=by rw [←hwd];exact ah.newAt _ HSZ.out.symm (by simp [eO])
 have HKD:=Hz hkd;have HBD:=Hz hbd;have HWD:=Hz hwd;clear hkd hbd hwd;unfold cM.val;go_enter Try.func120,Try.ntmps120;go_wp2_with fail;rw [HBX.out,HWD.out];go_loopw [29] (fun i wr=>∃ k:Nat,k≤regs.length∧i=.int .i64 k∧ah wr (w.heap.size+1) (eO L.alive t regs k) 4∧aa (·=w.heap.size+1) wd wr) (fun i _=>regs.length-(intOf i).toNat)
 case atStart=>exact ⟨0,Nat.zero_le _,rfl,HBD.out,aa.refl _ _⟩
 case round=>
  obtain ⟨k,hkl,rfl,hbl,hkr⟩:=hrel;have HBL:=Hz hbl;have HKR:=Hz hkr;have hkw:aa (fun b=>w.heap.size≤b) w wr:=((HKB.out.trans HKD.out).mono fun _ _ h=>h.elim).trans (hkr.mono (by rintro b _ rfl;omega));have hkn:∀ b,b<w.heap.size→¬ (w.heap.size≤b):=fun b h=>by omega
  have HKW:=Hz hkw;have HKN:=Hz hkn;clear hbl hkr hkw hkn;by_cases hlt:k<regs.length
  ·have hrd:=HR.out.ae HKW.out (fun a _ h=>HKN.out _ h);obtain ⟨g,o,rfl,hgl,d0,d1⟩:=hrd.dM k hlt;have hvd0:=(HD1.out (regs.getD k (0,0)) (by simp [List.getD,hlt])).1;have hvd:=And.intro hvd0.1 (L.DK_D hvd0.2);clear hvd0;have HDS:=Hz (oL (alive:=L.alive) (t:=t) hlt);generalize regs.getD k (0,0)=v at *;have hbx:ah wr w.heap.size L.cells 178:=HKR.out.ai (HKD.out.ai HBB.out (fun h=>h)) (by omega);have HX:=Hz hbx;have HV:=Hz hvd;have b0:=hbx.cell 0;have bl:=hbx.lt;simp only [cM.cells,Lz] at b0;clear hrd hvd hbx;go_wp2_with fail;have hk0:=(Kz wr).alloc (.cells #[Value.int IntKind.i64 v.fst,Value.int IntKind.i64 v.snd] 170);refine (L.alive_c _ t F v.2 (L.J_keep HJ.out (HKW.out.trans (hk0.mono fun _ _ h=>h.elim)) (fun b h=>HKN.out b (L.J_lt HJ.out h))) HV.out.2).mono ?_;rintro e w1 ⟨rfl,hk1⟩;have HB1:=Hz (hk1.ai (hk0.ai HBL.out (fun h=>h)) (fun h=>h));have HK1:=Hz (HKR.out.trans ((hk0.trans hk1).mono fun _ _ h=>h.elim));clear hk0 hk1;obtain ⟨aR,q0⟩:∃ aR,w1.cell? ⟨w.heap.size+1,k,none⟩=some aR:=⟨_,by rw [HB1.out.cell,Le (by rw [lM (Nat.le_of_lt hlt)];exact hlt)]⟩;have qf:=HB1.out.free k;have ql:=HB1.out.lt;go_wp2_with fail;go_roundw
   case rel=>exact ⟨k+1,by omega,by go_num,by rw [HDS.out];exact HB1.out.aF k _,HK1.out.setCell (p:=⟨w.heap.size+1,k,none⟩) (.inl rfl) _⟩
   case measure=>simp [intOf];omega
  ·obtain rfl:k=regs.length:=by omega
   have p0:=(HKW.out.ai H.out.hp (HKN.out _ hpl)).cell 2;have pl:=(HKW.out.ai H.out.hp (HKN.out _ hpl)).lt;simp only [Lz,Ls] at p0;have hbx:ah wr w.heap.size L.cells 178:=HKR.out.ai (HKD.out.ai HBB.out (fun h=>h)) (by omega);generalize hwm:wr.alloc (.cells (Array.replicate regs.length (.bool false)) 4)=wm;have hst:=eY.start (wm:=wm) HJ.out H.out HA.out HD1.out HD.out HKW.out hbx HBL.out (by rw [←hwm];exact (aa.refl _ _).alloc _) (by rw [←hwm];exact ah.newAt _ rfl (by simp));have hr0:w.heap.size+2≤wr.heap.size:=HBL.out.lt;have HST:=Hz hst;have HWM:=Hz hwm;have HR0:=Hz hr0;clear hst hwm hbx hr0;go_wp2_with fail;rw [HWM.out];generalize wr.heap.size=b2 at *;go_loopw [8] (fun v wx=>∃ more items,v=.bool more∧eY L w F (.slice ro regs.length rc) wv w.heap.size (w.heap.size+1) b2 t regs wait (wait.length+regs.length) wx more items) (fun v wx=>2*cntF wx b2+bit v)
   case atStart=>exact ⟨true,_,rfl,HST.out⟩
   case round=>
    obtain ⟨more,items,rfl,n,t',q',F',wv',hm,hf,hN,hun,he⟩:=hrel;have GM:=Hz hm;have GF:=Hz hf;have GN:=Hz hN;have GU:=Hz hun;have GE:=Hz he;have hsr:=hm.hS;rw [hf] at hsr;have GS:=Hz hsr;have x0:=hm.hS.hp.cell 2;have xl:=hm.hS.hp.lt;simp only [Lz,Ls] at x0;have hbl:=Nat.le_trans (Nat.le_refl _) hm.h2.lt;have hcn:=lK hm.h2;have HCN:=Hz hcn;clear hm hf hN hun he hsr hcn p0 pl c0 HST;have p0:=x0;clear x0;cases more
    ·have he:=GE.out;simp only [Bool.false_eq_true,if_false] at he;have GE2:=Hz he;clear he GE;go_wp2_with fail;go_loopw [12,106] (fun v i wx=>∃ (k:Nat),k≤regs.length∧i=.int .i64 k∧ec wr wx v (bz L.alive L.now t' (items.take k))) (fun _ i _=>regs.length-(intOf i).toNat)
     case atStart=>exact ⟨0,Nat.zero_le _,rfl,ec.nil wr⟩
     case round=>
      obtain ⟨k,hk,rfl,hnl⟩:=hrel;have KNL:=Hz hnl;have hmk:=GM.out.ae hnl.2.1;have hil:items.length=regs.length:=by rw [←GF.out];simp
      clear hnl;by_cases hlt:k<regs.length
      ·have hki:k<items.length:=by omega
       have hst:=lO (alive:=L.alive) (now:=L.now) (t:=t') hki;have hvd0:=(hmk.hr items[k] (List.getElem_mem hki)).1;have hvd:=And.intro hvd0.1 (L.DK_D hvd0.2);clear hvd0;have hgk:items[k]? = some items[k]:=Le hki;have hfs:regs.getD k (0,0)=items[k].1:=by rw [←GF.out];simp [List.getD,hki]
       have hsr:=hmk.hS;rw [GF.out] at hsr;obtain ⟨_,_,e',hrd,_,_⟩:=hsr.hr.rd;cases e';obtain ⟨g,o,rfl,hgl,d0,d1⟩:=hrd.dM k hlt;rw [hfs] at d0 d1;have f0:=hmk.h0.cell 0;have fl:=hmk.h0.lt;have r1:=hmk.h1.cell k;have r1l:=hmk.h1.lt;rw [List.getElem?_map,hgk] at r1;simp only [Option.map_some] at r1;simp only [cM.cells,Lz,Ls] at f0;have hle:(bz L.alive L.now t' (items.take k)).length≤100000:=Nat.le_trans nD (Nat.le_trans (List.length_take_le _ _) (by omega));generalize items[k]=i at *;obtain ⟨v,dd,mv⟩:=i;have KM:=Hz hmk;have KST:=Hz hst;have KV:=Hz hvd;have KLE:=Hz hle;clear hmk hst hvd hgk hfs hsr hrd hle;cases dd
       ·go_wp2_with fail;have hk0:=(Kz wr).alloc (.cells #[Value.int IntKind.i64 v.fst,Value.int IntKind.i64 v.snd] 170);refine (L.alive_c _ t' F' v.1 (L.J_keep KM.out.hJ hk0 (fun _ _ h=>h)) KV.out.1).mono ?_;rintro e w1 ⟨rfl,hk1⟩;have KK1:=Hz (hk0.trans hk1);have KE1:=Hz (hk1.ai (ah.newAt (w:=wr) _ rfl rfl) (fun h=>h));clear hk0 hk1;cases ha:L.alive t' v.1
        ·go_wp2_with fail;go_roundw
         case rel=>exact ⟨k+1,by omega,by go_num,by rw [KST.out,ha];simpa using KNL.out.ae KK1.out⟩
         case measure=>simp [intOf];omega
        ·have hm1:=KM.out.ae KK1.out;clear f0 fl r1 r1l d0 d1;have f2:=hm1.h0.cell 2;have e0:=KE1.out.cell 0;have e1:=KE1.out.cell 1;simp only [cM.cells,Lz,Ls] at f2 e0 e1;clear hm1;go_wp2_with fail;refine cv [(0,0),(1,0),(3,0),(6,0),(8,0),(2,0),(4,0),(7,0),(9,0),(5,1),(10,1),(11,0),(12,1),(13,1),(14,0)] (fun w'=>w'.cell? ⟨w.heap.size,2,none⟩=some (.func (.func L.fn) L.n1 L.n2)∧w'.cell? ⟨wr.heap.size,0,none⟩=some (.int .i64 v.1)∧w'.cell? ⟨wr.heap.size,1,none⟩=some (.int .i64 v.2)) (by kernel_rfl) (by kernel_rfl) ⟨f2,e0,e1⟩ ?_
         iterate 9 (refine bx rfl rfl _ (fun w' hG=>by obtain ⟨g0,g1,g2⟩:=hG;go_simp;exact bH.mk _ _) (fun K hK=>?_);go_simp;refine hK _ ?_;clear hK K)
         refine bL rfl rfl (fun K hK=>?_);unfold aM;go_simp;have kd1:aa (fun _=>False) wr w1.drew:=KK1.out.trans ((aa.refl _ w1).drew);refine (L.now_c _ t' F' v.1 (KM.out.ae kd1).hJ KV.out.1).mono ?_;rintro e w2 ⟨rfl,hk2⟩;have kd2:=kd1.trans hk2;have be2:=hk2.ai (KE1.out.drew) (fun h=>h);refine hK _ _ ⟨(KM.out.ae kd2).h0.cell 2,be2.cell 0,be2.cell 1⟩ ?_;clear hK K;refine bL rfl rfl (fun K hK=>?_);unfold aM;go_simp;refine (L.now_c _ t' F' v.2 (KM.out.ae kd2).hJ KV.out.2).mono ?_;rintro e w3 ⟨rfl,hk3⟩;have kd3:=kd2.trans hk3;have be3:=hk3.ai be2 (fun h=>h);refine hK _ _ ⟨(KM.out.ae kd3).h0.cell 2,be3.cell 0,be3.cell 1⟩ ?_;clear hK K;have KD3:=Hz kd3;have KB3:=Hz be3;clear kd1 kd2 kd3 be2 be3 hk2 hk3 f2 e0 e1
         iterate 1 (refine bx rfl rfl _ (fun w' hG=>by obtain ⟨g0,g1,g2⟩:=hG;go_simp;exact bH.mk _ _) (fun K hK=>?_);go_simp;refine hK _ ?_;clear hK K)
         refine bL rfl rfl (fun K hK=>?_);unfold aM;go_simp;refine hK _ _ ?_ ?_
         ·have k:=(Kz w3).alloc (.cells #[.int .i64 (L.now t' v.1), .int .i64 (L.now t' v.2)] 170);exact ⟨(KM.out.ae (KD3.out.trans k)).h0.cell 2,(k.ai KB3.out (fun h=>h)).cell 0,(k.ai KB3.out (fun h=>h)).cell 1⟩
         clear hK K;refine bL rfl rfl (fun K hK=>?_);have hle:=KLE.out;refine cy (.tmp 123) (.tmp 135) 127 rfl 170 ie (.agg #[.int .i64 0, .int .i64 0]) 2 16 Try.underlying127 Hi.out Hz0.out Hz1.out Hz2.out rfl (by decide) _ (bz L.alive L.now t' (items.take k)).length (au (bz L.alive L.now t' (items.take k))) rfl ?ja ⟨w3.heap.size,0,none⟩ 1 1 [.int .i64 (L.now t' v.1), .int .i64 (L.now t' v.2)] rfl rfl ?jb ?jc ?jd ?je ?jf
         case ja=>exact (KNL.out.ae (KD3.out.trans ((Kz w3).alloc _))).1
         case jb=>exact bq w3 170 #[.int .i64 (L.now t' v.1), .int .i64 (L.now t' v.2)]
         case jc=>intro u hu;simp at hu;rcases hu with rfl | rfl <;> rfl
         case jd=>unfold maxLen;omega
         case je=>omega
         case jf=>
          intro v5 w5 hs5 hk5 ho5;have hka:aa (fun _=>False) w3 (w3.alloc (.cells #[.int .i64 (L.now t' v.1), .int .i64 (L.now t' v.2)] 170)):=(Kz w3).alloc _;have hnw:=ec.app (e:=(L.now t' v.1,L.now t' v.2)) KNL.out (KD3.out.trans hka) hs5 hk5 ho5;have kd5:=KD3.out.trans hka;have KNW:=Hz hnw;have hm5:=KM.out.ae (w2:=w3.alloc (.cells #[.int .i64 (L.now t' v.1), .int .i64 (L.now t' v.2)] 170)) kd5;have be5:=hka.ai KB3.out (fun h=>h);have nb0:¬ ag u12 w.heap.size:=fun h=>by
           obtain ⟨_,cur,hc⟩:=KNL.out.1.own h;exact KM.out.h0.ne hc (by decide) rfl
          have nb1:¬ ag u12 wr.heap.size:=fun h=>by
           have:=(KNL.out.1.own h).1;omega
          refine hK _ _ ⟨(hk5.ai hm5.h0 nb0).cell 2,(hk5.ai be5 nb1).cell 0,(hk5.ai be5 nb1).cell 1⟩ ?_;clear hK K hs5 hk5 ho5 hka hnw kd5 hm5 be5 nb0 nb1
          iterate 1 (refine bx rfl rfl _ (fun w' hG=>by obtain ⟨g0,g1,g2⟩:=hG;go_simp;exact bH.mk _ _) (fun K hK=>?_);go_simp;refine hK _ ?_;clear hK K)
          refine dk ?_;go_wp2_with fail;go_roundw
          case rel=>exact ⟨k+1,by omega,by go_num,by rw [KST.out,ha];exact KNW.out⟩
          case measure=>simp [intOf];omega
       ·go_wp2_with fail;go_roundw
        case rel=>exact ⟨k+1,by omega,by go_num,by rw [KST.out];simpa using KNL.out.ae ((aa.refl _ _).alloc _)⟩
        case measure=>simp [intOf];omega
      ·obtain rfl:k=regs.length:=by omega
       have htk:items.take regs.length=items:=by rw [←hil];exact List.take_length
       have hnl:=KNL.out;rw [htk] at hnl;obtain ⟨n1,c1,rfl,_,_,_⟩:=hnl.1.rd;obtain ⟨wo,wc,rfl,_,_,_⟩:=hmk.hS.hw.rd;have p1:=hmk.hS.hp.cell 3;have pl1:=hmk.hS.hp.lt;simp only [Lz,Ls] at p1;have hql:q'.length≤200000:=by have:=GN.out;omega
       have KN1:=Hz hnl;have KM0:=Hz hmk;clear hnl hmk htk KNL;go_wp2_with fail;go_loopw [13,143] (fun v i wx=>∃ (k:Nat),k≤q'.length∧i=.int .i64 k∧ec wr wx v (bA L.alive L.now t' (q'.take k))) (fun _ i _=>q'.length-(intOf i).toNat)
       case atStart=>exact ⟨0,Nat.zero_le _,rfl,ec.nil wr⟩
       case round=>
        obtain ⟨k,hk,rfl,hnl⟩:=hrel;have KNL:=Hz hnl;have hmk:=KM0.out.ae hnl.2.1;clear hnl;by_cases hlt:k<q'.length
        ·have hst:=lP (alive:=L.alive) (now:=L.now) (t:=t') hlt;have hvd:=(hmk.hq (q'.getD k (0,0)) (by simp [List.getD,hlt])).1;obtain ⟨_,_,e',hrd,_,_⟩:=hmk.hS.hw.rd;cases e';obtain ⟨g,o,rfl,hgl,d0,d1⟩:=hrd.dM k hlt;have f0:=hmk.h0.cell 0;have fl:=hmk.h0.lt;simp only [cM.cells,Lz,Ls] at f0;have hle:(bA L.alive L.now t' (q'.take k)).length≤200000:=Nat.le_trans nG (Nat.le_trans (List.length_take_le _ _) (by omega));generalize q'.getD k (0,0)=v at *;have KM:=Hz hmk;have KST:=Hz hst;have KV:=Hz hvd;have KLE:=Hz hle;clear hmk hst hvd hrd hle;go_wp2_with fail;have hk0:=(Kz wr).alloc (.cells #[Value.int IntKind.i64 v.fst,Value.int IntKind.i64 v.snd] 170);refine (L.alive_c _ t' F' v.1 (L.J_keep KM.out.hJ hk0 (fun _ _ h=>h)) KV.out.1).mono ?_;rintro e w1 ⟨rfl,hk1⟩;have KK1:=Hz (hk0.trans hk1);have KE1:=Hz (hk1.ai (ah.newAt (w:=wr) _ rfl rfl) (fun h=>h));clear hk0 hk1;cases ha:L.alive t' v.1
         ·go_wp2_with fail;go_roundw
          case rel=>exact ⟨k+1,by omega,by go_num,by rw [KST.out,ha];simpa using KNL.out.ae KK1.out⟩
          case measure=>simp [intOf];omega
         ·have hm1:=KM.out.ae KK1.out;clear f0 fl d0 d1;have f2:=hm1.h0.cell 2;have e0:=KE1.out.cell 0;have e1:=KE1.out.cell 1;simp only [cM.cells,Lz,Ls] at f2 e0 e1;clear hm1;go_wp2_with fail;refine cv [(0,0),(1,0),(3,0),(6,0),(8,0),(2,0),(4,0),(7,0),(9,0),(5,1),(10,1),(11,0),(12,1),(13,1),(14,0)] (fun w'=>w'.cell? ⟨w.heap.size,2,none⟩=some (.func (.func L.fn) L.n1 L.n2)∧w'.cell? ⟨wr.heap.size,0,none⟩=some (.int .i64 v.1)∧w'.cell? ⟨wr.heap.size,1,none⟩=some (.int .i64 v.2)) (by kernel_rfl) (by kernel_rfl) ⟨f2,e0,e1⟩ ?_
          iterate 9 (refine bx rfl rfl _ (fun w' hG=>by obtain ⟨g0,g1,g2⟩:=hG;go_simp;exact bH.mk _ _) (fun K hK=>?_);go_simp;refine hK _ ?_;clear hK K)
          refine bL rfl rfl (fun K hK=>?_);unfold aM;go_simp;have kd1:aa (fun _=>False) wr w1.drew:=KK1.out.trans ((aa.refl _ w1).drew);refine (L.now_c _ t' F' v.1 (KM.out.ae kd1).hJ KV.out.1).mono ?_;rintro e w2 ⟨rfl,hk2⟩;have kd2:=kd1.trans hk2;have be2:=hk2.ai (KE1.out.drew) (fun h=>h);refine hK _ _ ⟨(KM.out.ae kd2).h0.cell 2,be2.cell 0,be2.cell 1⟩ ?_;clear hK K;refine bL rfl rfl (fun K hK=>?_);unfold aM;go_simp;refine (L.now_c _ t' F' v.2 (KM.out.ae kd2).hJ KV.out.2).mono ?_;rintro e w3 ⟨rfl,hk3⟩;have kd3:=kd2.trans hk3;have be3:=hk3.ai be2 (fun h=>h);refine hK _ _ ⟨(KM.out.ae kd3).h0.cell 2,be3.cell 0,be3.cell 1⟩ ?_;clear hK K;have KD3:=Hz kd3;have KB3:=Hz be3;clear kd1 kd2 kd3 be2 be3 hk2 hk3 f2 e0 e1
          iterate 1 (refine bx rfl rfl _ (fun w' hG=>by obtain ⟨g0,g1,g2⟩:=hG;go_simp;exact bH.mk _ _) (fun K hK=>?_);go_simp;refine hK _ ?_;clear hK K)
          refine bL rfl rfl (fun K hK=>?_);unfold aM;go_simp;refine hK _ _ ?_ ?_
          ·have k:=(Kz w3).alloc (.cells #[.int .i64 (L.now t' v.1), .int .i64 (L.now t' v.2)] 170);exact ⟨(KM.out.ae (KD3.out.trans k)).h0.cell 2,(k.ai KB3.out (fun h=>h)).cell 0,(k.ai KB3.out (fun h=>h)).cell 1⟩
          clear hK K;refine bL rfl rfl (fun K hK=>?_);have hle:=KLE.out;refine cy (.tmp 152) (.tmp 164) 127 rfl 170 ie (.agg #[.int .i64 0, .int .i64 0]) 2 16 Try.underlying127 Hi.out Hz0.out Hz1.out Hz2.out rfl (by decide) _ (bA L.alive L.now t' (q'.take k)).length (au (bA L.alive L.now t' (q'.take k))) rfl ?la ⟨w3.heap.size,0,none⟩ 1 1 [.int .i64 (L.now t' v.1), .int .i64 (L.now t' v.2)] rfl rfl ?lb ?lc ?ld ?le ?lf
          case la=>exact (KNL.out.ae (KD3.out.trans ((Kz w3).alloc _))).1
          case lb=>exact bq w3 170 #[.int .i64 (L.now t' v.1), .int .i64 (L.now t' v.2)]
          case lc=>intro u hu;simp at hu;rcases hu with rfl | rfl <;> rfl
          case ld=>unfold maxLen;omega
          case le=>omega
          case lf=>
           intro v5 w5 hs5 hk5 ho5;have hka:aa (fun _=>False) w3 (w3.alloc (.cells #[.int .i64 (L.now t' v.1), .int .i64 (L.now t' v.2)] 170)):=(Kz w3).alloc _;have hnw:=ec.app (e:=(L.now t' v.1,L.now t' v.2)) KNL.out (KD3.out.trans hka) hs5 hk5 ho5;have kd5:=KD3.out.trans hka;have KNW:=Hz hnw;have hm5:=KM.out.ae (w2:=w3.alloc (.cells #[.int .i64 (L.now t' v.1), .int .i64 (L.now t' v.2)] 170)) kd5;have be5:=hka.ai KB3.out (fun h=>h);have nb0:¬ ag u13 w.heap.size:=fun h=>by
            obtain ⟨_,cur,hc⟩:=KNL.out.1.own h;exact KM.out.h0.ne hc (by decide) rfl
           have nb1:¬ ag u13 wr.heap.size:=fun h=>by
            have:=(KNL.out.1.own h).1;omega
           refine hK _ _ ⟨(hk5.ai hm5.h0 nb0).cell 2,(hk5.ai be5 nb1).cell 0,(hk5.ai be5 nb1).cell 1⟩ ?_;clear hK K hs5 hk5 ho5 hka hnw kd5 hm5 be5 nb0 nb1
           iterate 1 (refine bx rfl rfl _ (fun w' hG=>by obtain ⟨g0,g1,g2⟩:=hG;go_simp;exact bH.mk _ _) (fun K hK=>?_);go_simp;refine hK _ ?_;clear hK K)
           refine dk ?_;go_wp2_with fail;go_roundw
           case rel=>exact ⟨k+1,by omega,by go_num,by rw [KST.out,ha];exact KNW.out⟩
           case measure=>simp [intOf];omega
        ·obtain rfl:k=q'.length:=by omega
         have hnl:=KNL.out;rw [List.take_length] at hnl;obtain ⟨n2,c2,rfl,_,_,_⟩:=hnl.1.rd;have hmk:=KM0.out.ae KNL.out.2.1;have p0:=hmk.hS.hp.cell 2;have p1:=hmk.hS.hp.cell 3;have fz0:=hmk.hS.hp.free 2;have fz1:=hmk.hS.hp.free 3;have pl:=hmk.hS.hp.lt;simp only [Lz,Ls] at p0 p1;have KN2:=Hz hnl;clear hnl hmk KNL;go_wp2_with fail;go_end0;exact fA.done GE2.out GM.out KN1.out KN2.out
    ·have he:=GE.out;simp only [if_true] at he;have GE2:=Hz he;have hun:=GU.out rfl;clear he GE;have hl0:items.length=regs.length:=by rw [←GF.out];simp
     have HI:dB L w F (.slice ro regs.length rc) wv w.heap.size (w.heap.size+1) b2 t' q' items (wait.length+regs.length) wr 0 false:=
      ⟨t',q',F',wv',[],rfl,by simpa using GM.out,by simpa using GN.out,by simp⟩
     have HL0:=Hz hl0;clear hl0;go_wp2_with fail;go_loopw [8,56] (fun v i wx=>∃ (k:Nat) (more:Bool),k≤regs.length∧i=.int .i64 k∧v=.bool more∧dB L w F (.slice ro regs.length rc) wv w.heap.size (w.heap.size+1) b2 t' q' items (wait.length+regs.length) wx k more) (fun _ i _=>regs.length-(intOf i).toNat)
     case atStart=>exact ⟨0,false,Nat.zero_le _,rfl,rfl,HI⟩
     case round=>
      clear HI;obtain ⟨k,more,hk,rfl,rfl,hsc⟩:=hrel;by_cases hlt:k<regs.length
      ·obtain ⟨t2,q2,F2,v2,done,hd,hm,hN,hE⟩:=hsc;have hki:k<items.length:=by rw [HL0.out];exact hlt
       have hdr:items.drop k=items[k] :: items.drop (k+1):=List.drop_eq_getElem_cons hki;rw [hdr] at hm hN hE;generalize items[k]=i at *;obtain ⟨v,dd,mv⟩:=i;have hln:((done ++ (v,dd,mv) :: items.drop (k+1)).map (·.1)).length=regs.length:=by
        have:=HL0.out;simp [hd];omega
       have hgt:((done ++ (v,dd,mv) :: items.drop (k+1)).map (·.1)).getD k (0,0)=v:=by simp [List.getD,hd]
       obtain ⟨_,_,e',hrd,_,_⟩:=hm.hS.hr.rd;rw [hln] at e';cases e';obtain ⟨g,o,rfl,hgl,d0,d1⟩:=hrd.dM k (by omega);rw [hgt] at d0 d1;have f0:=hm.h0.cell 0;have f1:=hm.h0.cell 1;have fl:=hm.h0.lt;have r1:=hm.h1.cell k;have r1l:=hm.h1.lt;have r2:=hm.h2.cell k;have r2l:=hm.h2.lt;simp only [cM.cells,Lz,Ls] at f0 f1;have hgk:(done ++ (v,dd,mv) :: items.drop (k+1))[k]? = some (v,dd,mv):=by simp [hd]
       rw [List.getElem?_map,hgk] at r1 r2;simp only [Option.map_some] at r1 r2;have fz:=hm.h2.free k;have hvd:=(hm.hr (v,dd,mv) (by simp)).1;have hvq:=(hm.hr (v,dd,mv) (by simp)).2;have KM:=Hz hm;have KD:=Hz hd;have KDR:=Hz hdr;have KN:=Hz hN;have KE:=Hz hE;have KV:=Hz hvd;have KQ:=Hz hvq;have KL:=Hz hln;clear hm hd hdr hN hE hgt hrd hgk hvd hvq hln;have SKIP:Hid (∀ w2,aa (fun _=>False) wr w2→((dd && !mv) && L.alive t2 v.1)=false→dB L w F (.slice (some ⟨g,o,none⟩) regs.length rc) wv w.heap.size (w.heap.size+1) b2 t' q' items (wait.length+regs.length) w2 (k+1) more):=fun w2 h1 h2=>dB.skip KD.out KDR.out KM.out KN.out KE.out h1 h2;cases dd
       ·go_wp2_with fail;go_roundw
        case rel=>exact ⟨k+1,more,by omega,by go_num,rfl,SKIP.out _ ((aa.refl _ _).alloc _) rfl⟩
        case measure=>simp [intOf];omega
       ·cases mv
        ·go_wp2_with fail;have hk0:=(Kz wr).alloc (.cells #[Value.int IntKind.i64 v.fst,Value.int IntKind.i64 v.snd] 170);refine (L.alive_c _ t2 F2 v.1 (L.J_keep KM.out.hJ hk0 (fun _ _ h=>h)) KV.out.1).mono ?_;rintro e w1 ⟨rfl,hk1⟩;have KK1:=Hz (hk0.trans hk1);have KE1:=Hz (hk1.ai (ah.newAt (w:=wr) _ rfl rfl) (fun h=>h));cases ha:L.alive t2 v.1
         ·clear hk0 hk1;go_wp2_with fail;go_roundw
          case rel=>exact ⟨k+1,more,by omega,by go_num,rfl,SKIP.out _ KK1.out (by rw [ha];rfl)⟩
          case measure=>simp [intOf];omega
         ·have hm1:=KM.out.ae KK1.out;have hm2:=hm1.move;rw [KD.out] at hm2;clear f0 f1 fl r1 r1l r2 r2l fz d0 d1 hk0 hk1;have r2:=hm1.h2.cell k;have r2l:=hm1.h2.lt;have hgk:(done ++ (v,true,false) :: items.drop (k+1))[k]? = some (v,true,false):=by simp [KD.out]
          rw [List.getElem?_map,hgk] at r2;simp only [Option.map_some] at r2;have fz:=hm1.h2.free k;have f1:=hm1.h0.cell 1;have fl:=hm1.h0.lt;simp only [cM.cells,Lz,Ls] at f1;have e1:=KE1.out.cell 1;have el:=KE1.out.lt;simp only [Lz,Ls] at e1;have hbe:b2<wr.heap.size:=KM.out.h2.lt;have hbl0:w.heap.size<wr.heap.size:=KM.out.h0.lt;have hr0:=HR0.out;have hr1:w.heap.size≠b2:=by omega
          have KM2:=Hz hm2;clear hm1 hm2 hgk;go_wp2_with fail;refine (L.keep_c _ t2 F2 _ v2 _ q2 v.2 KM2.out.hJ KM2.out.hS KM2.out.hA KV.out.2 KM2.out.hq (by have:=KN.out;omega)).mono ?_;rintro e w4 ⟨rfl,F4,hJ4,hS4,hA4,hk4,hF4⟩;have hm4:=KM2.out.kept KV.out.2 hJ4 hS4 hA4 hk4 hF4;have hlen:(L.ae t2 q2 v.2).2.1.length=q2.length:=L.keep_len;have hql:(L.ae t2 q2 v.2).2.1.length≤200000:=by have:=KN.out;omega
          have hdn:=L.D_new (wait:=q2) KV.out.2;have hdg:=L.D_keep (wait:=q2) KV.out.2 KV.out.1;have hdq:=L.Q_new (wait:=q2) KV.out.2 KQ.out;have hb4:=hk4.ai ((KE1.out).ez (a:=⟨b2,k,none⟩) (by show wr.heap.size≠b2;omega) (.bool true)) (by
           rintro (h | h)
           ·have:=L.J_lt KM.out.hJ h;omega
           ·have:=KM.out.hS.lA h;omega)
          obtain ⟨wo,wc,rfl,_,_,_⟩:=hm4.hS.hw.rd;clear hJ4 hS4 hA4 hk4 hF4 hlen f1 fl r2 r2l fz e1 el;generalize hr:L.ae t2 q2 v.2=r at *;have KR:=Hz hr;have KM4:=Hz hm4;have KDN:Hid ((L.D r.1 v.1∧L.D r.1 r.2.2)∧L.Q (v.1,r.2.2)):=⟨⟨hdg,hdn⟩,hdq⟩;have KB4:=Hz hb4;have p1:=hm4.hS.hp.cell 3;have pl1:=hm4.hS.hp.lt;have e0:=hb4.cell 0;have el:=hb4.lt;have fz:=hm4.hS.hp.free 3;simp only [Lz,Ls] at p1 e0;clear hr hm4 hdn hdg hdq hb4;go_wp2_with fail;refine cv [(0,0),(1,0),(2,0),(3,0),(5,0),(7,0),(4,0),(6,0),(8,0),(9,1),(10,1),(11,0),(12,0),(13,2)] (fun w'=>w'.cell? ⟨p,3,none⟩=some (.slice wo r.2.1.length wc)∧w'.cell? ⟨wr.heap.size,0,none⟩=some (.int .i64 v.1)) (by kernel_rfl) (by kernel_rfl) ⟨p1,e0⟩ ?_
          iterate 9 (refine bx rfl rfl _ (fun w' hG=>by obtain ⟨g0,g1⟩:=hG;go_simp;exact bH.mk _ _) (fun K hK=>?_);go_simp;refine hK _ ?_;clear hK K)
          refine bL rfl rfl (fun K hK=>?_);unfold aM;go_simp;refine hK _ _ ?_ ?_
          ·have k:=(Kz w4).alloc (.cells #[.int .i64 v.1, .int .i64 r.2.2] 170);exact ⟨(k.ai KM4.out.hS.hp (fun h=>h)).cell 3,(k.ai KB4.out (fun h=>h)).cell 0⟩
          clear hK K;refine bL rfl rfl (fun K hK=>?_);refine cy (.tmp 91) (.tmp 96) 127 rfl 170 ie (.agg #[.int .i64 0, .int .i64 0]) 2 16 Try.underlying127 Hi.out Hz0.out Hz1.out Hz2.out rfl (by decide) _ r.2.1.length (au r.2.1) rfl ?ha ⟨w4.heap.size,0,none⟩ 1 1 [.int .i64 v.1, .int .i64 r.2.2] rfl rfl ?hb ?hc ?hd ?he ?hf
          case ha=>exact KM4.out.hS.hw.ae (((Kz w4).alloc _).drew) (fun _ _ h=>h)
          case hb=>exact bq w4 170 #[.int .i64 v.1, .int .i64 r.2.2]
          case hc=>intro u hu;simp at hu;rcases hu with rfl | rfl <;> rfl
          case hd=>unfold maxLen;omega
          case he=>omega
          case hf=>
           intro v5 w5 hs5 hk5 ho5;have hka:aa (fun _=>False) w4 ((w4.alloc (.cells #[.int .i64 v.1, .int .i64 r.2.2] 170)).drew):=((Kz w4).alloc _).drew;have hm5:=KM4.out.ae hka;have hp5:=hk5.ai hm5.hS.hp hm5.hS.pw;have hb5:=hk5.ai (hka.ai KB4.out (fun h=>h)) (fun h=>by
            have:=(KM.out.hS.hw.own h).1
            omega)
           refine hK _ _ ⟨hp5.cell 3,hb5.cell 0⟩ ?_;clear hK K;have hs6:Sl w5 170 2 v5 (r.2.1 ++ [(v.1,r.2.2)]).length (au (r.2.1 ++ [(v.1,r.2.2)])):=by simpa [au] using hs5
           obtain ⟨vo,vc,rfl,_,_,_⟩:=hs6.rd;have KM6:=Hz (hm5.app (e:=(v.1,r.2.2)) KDN.out hs6 hk5 ho5);have d0:=hp5.cell 3;have dl:=hp5.lt;have f0:=hp5.free 3;simp only [Lz,Ls] at d0;rw [List.length_append] at KM6;clear hs5 hk5 ho5 hka hm5 hp5 hb5 hs6 p1 pl1 e0 el fz
           iterate 2 (refine bx rfl rfl _ (fun w' hG=>by obtain ⟨g0,g1⟩:=hG;go_simp;exact bH.mk _ _) (fun K hK=>?_);go_simp;refine hK _ ?_;clear hK K)
           refine j2 rfl rfl (fun K hK=>?_);unfold aM;go_simp;refine hK _ _ ?_;clear hK K;refine dk ?_;go_wp2_with fail;go_roundw
           case rel=>exact ⟨k+1,true,by omega,by go_num,rfl,dB.lL KD.out KN.out KE.out (by rw [KR.out];exact KM6.out) (by rw [ha];rfl)⟩
           case measure=>simp [intOf];omega
        ·go_wp2_with fail;go_roundw
         case rel=>exact ⟨k+1,more,by omega,by go_num,rfl,SKIP.out _ ((aa.refl _ _).alloc _) rfl⟩
         case measure=>simp [intOf];omega
      ·obtain rfl:k=regs.length:=by omega
       obtain ⟨done,hmi,h1,h2,h3⟩:=eY.next GF.out hun GE2.out hsc
       have HMI:=Hz hmi;have hc2:=lK h3;have HC2:=Hz hc2;clear hmi h3 hsc hc2;go_wp2_with fail;go_roundw
       case rel=>exact ⟨more,done,rfl,HMI.out⟩
       case measure=>
        rw [HCN.out,HC2.out];cases more
        ·show 2*bM done+0<2*bM items+1
         omega
        ·have:=h2 rfl
         show 2*bM done+1<2*bM items+1
         omega
end
section
open Go.RowKit
inductive RO where
 | fin
 | pure (i:Nat) (r:RO)
 | free (i:Nat) (r:RO)
 | base (i:Nat) (r:RO)
 | run (i:Nat) (r:RO)
 | two (i:Nat) (r:RO) (j:Nat) (s:RO)
 | swi (z:List Nat) (r:RO)
namespace RO
def size:RO→Nat
 | fin=>0
 | pure _ r=>r.size+1
 | free _ r=>r.size+1
 | base _ r=>r.size+1
 | run _ r=>r.size+1
 | two _ r _ _=>r.size+1
 | swi _ r=>r.size
def dw:RO→Bool
 | fin=>true
 | pure _ _=>false
 | free _ r=>r.dw
 | base _ r=>r.dw
 | run _ r=>r.dw
 | two _ r _ s=>r.dw && s.dw
 | swi _ _=>true
end RO
section
variable {P:Program} {ops:Array Oper} {md:Region.Mode}
def roB (md:Region.Mode) (ops:Array Oper):RO→List Nat→Array Bool→Bool
 | .fin,_,listed=>(Region.ready md ops listed).isEmpty
 | .pure i r,z,listed=>(Region.ready md ops listed).contains i && Region.free md ops listed i && (z.all fun j=>waitsT md ops ops.size j i) && roB md ops r z (listed.setIfInBounds i true)
 | .free i r,z,listed=>(Region.ready md ops listed).contains i && Region.free md ops listed i && roB md ops r z (listed.setIfInBounds i true)
 | .base i r,z,listed=>(Region.ready md ops listed).contains i && Region.free md ops listed i && roB md ops r z (listed.setIfInBounds i true)
 | .run i r,z,listed=>Region.ready md ops listed == [i] && (!z.contains i || r.dw) && roB md ops r z (listed.setIfInBounds i true)
 | .two i r j s,z,listed=>Region.ready md ops listed == [i,j] && (!z.contains i || r.dw) && (!z.contains j || s.dw) && r.size == s.size && roB md ops r z (listed.setIfInBounds i true) && roB md ops s z (listed.setIfInBounds j true)
 | .swi z' r,z,listed=>((List.range ops.size).all fun k=>listed.getD k true || z.contains k) && roB md ops r z' listed
def dU (P:Program) (ops:Array Oper) (B:World→Prop) (Q:Act→World→Prop):RO→List Nat→(World→Prop)→Act→World→Prop
 | .fin,_,_,a,w=>Q a w
 | .pure i r,z,G,a,w=>∃ o v,ops[i]? = some o∧cP P ops G o v a∧dU P ops B Q r z G (a.put o.dst v) w
 | .free i r,z,G,a,w=>∃ o v,ops[i]? = some o∧cP P ops (fun _=>True) o v a∧dU P ops B Q r z G (a.put o.dst v) w
 | .base i r,z,G,a,w=>∃ o v,ops[i]? = some o∧cP P ops B o v a∧dU P ops B Q r z G (a.put o.dst v) w
 | .run i r,z,G,a,w=>gOp P ops i (fun a' w'=>(B w→B w')∧(z.contains i=false→G w→G w')∧dU P ops B Q r z G a' w') a w
 | .two i r j s,z,G,a,w=>gOp P ops i (fun a' w'=>(B w→B w')∧(z.contains i=false→G w→G w')∧dU P ops B Q r z G a' w') a w∧gOp P ops j (fun a' w'=>(B w→B w')∧(z.contains j=false→G w→G w')∧dU P ops B Q s z G a' w') a w
 | .swi z' r,_,_,a,w=>∃ G':World→Prop,G' w∧dU P ops B Q r z' G' a w
def wpAnyH (P:Program) (md:Region.Mode) (ops:Array Oper) (B:World→Prop) (z:List Nat) (G:World→Prop) (Q:Act→World→Prop):Nat→Array Bool→Act→World→Prop
 | 0,listed,a,w=>Region.ready md ops listed=[]∧Q a w
 | f+1,listed,a,w=>
  (Region.ready md ops listed=[]→Q a w) ∧
  ∀ i ∈ Region.ready md ops listed,gOp P ops i (fun a' w'=>(B w→B w')∧(z.contains i=false→G w→G w')∧wpAnyH P md ops B z G Q f (listed.setIfInBounds i true) a' w') a w
variable {B:World→Prop}
theorem j5 {z:List Nat} {G:World→Prop} {Q:Act→World→Prop} {Q':Exit→Act→World→Prop} (hQ:∀ a w,Q a w→Q' .normal a w):∀ (f:Nat) (listed:Array Bool) (a:Act) (w:World),
  wpAnyH P md ops B z G Q f listed a w→wpAny P md ops Q' f listed a w
 | 0,_,_,_,h=>⟨h.1,hQ _ _ h.2⟩
 | f+1,_,_,_,h=>⟨fun h0=>hQ _ _ (h.1 h0),fun i hi=>jt (dq (fun a w ⟨_,_,hk⟩=>j5 hQ f _ a w hk) (h.2 i hi))⟩
theorem pT {listed:Array Bool} {i:Nat} (hi:i ∈ Region.ready md ops listed):i<ops.size∧listed.getD i true=false:=by
 obtain ⟨hun,oi,hoi,_⟩:=mem_ready.1 hi;refine ⟨?_,hun⟩;rcases Nat.lt_or_ge i ops.size with h | h
 ·exact h
 ·rw [Array.getElem?_eq_none h] at hoi;cases hoi
theorem j6 {z z':List Nat} {G G':World→Prop} {Q:Act→World→Prop}:∀ (fuel:Nat) (listed:Array Bool) (a:Act) (w:World),
  (∀ k,k<ops.size→listed.getD k true=false→z.contains k=true)→wpAnyH P md ops B z' G' Q fuel listed a w→wpAnyH P md ops B z G Q fuel listed a w
 | 0,_,_,_,_,h=>h
 | f+1,listed,a,w,hz,h=>⟨h.1,fun i hi=>dq (fun a' w' ⟨hb,_,hk⟩=>by
   obtain ⟨hil,hun⟩:=pT hi;refine ⟨hb,fun hc=>?_,j6 f _ a' w' (fun k hk hl=>?_) hk⟩
   ·have:=hz i hil hun;rw [hc] at this;cases this
   ·by_cases hki:i=k
    ·subst hki;exact hz i hil hun
    ·rw [getD_set_ne true hki] at hl;exact hz k hk hl) (h.2 i hi)⟩
theorem wpAnyH_first {G Gy:World→Prop} {z:List Nat} {Q:Act→World→Prop} {i:Nat} {oi:Oper} {v:Value} (hi:ops[i]? = some oi) (hsel:∀ (j:Nat) (o:Oper) cs b,ops[j]? = some o→o.op≠.select cs b)
  (hz:(Gy=G∧∀ j,z.contains j=true→waitsT md ops ops.size j i=true)∨Gy=B∨∀ w,Gy w) :
  ∀ (fuel:Nat) (listed:Array Bool) (a:Act) (w:World),Gy w→fT md ops listed →
   (∀ j oj,ops[j]? = some oj→j≠i→listed.getD j true=false→(∀ e ∈ oj.after,Region.binds md e=true→e.on≠i)→oi.apart ops oj=true) →
   i ∈ Region.ready md ops listed→cP P ops Gy oi v a →
   wpAnyH P md ops B z G Q fuel (listed.setIfInBounds i true) (a.put oi.dst v) w→wpAnyH P md ops B z G Q (fuel+1) listed a w:=by
 intro fuel
 induction fuel with
 | zero=>
  intro listed a w hG hS _ hr hy H;refine ⟨fun h=>(by rw [h] at hr;cases hr),fun j hj=>?_⟩;by_cases hji:j=i
  ·subst hji;exact hy.gOp hi hG ⟨fun h=>h,fun _ h=>h,H⟩
  ·have:=ready_mono hj hji;rw [H.1] at this;cases this
 | succ fuel ih=>
  intro listed a w hG hS hfree hr hy H;refine ⟨fun h=>(by rw [h] at hr;cases hr),fun j hj=>?_⟩;by_cases hji:j=i
  ·subst hji;exact hy.gOp hi hG ⟨fun h=>h,fun _ h=>h,H⟩
  ·have h1:=H.2 j (ready_mono hj hji);obtain ⟨hjun,oj,hoj,hall⟩:=mem_ready.1 hj;have hin:listed.getD i false=false:=by
    have h0:=(mem_ready.1 hr).1;rcases Nat.lt_or_ge i listed.size with h' | h'
    ·simp [h'] at h0 ⊢;exact h0
    ·simp [Array.getElem?_eq_none h'] at h0
   have hnot:∀ e ∈ oj.after,Region.binds md e=true→e.on≠i:=fun e he hb heq=>by
    have h1:=hall e he hb;rw [heq,hin] at h1;cases h1
   have h2:=mY hoj (hfree j oj hoj hji hjun hnot) (fun cs b=>hsel i oi cs b hi) (fun cs b=>hsel j oj cs b hoj) hy h1;have hfree':∀ k ok,ops[k]? = some ok→k≠i→(listed.setIfInBounds j true).getD k true=false →
     (∀ e ∈ ok.after,Region.binds md e=true→e.on≠i)→oi.apart ops ok=true:=fun k ok hk hki hun hno=>by
    refine hfree k ok hk hki ?_ hno;by_cases hjk:j=k
    ·subst hjk;exact hjun
    ·rw [getD_set_ne true hjk] at hun;exact hun
   refine dq (fun a' w' ⟨hy',hB',hG',h3⟩=>?_) h2;refine ⟨hB',hG',ih (listed.setIfInBounds j true) a' w' ?_ (hS.next hj) hfree' (ready_mono hr (Ne.symm hji)) hy' ?_⟩
   ·rcases hz with ⟨rfl,hzz⟩ | rfl | h2
    ·refine hG' ?_ hG;cases hc:z.contains j
     ·rfl
     ·have:=hS.waits _ j i ⟨oj,hoj,hall⟩ (hzz j hc);rw [hin] at this;cases this
    ·exact hB' hG
    ·exact h2 w'
   ·rw [Array.setIfInBounds_comm _ _ hji];exact h3
theorem dm {Q:Act→World→Prop} (hs:Region.noSelect ops=true):∀ (t:RO) (z:List Nat) (G:World→Prop) (listed:Array Bool) (a:Act) (w:World),fT md ops listed→B w→(G w∨t.dw=true) →
  roB md ops t z listed=true→dU P ops B Q t z G a w→wpAnyH P md ops B z G Q t.size listed a w
 | .fin,_,_,_,_,_,_,_,_,hB,h=>⟨by simpa [roB] using hB,h⟩
 | .pure i r,z,G,listed,a,w,hS,hb,hG,hB,h=>by
  have hG:G w:=by
   rcases hG with h | h
   ·exact h
   ·simp [RO.dw] at h
  simp only [roB,Bool.and_eq_true] at hB;obtain ⟨⟨⟨hr,hf⟩,hz⟩,hB'⟩:=hB;obtain ⟨o,v,ho,hy,hn⟩:=h;have hr':i ∈ Region.ready md ops listed:=by simpa using hr
  refine wpAnyH_first ho (Region.noSelect_spec hs) (.inl ⟨rfl,fun j hj=>?_⟩) r.size listed a w hG hS (Region.free_spec ho hf) hr' hy ?_
  ·exact List.all_eq_true.1 hz j (by simpa using hj)
  ·exact dm hs r z G _ _ w (hS.next hr') hb (.inl hG) hB' hn
 | .free i r,z,G,listed,a,w,hS,hb,hG,hB,h=>by
  simp only [roB,Bool.and_eq_true] at hB;obtain ⟨⟨hr,hf⟩,hB'⟩:=hB;obtain ⟨o,v,ho,hy,hn⟩:=h;have hr':i ∈ Region.ready md ops listed:=by simpa using hr
  refine wpAnyH_first ho (Region.noSelect_spec hs) (.inr (.inr fun _=>trivial)) r.size listed a w trivial hS (Region.free_spec ho hf) hr' hy ?_;exact dm hs r z G _ _ w (hS.next hr') hb hG hB' hn
 | .base i r,z,G,listed,a,w,hS,hb,hG,hB,h=>by
  simp only [roB,Bool.and_eq_true] at hB;obtain ⟨⟨hr,hf⟩,hB'⟩:=hB;obtain ⟨o,v,ho,hy,hn⟩:=h;have hr':i ∈ Region.ready md ops listed:=by simpa using hr
  refine wpAnyH_first ho (Region.noSelect_spec hs) (.inr (.inl rfl)) r.size listed a w hb hS (Region.free_spec ho hf) hr' hy ?_;exact dm hs r z G _ _ w (hS.next hr') hb hG hB' hn
 | .run i r,z,G,listed,a,w,hS,hb,hG,hB,h=>by
  simp only [roB,Bool.and_eq_true] at hB;obtain ⟨⟨hr,hk⟩,hB'⟩:=hB;have hr1:Region.ready md ops listed=[i]:=by simpa using hr
  have hin:i ∈ Region.ready md ops listed:=by rw [hr1];simp
  refine ⟨(fun h0=>by rw [hr1] at h0;cases h0),fun j hj=>?_⟩;rw [hr1] at hj;obtain rfl:j=i:=by simpa using hj
  refine dq (fun a' w' ⟨hb',hG',hn⟩=>⟨hb',hG',dm hs r z G _ a' w' (hS.next hin) (hb' hb) ?_ hB' hn⟩) h;cases hc:z.contains j
  ·rcases hG with hG | hG
   ·exact .inl (hG' hc hG)
   ·exact .inr hG
  ·rw [hc] at hk;exact .inr (by simpa using hk)
 | .two i r k s,z,G,listed,a,w,hS,hb,hG,hB,h=>by
  simp only [roB,Bool.and_eq_true,beq_iff_eq] at hB;obtain ⟨⟨⟨⟨⟨hr,hki⟩,hkk⟩,hsz⟩,hB1⟩,hB2⟩:=hB;have hr1:Region.ready md ops listed=[i,k]:=by simpa using hr
  refine ⟨(fun h0=>by rw [hr1] at h0;cases h0),fun j hj=>?_⟩;have hin:j ∈ Region.ready md ops listed:=hj;rw [hr1] at hj;have hj:j=i∨j=k:=by simpa using hj
  rcases hj with rfl | rfl
  ·refine dq (fun a' w' ⟨hb',hG',hn⟩=>⟨hb',hG',dm hs r z G _ a' w' (hS.next hin) (hb' hb) ?_ hB1 hn⟩) h.1;cases hc:z.contains j
   ·rcases hG with hG | hG
    ·exact .inl (hG' hc hG)
    ·simp only [RO.dw,Bool.and_eq_true] at hG;exact .inr hG.1
   ·rw [hc] at hki;exact .inr (by simpa using hki)
  ·show gOp P ops j (fun a' w'=>(B w→B w')∧(z.contains j=false→G w→G w')∧wpAnyH P md ops B z G Q r.size (listed.setIfInBounds j true) a' w') a w
   rw [hsz];refine dq (fun a' w' ⟨hb',hG',hn⟩=>⟨hb',hG',dm hs s z G _ a' w' (hS.next hin) (hb' hb) ?_ hB2 hn⟩) h.2;cases hc:z.contains j
   ·rcases hG with hG | hG
    ·exact .inl (hG' hc hG)
    ·simp only [RO.dw,Bool.and_eq_true] at hG;exact .inr hG.2
   ·rw [hc] at hkk;exact .inr (by simpa using hkk)
 | .swi z' r,z,G,listed,a,w,hS,hb,hG,hB,h=>by
  simp only [roB,Bool.and_eq_true] at hB;obtain ⟨hz,hB'⟩:=hB;obtain ⟨G',hG',hn⟩:=h;refine j6 _ listed a w (fun k hk hl=>?_) (dm hs r z' G' listed a w hS hb (.inl hG') hB' hn);have:=List.all_eq_true.1 hz k (List.mem_range.2 hk);rw [hl] at this;simpa using this
structure b8 (P:Program) (ops:Array Oper) (B:World→Prop) (Q:Act→World→Prop) (t:RO) (z:List Nat) (G:World→Prop) (a:Act) (w:World):Prop where
 raw:dU P ops B Q t z G a w
abbrev lQ (P:Program) (ops:Array Oper) (Q:Act→World→Prop) (t:RO) (z:List Nat) (G:World→Prop) (a:Act) (w:World):Prop:=b8 P ops (fun _=>True) Q t z G a w
theorem lx {id:Nat} {Q:Exit→Act→World→Prop} {a:Act} {w:World} {l:List Oper} (t:RO) (z:List Nat) (B G:World→Prop) (hm:P.follows .mixedOrders=true)
  (hB:(Region.noSelect l.toArray && t.size == l.toArray.size && roB .any l.toArray t z (Array.replicate l.toArray.size false))=true) (hb:B w.drew) (hG:G w.drew)
  (h:b8 P l.toArray B (fun a' w'=>Q .normal a' w') t z G a w.drew):(Code.region id l.toArray true).wp P Q a w:=by
 simp only [Bool.and_eq_true,beq_iff_eq] at hB;obtain ⟨⟨hs,hl⟩,hB⟩:=hB;refine wp_region_any hm ?_;have hshut:fT .any l.toArray (Array.replicate l.toArray.size false):=by
  intro j o ho hx;have h0:(Array.replicate l.toArray.size false).getD j false=false:=by
   rw [Array.getD_eq_getD_getElem?,Array.getElem?_replicate];split <;> rfl
  rw [h0] at hx;cases hx
 have:=dm (md:=.any) hs t z G _ a w.drew hshut hb (.inl hG) hB h.raw;rw [hl] at this;exact j5 (fun _ _ h=>h) _ _ _ _ this
theorem aq {id:Nat} {Q:Exit→Act→World→Prop} {a:Act} {w:World} {l:List Oper} (t:RO) (z:List Nat) (G:World→Prop) (hm:P.follows .mixedOrders=true)
  (hB:(Region.noSelect l.toArray && t.size == l.toArray.size && roB .any l.toArray t z (Array.replicate l.toArray.size false))=true) (hG:G w.drew)
  (h:lQ P l.toArray (fun a' w'=>Q .normal a' w') t z G a w.drew):(Code.region id l.toArray true).wp P Q a w:=lx t z _ G hm hB trivial hG h
section
variable {z:List Nat} {G:World→Prop} {Q:Act→World→Prop} {i:Nat} {r:RO} {a:Act} {w:World} {o:Oper}
theorem eE (ho:ops[i]? = some o) (hw:Region.wanted o (yielded ops a.tmps)=true) (v:Value)
  (h:∀ w',G w'→bH v w' ((execOp a.eval o).run P w')) (hn:∀ K:Act→Prop,(∀ a',b8 P ops B Q r z G a' w→K a')→K (a.put o.dst v)):b8 P ops B Q (.pure i r) z G a w:=
 ⟨⟨o,v,ho, .inl ⟨hw,h⟩,hn (fun a'=>dU P ops B Q r z G a' w) (fun _ h=>h.raw)⟩⟩
theorem oN (ho:ops[i]? = some o) (hw:Region.wanted o (yielded ops a.tmps)=true) (v:Value)
  (h:∀ w',bH v w' ((execOp a.eval o).run P w')) (hn:∀ K:Act→Prop,(∀ a',b8 P ops B Q r z G a' w→K a')→K (a.put o.dst v)):b8 P ops B Q (.free i r) z G a w:=
 ⟨⟨o,v,ho, .inl ⟨hw,fun w' _=>h w'⟩,hn (fun a'=>dU P ops B Q r z G a' w) (fun _ h=>h.raw)⟩⟩
theorem ax (ho:ops[i]? = some o) (hw:Region.wanted o (yielded ops a.tmps)=false)
  (hn:∀ K:Act→Prop,(∀ a',b8 P ops B Q r z G a' w→K a')→K (a.put o.dst undef)):b8 P ops B Q (.pure i r) z G a w:=
 ⟨⟨o,undef,ho, .inr ⟨hw,rfl⟩,hn (fun a'=>dU P ops B Q r z G a' w) (fun _ h=>h.raw)⟩⟩
theorem aj (ho:ops[i]? = some o) (hw:Region.wanted o (yielded ops a.tmps)=false)
  (hn:∀ K:Act→Prop,(∀ a',b8 P ops B Q r z G a' w→K a')→K (a.put o.dst undef)):b8 P ops B Q (.free i r) z G a w:=
 ⟨⟨o,undef,ho, .inr ⟨hw,rfl⟩,hn (fun a'=>dU P ops B Q r z G a' w) (fun _ h=>h.raw)⟩⟩
theorem ji {K:Act→World→Prop} (ho:ops[i]? = some o) (hw:Region.wanted o (yielded ops a.tmps)=true) (h:aM P o a w K):gOp P ops i K a w:=by
 unfold gOp;simp only [ho,hw,if_true];exact h
theorem oO (ho:ops[i]? = some o) (hw:Region.wanted o (yielded ops a.tmps)=true)
  (h:∀ K:Act→World→Prop,(∀ a' w',(B w→B w')→(G w→G w')→b8 P ops B Q r z G a' w'→K a' w')→aM P o a w K):b8 P ops B Q (.run i r) z G a w:=
 ⟨ji ho hw (h _ (fun a' w' hb hg hk=>⟨hb,fun _=>hg,hk.raw⟩))⟩
theorem aZ (ho:ops[i]? = some o) (hw:Region.wanted o (yielded ops a.tmps)=true)
  (h:∀ K:Act→World→Prop,(∀ a' w',(G w→G w')→lQ P ops Q r z G a' w'→K a' w')→aM P o a w K):lQ P ops Q (.run i r) z G a w:=
 oO ho hw fun K hK=>h K fun a' w' hg hk=>hK a' w' (fun h=>h) hg hk
theorem oP (ho:ops[i]? = some o) (hz:z.contains i=true) (hw:Region.wanted o (yielded ops a.tmps)=true)
  (h:∀ K:Act→World→Prop,(∀ a' w',(B w→B w')→b8 P ops B Q r z G a' w'→K a' w')→aM P o a w K):b8 P ops B Q (.run i r) z G a w:=
 ⟨ji ho hw (h _ (fun a' w' hb hk=>⟨hb,(fun hc=>by rw [hz] at hc;cases hc),hk.raw⟩))⟩
theorem aG (ho:ops[i]? = some o) (hz:z.contains i=true) (hw:Region.wanted o (yielded ops a.tmps)=true)
  (h:∀ K:Act→World→Prop,(∀ a' w',lQ P ops Q r z G a' w'→K a' w')→aM P o a w K):lQ P ops Q (.run i r) z G a w:=
 oP ho hz hw fun K hK=>h K fun a' w' hk=>hK a' w' (fun h=>h) hk
theorem jH {j:Nat} {s:RO} {o':Oper} (ho:ops[i]? = some o) (hw:Region.wanted o (yielded ops a.tmps)=true) (ho':ops[j]? = some o') (hw':Region.wanted o' (yielded ops a.tmps)=true)
  (h:∀ K:Act→World→Prop,(∀ a' w',(B w→B w')→(z.contains i=false→G w→G w')→b8 P ops B Q r z G a' w'→K a' w')→aM P o a w K)
  (h':∀ K:Act→World→Prop,(∀ a' w',(B w→B w')→(z.contains j=false→G w→G w')→b8 P ops B Q s z G a' w'→K a' w')→aM P o' a w K):b8 P ops B Q (.two i r j s) z G a w:=
 ⟨⟨ji ho hw (h _ (fun a' w' hb hg hk=>⟨hb,hg,hk.raw⟩)),ji ho' hw' (h' _ (fun a' w' hb hg hk=>⟨hb,hg,hk.raw⟩))⟩⟩
theorem aE {z':List Nat} (G':World→Prop) (hG:G' w) (h:b8 P ops B Q r z' G' a w):b8 P ops B Q (.swi z' r) z G a w:=⟨⟨G',hG,h.raw⟩⟩
theorem aA (h:Q a w):b8 P ops B Q .fin z G a w:=⟨h⟩
def rowB (P:Program) (t:TypeId) (n:Nat):Bool:=(match P.underlying t with | some d=>d.isRow | none=>false) && (P.info? t).map (·.size) == some n
theorem fB {t:TypeId} {n:Nat} (h:rowB P t n=true):∃ d,P.underlying t=some d∧d.isRow=true∧(P.info? t).map (·.size)=some n:=by
 unfold rowB at h;simp only [Bool.and_eq_true,beq_iff_eq] at h;cases hd:P.underlying t with
 | none=>rw [hd] at h;cases h.1
 | some d=>rw [hd] at h;exact ⟨d,rfl,h.1,h.2⟩
theorem jI {b off:Nat} {v0 v1:Value} (h0:w.cell? ⟨b,off,none⟩=some v0) (h1:w.cell? ⟨b,off+1,none⟩=some v1):w.rangeAt b off [v0,v1]:=by
 intro j v hj
 match j with
 | 0=>simp at hj;subst hj;exact h0
 | 1=>simp at hj;subst hj;exact h1
 | j+2=>simp at hj
theorem nH {t:TypeId} {x:Operand} {b off:Nat} {v0 v1:Value} (ho:o.op=.load t x) (hr:rowB P t 2=true) (hx:a.eval x=.pointer (some ⟨b,off,none⟩))
  (h0:w.cell? ⟨b,off,none⟩=some v0) (h1:w.cell? ⟨b,off+1,none⟩=some v1):bH (.agg #[v0,v1]) w ((execOp a.eval o).run P w):=by
 obtain ⟨d,hu,hd,hi⟩:=fB hr;have:=run_loadAt_mid (P:=P) w b off t [v0,v1] d (jI h0 h1) hu hd hi;unfold bH execOp;simp only [ho,hx,Sem.run_bind,Sem.run_pure,Result.andThen_ok,this]
theorem ak {v:Value} (ho:ops[i]? = some o) (hw:Region.wanted o (yielded ops a.tmps)=true) (hn:∀ K:Act→Prop,(∀ a',b8 P ops B Q r z G a' w→K a')→K (a.put o.dst v))
  (h:∀ w',bH v w' ((execOp a.eval o).run P w'):=by intro w';go_simp;exact bH.mk _ _):b8 P ops B Q (.free i r) z G a w:=oN ho hw v h hn
theorem av {v:Value} (ho:ops[i]? = some o) (hw:Region.wanted o (yielded ops a.tmps)=true) (hn:∀ K:Act→Prop,(∀ a',b8 P ops B Q r z G a' w→K a')→K (a.put o.dst v))
  (h:∀ w',G w'→bH v w' ((execOp a.eval o).run P w'):=by intro w' hG;(repeat (have:=And.left hG;replace hG:=And.right hG));go_simp;exact bH.mk _ _):b8 P ops B Q (.pure i r) z G a w:=eE ho hw v h hn
theorem ay {v:Value} (ho:ops[i]? = some o) (hw:Region.wanted o (yielded ops a.tmps)=true) (hn:∀ K:Act→Prop,(∀ a',b8 P ops B Q r z G a' w→K a')→K (a.put o.dst v))
  (h:∀ w',G w'→bH v w' ((execOp a.eval o).run P w'):=by intro w' hG;(repeat (have:=And.left hG;replace hG:=And.right hG));exact nH rfl (by decide +kernel) rfl (by assumption) (by assumption)):b8 P ops B Q (.pure i r) z G a w:=eE ho hw v h hn
theorem aQ {rest:List Oper} {Q:Exit→Act→World→Prop} (hgd:o.guard=none) (t:TypeId) (x:Operand) (ho:o.op=.load t x) (hr:rowB P t 2=true) (b off:Nat) (hx:a.eval x=.pointer (some ⟨b,off,none⟩)) (v0 v1:Value)
  (h0:w.cell? ⟨b,off,none⟩=some v0) (h1:w.cell? ⟨b,off+1,none⟩=some v1) (h:wpList P ops Q rest (a.put o.dst (.agg #[v0,v1])) w):wpList P ops Q (o :: rest) a w:=by
 obtain ⟨d,hu,hd,hi⟩:=fB hr;exact wpList_load_mid hgd t x ho b off hx [v0,v1] d (jI h0 h1) hu hd hi h
end
end
end
section
open Go.RowKit
theorem lR {P:Program} (w:World) (t ty e:TypeId) (i:TypeInfo) (z:Value) (size bytes:Nat) (ht:P.underlying t=some (.slice e)) (hi:P.info? e=some i) (hz:i.zero=some z)
  (hsize:i.size=size) (hby:i.bytes=bytes) (hzs:z.cells.size=size) (hsz:0<size)
  (v:Value) (n:Nat) (xs:List Value) (hs:Sl w e size v n xs)
  (ao:Option Addr) (m c:Nat) (news:List Value) (hl:news.length=m*size) (hrd:Rd w ao news) (h1:∀ u ∈ news,u.oneCell'=true)
  (h63:n+m≤maxLen) (hbytes:(n+m)*bytes≤140737488355328) :
  ∃ v' w',(Builtin.append_ #[t,t] ty #[v, .slice ao m c]).run P w=.ok v' w'∧Sl w' e size v' (n+m) (xs ++ news)∧aa (ag v) w w'∧(∀ k,ag v' k→ag v k∨w.heap.size≤k):=by
 cases ao with
 | some a=>
  refine kA w t ty e i z size bytes ht hi hz hsize hby hzs hsz v n xs hs a m c news hl ?_ h1 h63 hbytes;intro j u hu;have hj:=(List.getElem?_eq_some_iff.1 hu).1;obtain ⟨g,o,e,_,hc⟩:=hrd (by rintro rfl;simp at hj);cases e;rw [cX,hc j hj,hu]
 | none=>
  have hn:news=[]:=by
   by_cases h:news=[]
   ·exact h
   ·obtain ⟨g,o,e,_⟩:=hrd h;cases e
  subst hn;have hm:m=0:=by
   rcases Nat.mul_eq_zero.1 (show m*size=0 by simpa using hl.symm) with h | h
   ·exact h
   ·omega
  subst hm;refine ⟨v,w,?_,by simpa using hs,aa.refl _ _,fun k hk=>.inl hk⟩;subst hsize;obtain ⟨hxl,⟨rfl,rfl⟩ | ⟨g,o,cap,cur,rfl,hb,hnc,hcm,hoc,hx⟩⟩:=hs
  ·simp [Builtin.append_,run_underlying ht,sizeOf,typeInfo,hi,Builtin.lenOf,Builtin.firstCells]
  ·simp [Builtin.append_,run_underlying ht,sizeOf,typeInfo,hi,Builtin.lenOf,Builtin.firstCells,hnc,storeCells]
theorem jv {P:Program} {w:World} {ops:Array Oper} {rest:List Oper} {o:Oper} {a:Act} {Q:Exit→Act→World→Prop} (hgd:o.guard=none) (s x:Operand) (t:TypeId)
  (ho:o.op=.call { callee:=.builtin .append,args:=#[s,x],argTypes:=#[t,t] })
  (e:TypeId) (i:TypeInfo) (z:Value) (size bytes:Nat) (ht:P.underlying t=some (.slice e)) (hi:P.info? e=some i) (hz:i.zero=some z)
  (hsize:i.size=size) (hby:i.bytes=bytes) (hzs:z.cells.size=size) (hsz:0<size)
  (v:Value) (n:Nat) (xs:List Value) (hs:a.eval s=v) (hown:Sl w e size v n xs)
  (ao:Option Addr) (m c:Nat) (news:List Value) (hx:a.eval x=.slice ao m c) (hl:news.length=m*size) (hrd:Rd w ao news) (h1:∀ u ∈ news,u.oneCell'=true)
  (h63:n+m≤maxLen) (hbytes:(n+m)*bytes≤140737488355328)
  (h:∀ v' w',Sl w' e size v' (n+m) (xs ++ news)→aa (ag v) w w'→(∀ k,ag v' k→ag v k∨w.heap.size≤k)→wpList P ops Q rest (a.put o.dst v') w'):wpList P ops Q (o :: rest) a w:=by
 refine wpList_plain hgd fun _ hK=>?_;obtain ⟨v',w',hr,h2,h3,h4⟩:=lR (P:=P) w t o.type e i z size bytes ht hi hz hsize hby hzs hsz v n xs hown ao m c news hl hrd h1 h63 hbytes;unfold Oper.wp execOp;simp only [ho,resolve,invoke,builtin,Sem.run_bind,Sem.run_pure,Result.andThen_ok,List.map_toArray,List.map_cons,List.map_nil,hs,hx,hr];exact hK _ _ (h v' w' h2 h3 h4)
theorem kR {P:Program} {w:World} {o:Oper} {a:Act} {K:Act→World→Prop} (s x:Operand) (t:TypeId)
  (ho:o.op=.call { callee:=.builtin .append,args:=#[s,x],argTypes:=#[t,t] })
  (e:TypeId) (i:TypeInfo) (z:Value) (size bytes:Nat) (ht:P.underlying t=some (.slice e)) (hi:P.info? e=some i) (hz:i.zero=some z)
  (hsize:i.size=size) (hby:i.bytes=bytes) (hzs:z.cells.size=size) (hsz:0<size)
  (v:Value) (n:Nat) (xs:List Value) (hs:a.eval s=v) (hown:Sl w e size v n xs)
  (ao:Option Addr) (m c:Nat) (news:List Value) (hx:a.eval x=.slice ao m c) (hl:news.length=m*size) (hrd:Rd w ao news) (h1:∀ u ∈ news,u.oneCell'=true)
  (h63:n+m≤maxLen) (hbytes:(n+m)*bytes≤140737488355328)
  (h:∀ v' w',Sl w' e size v' (n+m) (xs ++ news)→aa (ag v) w w'→(∀ k,ag v' k→ag v k∨w.heap.size≤k)→K (a.put o.dst v') w'):aM P o a w K:=by
 obtain ⟨v',w',hr,h2,h3,h4⟩:=lR (P:=P) w t o.type e i z size bytes ht hi hz hsize hby hzs hsz v n xs hown ao m c news hl hrd h1 h63 hbytes;unfold aM execOp;simp only [ho,resolve,invoke,builtin,Sem.run_bind,Sem.run_pure,Result.andThen_ok,List.map_toArray,List.map_cons,List.map_nil,hs,hx,hr];exact h v' w' h2 h3 h4
end
section
open Go.RowKit
section
variable {P:Program} {w:World} {ops:Array Oper} {o:Oper} {a:Act}
theorem gC {t:TypeId} {x:Operand} {b off:Nat} {cs:List Value} (ho:o.op=.load t x) (hr:rowB P t cs.length=true) (hx:a.eval x=.pointer (some ⟨b,off,none⟩)) (h:w.rangeAt b off cs):bH (.agg cs.toArray) w ((execOp a.eval o).run P w):=by
 obtain ⟨d,hu,hd,hi⟩:=fB hr;have:=run_loadAt_mid (P:=P) w b off t cs d h hu hd hi;unfold bH execOp;simp only [ho,hx,Sem.run_bind,Sem.run_pure,Result.andThen_ok,this]
theorem aT {rest:List Oper} {Q:Exit→Act→World→Prop} (hgd:o.guard=none) (t:TypeId) (x:Operand) (ho:o.op=.load t x) (cs:List Value) (hr:rowB P t cs.length=true) (b off:Nat) (hx:a.eval x=.pointer (some ⟨b,off,none⟩))
  (h0:w.rangeAt b off cs) (h:wpList P ops Q rest (a.put o.dst (.agg cs.toArray)) w):wpList P ops Q (o :: rest) a w:=by
 obtain ⟨d,hu,hd,hi⟩:=fB hr;exact wpList_load_mid hgd t x ho b off hx cs d h0 hu hd hi h
theorem aO {b off:Nat}:w.rangeAt b off []:=by intro j v hj;simp at hj
theorem ab {b off:Nat} {v:Value} {cs:List Value} (h:w.cell? ⟨b,off,none⟩=some v) (hr:w.rangeAt b (off+1) cs):w.rangeAt b off (v :: cs):=by
 intro j u hj;cases j with
 | zero=>simp at hj;subst hj;exact h
 | succ j=>simp at hj;rw [show off+(j+1)=off+1+j by omega];exact hr j u hj
end
end
section
open Go.RowKit
theorem lS (n:Int):bits .and .i64 n 3=n%4:=by
 have h3:(BitVec.ofInt 64 3).toNat=2 ^ 2-1:=by decide
 have key:(BitVec.ofInt 64 n &&& BitVec.ofInt 64 3).toNat=(n%((2 ^ 64:Nat):Int)).toNat%2 ^ 2:=by
  rw [BitVec.toNat_and,BitVec.toNat_ofInt,h3,Nat.and_two_pow_sub_one_eq_mod]
 show IntKind.i64.wrap ((BitVec.ofInt 64 n &&& BitVec.ofInt 64 3).toNat:Nat)=n%4
 rw [key,IntKind.wrap_i64];omega
theorem oQ (n:Int):bits .and .i64 n 15=n%16:=by
 have h3:(BitVec.ofInt 64 15).toNat=2 ^ 4-1:=by decide
 have key:(BitVec.ofInt 64 n &&& BitVec.ofInt 64 15).toNat=(n%((2 ^ 64:Nat):Int)).toNat%2 ^ 4:=by
  rw [BitVec.toNat_and,BitVec.toNat_ofInt,h3,Nat.and_two_pow_sub_one_eq_mod]
 show IntKind.i64.wrap ((BitVec.ofInt 64 n &&& BitVec.ofInt 64 15).toNat:Nat)=n%16
 rw [key,IntKind.wrap_i64];omega
theorem oR (n:Int) (h₀:0≤n) (h₁:n<2 ^ 63):IntKind.i64.wrap n=n:=by rw [IntKind.wrap_i64];omega
theorem fV (f k:Int) (h1:0≤f) (h2:f≤100) (h3:0≤k) (h4:k<16):bits .or .i64 (f*16) k=f*16+k:=
 bits_join .i64 63 (by decide) oR 4 (f*16) k (by omega) (by omega) (by omega) (by omega) (by omega) (by omega)
def cL:Int:=1152921504606846976
def sa (x:Int):Int × Int × Int:=
 if x%4=0 then if -cL≤x/4∧x/4<cL then (1,x/4,0) else (0,0,1)
 else if x%4=1 then if 0≤x/4∧x/4<cL then (3,x/4,0) else (0,0,1)
 else if x/4=0 then if x=2 then (0,0,0) else (2,0,0)
 else (0,0,7)
def aW (k f:Int):Bool:=((k == 1 || k == 3 || k == 4) && f == 2) || (k == 5 && f == 0) || (k == 2 && decide (0≤f) && decide (f≤12))
def eP (k f:Int):Int × Int:=if k<1∨5<k then (0,2) else if aW k f=true then (16*f+k,0) else (0,1)
def ed (h:Int):Int × Int × Int:=if aW (h%16) (h/16)=true then (h%16,h/16,0) else (0,0,7)
theorem bs {k f:Int} (h:aW k f=true):1≤k∧k≤5∧0≤f∧f≤12:=by
 simp [aW] at h;omega
end
section
open Go.RowKit
theorem rf {a b c d:Int} (h1:a=c) (h2:b=d):Ending.returned (.tuple #[.int .i64 a, .int .i64 b])=Ending.returned (.tuple #[.int .i64 c, .int .i64 d]):=by rw [h1,h2]
theorem sN (w:World):Calls Try.prog 89 #[] w fun e w'=>e=.returned (.int .i64 2)∧w=w':=by
 go_enter Try.func89,Try.ntmps89
 go_wp2
 go_ret;exact ⟨rfl,rfl⟩
theorem gT (x:Int) (w:World) (h:x%4=1) :
  Calls Try.prog 52 #[.int .i64 x] w fun e w'=>e=.returned (.tuple #[.int .i64 (x/4), .bool true])∧w=w':=by
 have ha:bits .and .i64 x 3=1:=by rw [lS,h]
 clear h;go_enter Try.func52,Try.ntmps52
 go_wp2
 go_ret2;exact ⟨rfl,rfl⟩
theorem qS (x:Int) (w:World) (h:x%4≠1) :
  Calls Try.prog 52 #[.int .i64 x] w fun e w'=>e=.returned (.tuple #[.int .i64 0, .bool false])∧w=w':=by
 have ha:(bits .and .i64 x 3 != 1)=true:=by rw [lS];simpa using h
 clear h;go_enter Try.func52,Try.ntmps52
 go_wp2
 go_ret2;exact ⟨rfl,rfl⟩
end
section
open Go.RowKit
theorem j7 {k f:Int} (h:k<1∨5<k):eP k f=(0,2):=if_pos h
theorem eZ {k f:Int} (h:1≤k∧k≤5) (hf:aW k f=false):eP k f=(0,1):=by
 unfold eP;rw [if_neg (by omega),if_neg (by simp [hf])]
theorem eF {k f:Int} (h:1≤k∧k≤5) (hf:aW k f=true):eP k f=(16*f+k,0):=by
 unfold eP;rw [if_neg (by omega),if_pos hf]
theorem kC {k f:Int} (hk:k=1∨k=3∨k=4):aW k f=(f == 2):=by
 rcases hk with rfl | rfl | rfl <;> simp [aW]
theorem rh {f:Int}:aW 5 f=(f == 0):=by simp [aW]
theorem iL {f:Int}:aW 2 f=(decide (0≤f) && decide (f≤12)):=by simp [aW]
theorem oS (k f:Int) (w:World) (h1:-9223372036854775808≤f) (h2:f≤9223372036854775807) :
  Calls Try.prog 128 #[.int .i64 k, .int .i64 f] w fun e w'=>e=.returned (.tuple #[.int .i64 (eP k f).1, .int .i64 (eP k f).2])∧w=w':=by
 by_cases c1:k<1
 ·have HE:=Hz (j7 (f:=f) (.inl c1));go_enter Try.func128,Try.ntmps128
  go_wp2
  go_ret2;exact ⟨by rw [HE.out];rfl,rfl⟩
 by_cases c2:5<k
 ·have HE:=Hz (j7 (f:=f) (.inr c2));go_enter Try.func128,Try.ntmps128
  go_wp2
  go_ret2;exact ⟨by rw [HE.out];rfl,rfl⟩
 have hk:k=1∨k=2∨k=3∨k=4∨k=5:=by omega
 clear c1 c2;rcases hk with rfl | rfl | rfl | rfl | rfl
 ·by_cases c:f=2
  ·subst c;have hor:=fV 2 1 (by omega) (by omega) (by omega) (by omega);have HE:=Hz (eF (k:=1) (f:=2) (by omega) (by decide));go_enter Try.func128,Try.ntmps128
   go_wp2
   go_ret2;exact ⟨by rw [HE.out];rfl,rfl⟩
  ·have hne:(f != 2)=true:=by simpa using c
   have HE:=Hz (eZ (k:=1) (f:=f) (by omega) (by rw [kC (by omega)];simpa using c));clear c;go_enter Try.func128,Try.ntmps128
   go_wp2
   go_ret2;exact ⟨by rw [HE.out];rfl,rfl⟩
 ·by_cases c1:f<0
  ·have HE:=Hz (eZ (k:=2) (f:=f) (by omega) (by rw [iL];simp;omega));go_enter Try.func128,Try.ntmps128
   go_wp2
   go_ret2;exact ⟨by rw [HE.out];rfl,rfl⟩
  by_cases c2:12<f
  ·have HE:=Hz (eZ (k:=2) (f:=f) (by omega) (by rw [iL];simp;omega));go_enter Try.func128,Try.ntmps128
   go_wp2
   go_ret2;exact ⟨by rw [HE.out];rfl,rfl⟩
  have hor:=fV f 2 (by omega) (by omega) (by omega) (by omega);have HE:=Hz (eF (k:=2) (f:=f) (by omega) (by rw [iL];simp;omega));go_enter Try.func128,Try.ntmps128
  go_wp2
  go_ret2;exact ⟨by rw [HE.out];exact rf (by omega) rfl,rfl⟩
 ·by_cases c:f=2
  ·subst c;have hor:=fV 2 3 (by omega) (by omega) (by omega) (by omega);have HE:=Hz (eF (k:=3) (f:=2) (by omega) (by decide));go_enter Try.func128,Try.ntmps128
   go_wp2
   go_ret2;exact ⟨by rw [HE.out];rfl,rfl⟩
  ·have hne:(f != 2)=true:=by simpa using c
   have HE:=Hz (eZ (k:=3) (f:=f) (by omega) (by rw [kC (by omega)];simpa using c));clear c;go_enter Try.func128,Try.ntmps128
   go_wp2
   go_ret2;exact ⟨by rw [HE.out];rfl,rfl⟩
 ·by_cases c:f=2
  ·subst c;have hor:=fV 2 4 (by omega) (by omega) (by omega) (by omega);have HE:=Hz (eF (k:=4) (f:=2) (by omega) (by decide));go_enter Try.func128,Try.ntmps128
   go_wp2
   go_ret2;exact ⟨by rw [HE.out];rfl,rfl⟩
  ·have hne:(f != 2)=true:=by simpa using c
   have HE:=Hz (eZ (k:=4) (f:=f) (by omega) (by rw [kC (by omega)];simpa using c));clear c;go_enter Try.func128,Try.ntmps128
   go_wp2
   go_ret2;exact ⟨by rw [HE.out];rfl,rfl⟩
 ·by_cases c:f=0
  ·subst c;have hor:=fV 0 5 (by omega) (by omega) (by omega) (by omega);have HE:=Hz (eF (k:=5) (f:=0) (by omega) (by decide));go_enter Try.func128,Try.ntmps128
   go_wp2
   go_ret2;exact ⟨by rw [HE.out];rfl,rfl⟩
  ·have hne:(f != 0)=true:=by simpa using c
   have HE:=Hz (eZ (k:=5) (f:=f) (by omega) (by rw [rh];simpa using c));clear c;go_enter Try.func128,Try.ntmps128
   go_wp2
   go_ret2;exact ⟨by rw [HE.out];rfl,rfl⟩
theorem gD {a b c:Int} {y:Int × Int × Int} (h:y=(a,b,c)) :
  Ending.returned (.tuple #[.int .i64 a, .int .i64 b, .int .i64 c])=Ending.returned (.tuple #[.int .i64 y.1, .int .i64 y.2.1, .int .i64 y.2.2]):=by subst h;rfl
theorem kS {h:Int} (hf:aW (h%16) (h/16)=false):ed h=(0,0,7):=by unfold ed;rw [if_neg (by simp [hf])]
theorem nI {h:Int} (hf:aW (h%16) (h/16)=true):ed h=(h%16,h/16,0):=by unfold ed;rw [if_pos hf]
theorem j8 {h:Int} (c:h<0∨207<h):ed h=(0,0,7):=by
 apply kS;cases hf:aW (h%16) (h/16)
 ·rfl
 ·have:=bs hf;omega
theorem nJ {k f:Int} (h:aW k f=false):(eP k f).1=0∧((eP k f).2 != 0)=true:=by
 unfold eP;split
 ·exact ⟨rfl,rfl⟩
 ·rw [if_neg (by simp [h])];exact ⟨rfl,rfl⟩
theorem nK {k f:Int} (h:aW k f=true):eP k f=(16*f+k,0):=eF ⟨(bs h).1,(bs h).2.1⟩ h
theorem ri (h:Int) (w:World) (h1:-9223372036854775808≤h) (h2:h≤9223372036854775807) :
  Calls Try.prog 84 #[.int .i64 h] w fun e w'=>e=.returned (.tuple #[.int .i64 (ed h).1, .int .i64 (ed h).2.1, .int .i64 (ed h).2.2])∧w=w':=by
 by_cases c1:h<0
 ·have HE:=Hz (j8 (.inl c1));go_enter Try.func84,Try.ntmps84;go_wp2_with fail
  go_ret3
  exact ⟨gD HE.out,rfl⟩
 by_cases c2:207<h
 ·have HE:=Hz (j8 (.inr c2));go_enter Try.func84,Try.ntmps84;go_wp2_with fail
  go_ret3
  exact ⟨gD HE.out,rfl⟩
 have ha:=oQ h;cases hf:aW (h%16) (h/16)
 ·have HE:=Hz (kS hf);have hc:=(nJ hf).2;have HF:=Hz hf;clear hf;go_enter Try.func84,Try.ntmps84;go_wp2_with fail;refine (oS (h%16) (h/16) _ (by omega) (by omega)).mono ?_;rintro e w' ⟨rfl,rfl⟩;go_wp2_with fail
  go_ret3
  exact ⟨gD HE.out,rfl⟩
 ·have HE:=Hz (nI hf);have HC:=Hz (nK hf);have HF:=Hz hf;clear hf;go_enter Try.func84,Try.ntmps84;go_wp2_with fail;refine (oS (h%16) (h/16) _ (by omega) (by omega)).mono ?_;rintro e w' ⟨rfl,rfl⟩;rw [HC.out];go_wp2_with fail
  go_ret3
  exact ⟨gD HE.out,rfl⟩
end
section
def eQ (x:Int):Prop:=-9223372036854775808≤x∧x≤9223372036854775807
structure Ar where
 ws:List Int
 nur:Nat
 yng:Nat
 grn:Nat
structure Ar.ok (A:Ar):Prop where
 h1:A.yng≤A.nur
 h2:A.nur≤A.grn
 h3:A.grn≤A.ws.length
 h4:A.ws.length≤1280
 hw:∀ x ∈ A.ws,eQ x
def Ar.aI (A:Ar) (i:Int):Bool:=decide (0≤i) && decide (i<A.yng)
def Ar.aR (A:Ar) (i:Int):Bool:=decide ((A.nur:Int)≤i) && decide (i<A.grn)
def Ar.dJ (A:Ar) (i:Int):Bool:=A.aI i || A.aR i
def Ar.load (A:Ar) (i:Int):Int:=if A.dJ i then A.ws.getD i.toNat 0 else 0
def Ar.store (A:Ar) (i x:Int):Ar:=if A.dJ i then { A with ws:=A.ws.set i.toNat x } else A
def lay (l:List Int) (i:Nat) (m:List Int):List Int:=l.take i ++ m ++ l.drop (i+m.length)
def sd (k f:Int):List Int:=(16*f+k) :: List.replicate f.toNat 2
def Ar.make (A:Ar) (k f:Int):Int × Ar:=
 if aW k f=true∧1+f≤(A.nur:Int)-A.yng then (A.yng, { A with yng:=A.yng+(1+f).toNat,ws:=lay A.ws A.yng (sd k f) }) else (-1,A)
def Ar.aw (A:Ar) (i:Int):Int × Int × Int:=ed (A.load i)
def Ar.whole (A:Ar) (i n:Int):Bool:=(A.aI i && A.aI (i+n)) || (A.aR i && A.aR (i+n))
def Ar.copy (A:Ar) (i:Int):Int × Ar:=
 let n:=(A.aw i).2.1
 if (A.aw i).2.2=0∧A.whole i n=true∧1+n≤(A.ws.length:Int)-A.grn then
  (A.grn, { A with grn:=A.grn+(1+n).toNat,ws:=lay A.ws A.grn ((A.ws.drop i.toNat).take (1+n).toNat) })
 else (-1,A)
theorem Ar.ok.lT {A:Ar} (h:A.ok) {i:Int} (hy:A.aI i=true):0≤i∧i<A.ws.length:=by
 have:=h.h1;have:=h.h2;have:=h.h3;simp [Ar.aI] at hy;omega
theorem Ar.ok.oT {A:Ar} (h:A.ok) {i:Int} (hy:A.aR i=true):0≤i∧i<A.ws.length:=by
 have:=h.h3;simp [Ar.aR] at hy;omega
theorem Ar.ok.lU {A:Ar} (h:A.ok) {i:Int} (hy:A.dJ i=true):0≤i∧i<A.ws.length:=by
 unfold Ar.dJ at hy;rw [Bool.or_eq_true] at hy;rcases hy with hy | hy
 ·exact h.lT hy
 ·exact h.oT hy
theorem Ar.ok.load {A:Ar} (h:A.ok) (i:Int):eQ (A.load i):=by
 unfold Ar.load;split
 ·rename_i hu;have:=h.lU hu;have hi:i.toNat<A.ws.length:=by omega
  rw [Ld,Le hi];exact h.hw _ (List.getElem_mem hi)
 ·unfold eQ;omega
theorem Ar.ok.store {A:Ar} (h:A.ok) (i x:Int) (hx:eQ x):(A.store i x).ok:=by
 unfold Ar.store;split
 ·refine ⟨h.h1,h.h2,by simpa using h.h3,by simpa using h.h4,fun y hy=>?_⟩;rcases List.mem_or_eq_of_mem_set hy with h1 | rfl
  ·exact h.hw y h1
  ·exact hx
 ·exact h
theorem Ar.oU {A:Ar} {i:Int} (h:(A.aw i).2.2=0):A.dJ i=true:=by
 cases hu:A.dJ i
 ·have:A.load i=0:=by unfold Ar.load;rw [hu];simp
  unfold Ar.aw at h;rw [this] at h;exact absurd h (by decide)
 ·rfl
theorem Ar.iM (A:Ar) (i:Int):0≤(A.aw i).2.1∧(A.aw i).2.1≤12:=by
 unfold Ar.aw ed;split
 ·rename_i h;have:=bs h;exact ⟨this.2.2.1,this.2.2.2⟩
 ·decide
def Ar.fits (n o:Int):Bool:=decide (16≤n) && decide (n≤256) && decide (0≤o) && decide (o≤1024)
def Ar.new (n o:Int):Ar:=⟨List.replicate (n+o).toNat 0,n.toNat,0,n.toNat⟩
theorem Ar.fW {n o:Int} (h:Ar.fits n o=true):(Ar.new n o).ok:=by
 simp [Ar.fits] at h;refine ⟨Nat.zero_le _,Nat.le_refl _,?_,?_,fun x hx=>?_⟩
 ·simp [Ar.new];omega
 ·simp [Ar.new];omega
 ·simp [Ar.new] at hx;unfold eQ;omega
def Ar.list (A:Ar):Nat→Int→Int→List Int
 | 0,_,_=>[]
 | n+1,at_,e_=>if at_<e_ then (if (A.aw at_).2.2=0 then at_ :: A.list n (at_+1+(A.aw at_).2.1) e_ else []) else []
def Ar.lV (A:Ar):List Int × List Int:=(A.list 1300 0 A.yng,A.list 1300 A.nur A.grn)
end
section
open Go.RowKit
structure bR (w:World) (p g:Nat) (A:Ar):Prop where
 hp:ah w p [.slice (some ⟨g,0,none⟩) A.ws.length A.ws.length, .int .i64 A.nur, .int .i64 A.yng, .int .i64 A.grn] 120
 hg:ah w g (A.ws.map (Value.int .i64)) 2
 ok:A.ok
theorem bR.ne {w:World} {p g:Nat} {A:Ar} (h:bR w p g A):p≠g:=h.hp.ne h.hg (by decide)
theorem bR.ae {w w':World} {p g:Nat} {A:Ar} {S:Nat→Prop} (h:bR w p g A) (k:aa S w w') (h1:¬ S p) (h2:¬ S g):bR w' p g A:=
 ⟨k.ai h.hp h1,k.ai h.hg h2,h.ok⟩
theorem bR.cells {w:World} {p g:Nat} {A:Ar} (h:bR w p g A) :
  w.cell? ⟨p,0,none⟩=some (.slice (some ⟨g,0,none⟩) A.ws.length A.ws.length)∧w.cell? ⟨p,1,none⟩=some (.int .i64 A.nur)∧w.cell? ⟨p,2,none⟩=some (.int .i64 A.yng)∧w.cell? ⟨p,3,none⟩=some (.int .i64 A.grn):=
 ⟨h.hp.cell 0,h.hp.cell 1,h.hp.cell 2,h.hp.cell 3⟩
theorem bR.word {w:World} {p g:Nat} {A:Ar} (h:bR w p g A) (i:Nat) (hi:i<A.ws.length):w.cell? ⟨g,i,none⟩=some (.int .i64 (A.ws.getD i 0)):=by
 rw [h.hg.cell i,List.getElem?_map,Le hi];simp [List.getD,hi]
structure jj (w:World) (p g:Nat) (w':World) (A:Ar):Prop where
 at_:bR w' p g A
 k:aa (fun b=>b=p∨b=g) w w'
section
variable {p g:Nat} {A:Ar}
theorem dV (i:Int) (w:World) (h:bR w p g A) :
  Calls Try.prog 39 #[.pointer (some ⟨p,0,none⟩), .int .i64 i] w fun e w'=>e=.returned (.bool (A.aI i))∧w=w':=by
 obtain ⟨c0,c1,c2,c3⟩:=h.cells;have pl:=h.hp.lt;have HY:Hid (A.aI i=(decide (0≤i) && decide (i<A.yng))):=rfl;clear h c0 c1 c3;by_cases hi:0≤i
 ·have hd:decide (0≤i)=true:=by simpa using hi
  have HX:=Hz (show A.aI i=decide (i<(A.yng:Int)) by rw [HY.out,hd];rfl);clear HY;go_enter Try.func39,Try.ntmps39;go_wp2_with fail;go_ret;exact ⟨cG HX.out.symm,rfl⟩
 ·have hd:decide (0≤i)=false:=by simpa using hi
  have HX:=Hz (show A.aI i=false by rw [HY.out,hd];rfl);clear HY;go_enter Try.func39,Try.ntmps39;go_wp2_with fail;go_ret;exact ⟨cG HX.out.symm,rfl⟩
theorem jk (i:Int) (w:World) (h:bR w p g A) :
  Calls Try.prog 40 #[.pointer (some ⟨p,0,none⟩), .int .i64 i] w fun e w'=>e=.returned (.bool (A.aR i))∧w=w':=by
 obtain ⟨c0,c1,c2,c3⟩:=h.cells;have pl:=h.hp.lt;have HY:Hid (A.aR i=(decide ((A.nur:Int)≤i) && decide (i<A.grn))):=rfl;clear h c0 c2;by_cases hi:(A.nur:Int)≤i
 ·have hd:decide ((A.nur:Int)≤i)=true:=by simpa using hi
  have HX:=Hz (show A.aR i=decide (i<(A.grn:Int)) by rw [HY.out,hd];rfl);clear HY;go_enter Try.func40,Try.ntmps40;go_wp2_with fail;go_ret;exact ⟨cG HX.out.symm,rfl⟩
 ·have hd:decide ((A.nur:Int)≤i)=false:=by simpa using hi
  have HX:=Hz (show A.aR i=false by rw [HY.out,hd];rfl);clear HY;go_enter Try.func40,Try.ntmps40;go_wp2_with fail;go_ret;exact ⟨cG HX.out.symm,rfl⟩
theorem oV (i:Int) (w:World) (h:bR w p g A) :
  Calls Try.prog 37 #[.pointer (some ⟨p,0,none⟩), .int .i64 i] w fun e w'=>e=.returned (.int .i64 (A.load i))∧w=w':=by
 have H:=Hz h;obtain ⟨c0,-,-,-⟩:=h.cells;have pl:=h.hp.lt;have hok:=h.ok;cases hy:A.aI i
 ·cases ho:A.aR i
  ·have HX:=Hz (show A.load i=0 by unfold Ar.load Ar.dJ;rw [hy,ho];rfl);clear h c0;go_enter Try.func37,Try.ntmps37;go_wp2_with fail;refine (dV i _ H.out).mono ?_;rintro e w1 ⟨rfl,rfl⟩;rw [hy];go_wp2_with fail;refine (jk i _ H.out).mono ?_;rintro e w1 ⟨rfl,rfl⟩;rw [ho];go_wp2_with fail;go_ret;exact ⟨gR HX.out.symm,rfl⟩
  ·have hlt:=h.ok.oT ho;have HX:=Hz (show A.load i=A.ws.getD i.toNat 0 by unfold Ar.load Ar.dJ;rw [hy,ho];rfl);obtain ⟨n,rfl⟩:∃ n:Nat,i=n:=⟨i.toNat,by omega⟩;have c4:=h.word n (by omega);have hlt2:(n:Int)<A.ws.length:=hlt.2;clear h hlt;go_enter Try.func37,Try.ntmps37;go_wp2_with fail;refine (dV n _ H.out).mono ?_;rintro e w1 ⟨rfl,rfl⟩;rw [hy];go_wp2_with fail;refine (jk n _ H.out).mono ?_;rintro e w1 ⟨rfl,rfl⟩;rw [ho];go_wp2_with fail;go_ret;exact ⟨gR (by rw [HX.out];simp),rfl⟩
 ·have hlt:=h.ok.lT hy;have HX:=Hz (show A.load i=A.ws.getD i.toNat 0 by unfold Ar.load Ar.dJ;rw [hy];rfl);obtain ⟨n,rfl⟩:∃ n:Nat,i=n:=⟨i.toNat,by omega⟩;have c4:=h.word n (by omega);have hlt2:(n:Int)<A.ws.length:=hlt.2;clear h hlt;go_enter Try.func37,Try.ntmps37;go_wp2_with fail;refine (dV n _ H.out).mono ?_;rintro e w1 ⟨rfl,rfl⟩;rw [hy];go_wp2_with fail;go_ret;exact ⟨gR (by rw [HX.out];simp),rfl⟩
theorem bR.set {w:World} (h:bR w p g A) {n:Nat} (x:Int) (hx:eQ x) (hu:A.dJ n=true):jj w p g (w.setCell ⟨g,n,none⟩ (.int .i64 x)) (A.store n x):=by
 have hs:A.store n x={ A with ws:=A.ws.set n x }:=by unfold Ar.store;rw [hu];simp
 refine ⟨⟨?_,?_,h.ok.store _ _ hx⟩,(aa.refl _ _).setCell (.inl (.inr rfl)) _⟩
 ·have:=h.hp.ez (a:=⟨g,n,none⟩) h.ne (.int .i64 x);rw [hs];simpa using this
 ·have:=h.hg.aF n (.int .i64 x);rw [hs,List.map_set];exact this
theorem rj (i x:Int) (w:World) (h:bR w p g A) (hx:eQ x) :
  Calls Try.prog 17 #[.pointer (some ⟨p,0,none⟩), .int .i64 i, .int .i64 x] w fun e w'=>e=.returned (.bool (A.dJ i))∧jj w p g w' (A.store i x):=by
 have H:=Hz h;obtain ⟨c0,-,-,-⟩:=h.cells;have pl:=h.hp.lt;have HX:=Hz hx;clear hx;cases hu:A.dJ i
 ·have hyo:=hu;unfold Ar.dJ at hyo;rw [Bool.or_eq_false_iff] at hyo;obtain ⟨hy,ho⟩:=hyo;have HE:=Hz (show A.store i x=A by unfold Ar.store;rw [hu];rfl);clear h hu;go_enter Try.func17,Try.ntmps17;go_wp2_with fail;refine (dV i _ H.out).mono ?_;rintro e w1 ⟨rfl,rfl⟩;rw [hy];go_wp2_with fail;refine (jk i _ H.out).mono ?_;rintro e w1 ⟨rfl,rfl⟩;rw [ho];go_wp2_with fail;go_ret;exact ⟨rfl,by rw [HE.out];exact H.out,aa.refl _ _⟩
 ·have hlt:=h.ok.lU hu;have HU:=Hz hu;obtain ⟨n,rfl⟩:∃ n:Nat,i=n:=⟨i.toNat,by omega⟩;have c4:=h.word n (by omega);have f4:=h.hg.free n;have hlt2:(n:Int)<A.ws.length:=hlt.2;clear h hlt;cases hy:A.aI n
  ·have ho:A.aR n=true:=by
    unfold Ar.dJ at hu;rw [hy] at hu;simpa using hu
   clear hu;go_enter Try.func17,Try.ntmps17;go_wp2_with fail;refine (dV n _ H.out).mono ?_;rintro e w1 ⟨rfl,rfl⟩;rw [hy];go_wp2_with fail;refine (jk n _ H.out).mono ?_;rintro e w1 ⟨rfl,rfl⟩;rw [ho];go_wp2_with fail;go_ret;exact ⟨rfl,H.out.set x HX.out HU.out⟩
  ·clear hu;go_enter Try.func17,Try.ntmps17;go_wp2_with fail;refine (dV n _ H.out).mono ?_;rintro e w1 ⟨rfl,rfl⟩;rw [hy];go_wp2_with fail;go_ret;exact ⟨rfl,H.out.set x HX.out HU.out⟩
theorem m4 (i:Int) (w:World) (h:bR w p g A) :
  Calls Try.prog 32 #[.pointer (some ⟨p,0,none⟩), .int .i64 i] w fun e w'=>e=.returned (.tuple #[.int .i64 (A.aw i).1, .int .i64 (A.aw i).2.1, .int .i64 (A.aw i).2.2])∧w=w':=by
 go_enter Try.func32,Try.ntmps32;go_wp2_with fail;refine (oV i _ h).mono ?_;rintro e w1 ⟨rfl,rfl⟩;have hr:=h.ok.load i;go_wp2_with fail;refine (ri (A.load i) _ hr.1 hr.2).mono ?_;rintro e w1 ⟨rfl,rfl⟩;go_wp2_with fail
 go_ret3
 exact ⟨rfl,rfl⟩
end
end
section
open Go.RowKit
theorem oW {P:Program} {w:World} {o:Oper} {a:Act} {K:Act→World→Prop} (d s:Operand) (t:TypeId)
  (ho:o.op=.call { callee:=.builtin .copy,args:=#[d,s],argTypes:=#[t,t] })
  (e:TypeId) (hu:P.underlying t=some (.slice e)) (hsz:(P.info? e).map (·.size)=some 1)
  (g off dLen dCap:Nat) (ad:Addr) (sLen sCap:Nat) (hd:a.eval d=.slice (some ⟨g,off,none⟩) dLen dCap) (hs:a.eval s=.slice (some ad) sLen sCap)
  (cur:List Value) (hb:ah w g cur e) (cs:List Value) (hn:cs.length=Nat.min sLen dLen)
  (hsrc:∀ j v,cs[j]? = some v→w.cell? (ad.add j)=some v) (hfit:off+cs.length≤cur.length) (h1:∀ v ∈ cs,v.oneCell'=true)
  (h:K (a.put o.dst (goInt cs.length)) (w.setRow g (cur.take off ++ cs ++ cur.drop (off+cs.length)).toArray)):aM P o a w K:=by
 have hrun:=run_copy_row (P:=P) w t t o.type e g off dLen dCap ad sLen sCap cur.toArray e cs hu hsz hb hn hsrc (by simpa using hfit) h1;unfold aM execOp;simp only [ho,resolve,invoke,builtin,Sem.run_bind,Sem.run_pure,Result.andThen_ok,List.map_toArray,List.map_cons,List.map_nil,hd,hs,hrun];exact h
section
variable {p g:Nat} {A:Ar}
end
end
section
open Go.RowKit
theorem lW:(Try.prog.info? 2).map (fun i=>(i.zero,i.size,i.bytes))=some (some (.int .i64 0),1,8):=by kernel_rfl
theorem fX:(Try.prog.info? 3).map (fun i=>(i.zero,i.size,i.bytes))=some (some (.int .i64 0),1,8):=by kernel_rfl
theorem bJ {k:Nat} (h:ag (.slice none 0 0) k):False:=by simp [ag,Value.ownBlock] at h
def pU (w:World) (n o:Int) (e:Ending) (w':World):Prop:=
 ∃ p g,e=.returned (.tuple #[.pointer (some ⟨p,0,none⟩), .agg #[.int .i64 0, .int .i64 0]])∧bR w' p g (Ar.new n o)∧aa (fun _=>False) w w'∧w.heap.size≤p∧w.heap.size≤g
section
variable {p g:Nat} {A:Ar}
theorem rk (n o:Int) (w:World) (h:Ar.fits n o=false) :
  Calls Try.prog 15 #[.int .i64 n, .int .i64 o] w fun e w'=>e=.returned (.tuple #[.pointer none, .agg #[.int .i64 1, .int .i64 (-1)]])∧aa (fun _=>False) w w':=by
 have hc:n<16∨256<n∨o<0∨1024<o:=by
  by_cases h1:16≤n
  ·by_cases h2:n≤256
   ·by_cases h3:0≤o
    ·by_cases h4:o≤1024
     ·simp [Ar.fits,h1,h2,h3,h4] at h
     ·omega
    ·omega
   ·omega
  ·omega
 clear h;by_cases c1:n<16
 ·have d1:decide (n<16)=true:=by simpa using c1
  go_enter Try.func15,Try.ntmps15;go_wp2_with fail;exact bodyPost_ret (v:=.tuple #[.pointer none, .agg #[.int .i64 1, .int .i64 (-1)]]) (by simp [results,Try.results15,go_sem]) rfl ⟨rfl,((aa.refl _ _).alloc _)⟩
 have d1:decide (n<16)=false:=by simpa using c1
 by_cases c2:256<n
 ·have d2:decide (256<n)=true:=by simpa using c2
  go_enter Try.func15,Try.ntmps15;go_wp2_with fail;exact bodyPost_ret (v:=.tuple #[.pointer none, .agg #[.int .i64 1, .int .i64 (-1)]]) (by simp [results,Try.results15,go_sem]) rfl ⟨rfl,((aa.refl _ _).alloc _)⟩
 have d2:decide (256<n)=false:=by simpa using c2
 by_cases c3:o<0
 ·have d3:decide (o<0)=true:=by simpa using c3
  go_enter Try.func15,Try.ntmps15;go_wp2_with fail;exact bodyPost_ret (v:=.tuple #[.pointer none, .agg #[.int .i64 1, .int .i64 (-1)]]) (by simp [results,Try.results15,go_sem]) rfl ⟨rfl,((aa.refl _ _).alloc _)⟩
 have d3:decide (o<0)=false:=by simpa using c3
 have d4:decide (1024<o)=true:=by simp;omega
 go_enter Try.func15,Try.ntmps15;go_wp2_with fail;exact bodyPost_ret (v:=.tuple #[.pointer none, .agg #[.int .i64 1, .int .i64 (-1)]]) (by simp [results,Try.results15,go_sem]) rfl ⟨rfl,((aa.refl _ _).alloc _)⟩
theorem pV (n o:Int) (w:World) (h:Ar.fits n o=true) :
  Calls Try.prog 15 #[.int .i64 n, .int .i64 o] w fun e w'=>pU w n o e w':=by
 have HOK:=Hz (Ar.fW h);simp [Ar.fits] at h;obtain ⟨⟨⟨h1,h2⟩,h3⟩,h4⟩:=h;obtain ⟨a,rfl⟩:∃ a:Nat,n=a:=⟨n.toNat,by omega⟩;obtain ⟨b,rfl⟩:∃ b:Nat,o=b:=⟨o.toNat,by omega⟩;have d1:decide ((a:Int)<16)=false:=by simp;omega
 have d2:decide (256<(a:Int))=false:=by simp;omega
 have d3:decide ((b:Int)<0)=false:=by simp
 have d4:decide (1024<(b:Int))=false:=by simp;omega
 obtain ⟨i0,hi,hz0,hz1,hz2⟩:=info_parts lW;have hmk:=fun (wx:World)=>cB (P:=Try.prog) wx 22 2 i0 (.int .i64 0) Try.underlying22 hi hz0 rfl hz1 (a+b) (by rw [hz2];omega) (by omega);have hcast:((a+b:Nat):Int)=(a:Int)+(b:Int):=by omega
 simp only [hcast] at hmk;have HNEW:=Hz (show Ar.new a b=⟨List.replicate (a+b) 0,a,0,a⟩ by unfold Ar.new;congr 1);clear hi hz0 hz1 hz2 hcast;go_enter Try.func15,Try.ntmps15;go_wp2_with fail;refine bodyPost_ret (v:=.tuple #[.pointer (some ⟨w.heap.size+2,0,none⟩), .agg #[.int .i64 0, .int .i64 0]]) (by simp [results,Try.results15,go_sem]) rfl ⟨w.heap.size+2,w.heap.size+1,rfl,?_,(((aa.refl _ _).alloc _).alloc _).alloc _,by omega,by omega⟩;have hok:=HOK.out;rw [HNEW.out] at hok ⊢;refine ⟨?_,?_,hok⟩
 ·refine ah.newAt _ (by simp) ?_;simp
 ·refine (ah.newAt _ (by simp) ?_).alloc _;simp
end
end
section
abbrev Vl:=Int × Int
abbrev Nd:=Int × List Vl
abbrev Gr:=Int→Nd
abbrev VS:=List Int × List Nd
def eB (n:Nat):Vl:=(3,(n:Int))
def fldM (f:Vl→VS→Vl × VS):List Vl→VS→List Vl × VS
 | [],s=>([],s)
 | v :: l,s=>((f v s).1 :: (fldM f l (f v s).2).1,(fldM f l (f v s).2).2)
def valM (G:Gr):Nat→Vl→VS→Vl × VS
 | 0,v,s=>if v.1=3 then (eB (s.1.idxOf v.2),s) else (v,s)
 | n+1,v,s=>
  if v.1=3 then
   if v.2 ∈ s.1 then (eB (s.1.idxOf v.2),s)
   else
    let r:=fldM (valM G n) (G v.2).2 (s.1 ++ [v.2],s.2 ++ [((G v.2).1,[])])
    (eB s.1.length,(r.2.1,r.2.2.set s.1.length ((G v.2).1,r.1)))
  else (v,s)
theorem cQ (G:Gr) (n:Nat) {v:Vl} (s:VS) (h:v.1≠3):valM G n v s=(v,s):=by
 cases n <;> simp [valM,h]
theorem dQ (G:Gr) (n:Nat) {v:Vl} {s:VS} (h:v.1=3) (hm:v.2 ∈ s.1):valM G n v s=(eB (s.1.idxOf v.2),s):=by
 cases n <;> simp [valM,h,hm]
theorem dt (G:Gr) (n:Nat) {v:Vl} {s:VS} (h:v.1=3) (hm:¬ v.2 ∈ s.1):valM G (n+1) v s =
  (eB s.1.length,((fldM (valM G n) (G v.2).2 (s.1 ++ [v.2],s.2 ++ [((G v.2).1,[])])).2.1,
   (fldM (valM G n) (G v.2).2 (s.1 ++ [v.2],s.2 ++ [((G v.2).1,[])])).2.2.set s.1.length ((G v.2).1,(fldM (valM G n) (G v.2).2 (s.1 ++ [v.2],s.2 ++ [((G v.2).1,[])])).1))):=by
 simp [valM,h,hm]
theorem jJ (f:Vl→VS→Vl × VS):∀ (a b:List Vl) (s:VS),fldM f (a ++ b) s=((fldM f a s).1 ++ (fldM f b (fldM f a s).2).1,(fldM f b (fldM f a s).2).2)
 | [],b,s=>rfl
 | v :: a,b,s=>by simp [fldM,jJ f a b]
theorem jK (f:Vl→VS→Vl × VS):∀ (a:List Vl) (s:VS),(fldM f a s).1.length=a.length
 | [],_=>rfl
 | v :: a,s=>by simp [fldM,jK f a]
def deep:Nat:=5000
def j9 (G:Gr) (roots:List Vl):List Vl × List Nd:=((fldM (valM G deep) roots ([],[])).1,(fldM (valM G deep) roots ([],[])).2.2)
def lX (φ:Int→Int) (v:Vl):Vl:=if v.1=3 then (3,φ v.2) else v
def cC (U met:List Int):Nat:=(U.filter fun x=>!met.contains x).length
end
section
theorem fY {p q:Int→Bool} (h:∀ x,p x=true→q x=true):∀ U:List Int,(U.filter p).length≤(U.filter q).length
 | []=>Nat.le_refl _
 | a :: U=>by
  have ih:=fY h U;simp only [List.filter_cons];split
  ·rename_i h1;rw [if_pos (h a h1)];simpa using ih
  ·split
   ·simp;omega
   ·exact ih
theorem iN {p q:Int→Bool} {x:Int} (h:∀ x,p x=true→q x=true) (h1:p x=false) (h2:q x=true):∀ U:List Int,x ∈ U→(U.filter p).length<(U.filter q).length
 | [],hx=>by cases hx
 | a :: U,hx=>by
  have hle:=fY h U;simp only [List.filter_cons];rcases List.mem_cons.1 hx with rfl | hx
  ·rw [if_neg (by rw [h1];decide),if_pos h2];simp;omega
  ·have ih:=iN h h1 h2 U hx;split
   ·rename_i h3;rw [if_pos (h a h3)];simpa using ih
   ·split
    ·simp;omega
    ·exact ih
theorem m5 (U a b:List Int):cC U (a ++ b)≤cC U a:=
 fY (fun x hx=>by simp at hx ⊢;exact hx.1) U
theorem fe {U met:List Int} {x:Int} (hx:x ∈ U) (hm:¬ x ∈ met):cC U (met ++ [x])<cC U met:=
 iN (fun y hy=>by simp at hy ⊢;exact hy.1) (x:=x) (by simp) (by simpa using hm) U hx
theorem lY {U met:List Int} (h:cC U met=0) {x:Int} (hx:x ∈ U):x ∈ met:=by
 by_cases hm:x ∈ met
 ·exact hm
 ·have:=fe hx hm;omega
theorem m6 (U:List Int):cC U []≤U.length:=List.length_filter_le _ _
theorem ic {f:Vl→VS→Vl × VS} (hf:∀ v s, ∃ m,(f v s).2.1=s.1 ++ m):∀ (l:List Vl) (s:VS), ∃ m,(fldM f l s).2.1=s.1 ++ m
 | [],s=>⟨[],by simp [fldM]⟩
 | v :: l,s=>by
  obtain ⟨m,h⟩:=hf v s;obtain ⟨m',h'⟩:=ic hf l (f v s).2;exact ⟨m ++ m',by simp only [fldM];rw [h',h];simp⟩
theorem ig (G:Gr):∀ (n:Nat) (v:Vl) (s:VS), ∃ m,(valM G n v s).2.1=s.1 ++ m:=by
 intro n
 induction n with
 | zero=>intro v s;refine ⟨[],?_⟩;simp only [valM];split <;> simp
 | succ n ih=>
  intro v s;by_cases h3:v.1=3
  ·by_cases hm:v.2 ∈ s.1
   ·exact ⟨[],by rw [dQ G _ h3 hm];simp⟩
   ·obtain ⟨m,h⟩:=ic ih (G v.2).2 (s.1 ++ [v.2],s.2 ++ [((G v.2).1,[])]);exact ⟨[v.2] ++ m,by rw [dt G n h3 hm];dsimp only;rw [h];simp⟩
  ·exact ⟨[],by rw [cQ G _ _ h3];simp⟩
structure oX (G:Gr) (U:List Int):Prop where
 shut:∀ i ∈ U, ∀ v ∈ (G i).2,v.1=3→v.2 ∈ U
theorem fJ {f:Vl→VS→Vl × VS} (hf:∀ v s,s.2.length=s.1.length→(f v s).2.2.length=(f v s).2.1.length):∀ (l:List Vl) (s:VS),s.2.length=s.1.length→(fldM f l s).2.2.length=(fldM f l s).2.1.length
 | [],s,h=>h
 | v :: l,s,h=>fJ hf l _ (hf v s h)
theorem fK (G:Gr):∀ (n:Nat) (v:Vl) (s:VS),s.2.length=s.1.length→(valM G n v s).2.2.length=(valM G n v s).2.1.length:=by
 intro n
 induction n with
 | zero=>intro v s h;simp only [valM];split <;> exact h
 | succ n ih=>
  intro v s h;by_cases h3:v.1=3
  ·by_cases hm:v.2 ∈ s.1
   ·rw [dQ G _ h3 hm];exact h
   ·rw [dt G n h3 hm];simp only [List.length_set];exact fJ ih _ _ (by simp [h])
  ·rw [cQ G _ _ h3];exact h
theorem fL {f:Vl→VS→Vl × VS} {U:List Int} (hf:∀ v s,(v.1=3→v.2 ∈ U)→(f v s).2.1.length+cC U (f v s).2.1≤s.1.length+cC U s.1) :
  ∀ (l:List Vl) (s:VS),(∀ v ∈ l,v.1=3→v.2 ∈ U)→(fldM f l s).2.1.length+cC U (fldM f l s).2.1≤s.1.length+cC U s.1
 | [],s,_=>Nat.le_refl _
 | v :: l,s,hl=>Nat.le_trans (fL hf l _ (fun u hu=>hl u (by simp [hu]))) (hf v s (hl v (by simp)))
theorem kf {G:Gr} {U:List Int} (I:oX G U):∀ (n:Nat) (v:Vl) (s:VS),(v.1=3→v.2 ∈ U)→(valM G n v s).2.1.length+cC U (valM G n v s).2.1≤s.1.length+cC U s.1:=by
 intro n
 induction n with
 | zero=>intro v s _;simp only [valM];split <;> exact Nat.le_refl _
 | succ n ih=>
  intro v s hv;by_cases h3:v.1=3
  ·by_cases hm:v.2 ∈ s.1
   ·rw [dQ G _ h3 hm];exact Nat.le_refl _
   ·rw [dt G n h3 hm];have:=fL (f:=valM G n) ih (G v.2).2 (s.1 ++ [v.2],s.2 ++ [((G v.2).1,[])]) (I.shut _ (hv h3));have hp:=fe (hv h3) hm;simp only [List.length_append,List.length_cons,List.length_nil] at this;dsimp only;omega
  ·rw [cQ G _ _ h3];exact Nat.le_refl _
theorem ij {f:Vl→VS→Vl × VS} (hl:∀ v s,s.2.length=s.1.length→(f v s).2.2.length=(f v s).2.1.length) (hp:∀ v s, ∃ m,(f v s).2.1=s.1 ++ m)
  (hf:∀ v s,s.2.length=s.1.length→∀ i,i<s.1.length→(f v s).2.2[i]? = s.2[i]?):∀ (l:List Vl) (s:VS),s.2.length=s.1.length→∀ i,i<s.1.length→(fldM f l s).2.2[i]? = s.2[i]?
 | [],s,_,i,_=>rfl
 | v :: l,s,h,i,hi=>by
  obtain ⟨m,hm⟩:=hp v s;have:=ij hl hp hf l (f v s).2 (hl v s h) i (by rw [hm];simp;omega);simp only [fldM];rw [this,hf v s h i hi]
theorem nL (G:Gr):∀ (n:Nat) (v:Vl) (s:VS),s.2.length=s.1.length→∀ i,i<s.1.length→(valM G n v s).2.2[i]? = s.2[i]? := by
 intro n
 induction n with
 | zero=>intro v s _ i _;simp only [valM];split <;> rfl
 | succ n ih=>
  intro v s h i hi;by_cases h3:v.1=3
  ·by_cases hm:v.2 ∈ s.1
   ·rw [dQ G _ h3 hm]
   ·rw [dt G n h3 hm];dsimp only;rw [List.getElem?_set_ne (by omega)];have:=ij (fK G n) (ig G n) ih (G v.2).2 (s.1 ++ [v.2],s.2 ++ [((G v.2).1,[])]) (by simp [h]) i (by simp;omega);rw [this];dsimp only;rw [List.getElem?_append_left (by omega)]
  ·rw [cQ G _ _ h3]
end
section
structure Wo where
 ar:Ar
 cd:List Bool
 rt:List Int
 rg:List (Int × Int)
 wt:List (Int × Int)
def se (e:Int × Int):Prop:=eQ e.1∧eQ e.2
structure Wo.ok (O:Wo):Prop where
 ha:O.ar.ok
 h12:O.rt.length=12
 hR:∀ x ∈ O.rt,eQ x
 hg:∀ e ∈ O.rg,se e
 hw:∀ e ∈ O.wt,se e
 hq:O.rg.length+O.wt.length≤24
 hc:O.cd.length≤1000
def Wo.new (n o:Int):Wo:=⟨Ar.new n o,List.replicate (eN o) false,List.replicate 12 2,[],[]⟩
def Ar.bG (A:Ar) (x:Int):Int × Int × Int × Int:=if x%4=1∧(A.aw (x/4)).2.2=0 then (x/4,(A.aw (x/4)).1,(A.aw (x/4)).2.1,0) else (0,0,0,2)
def Ar.get (A:Ar) (x i:Int):Int × Int:=
 if (A.bG x).2.2.2≠0∨(A.bG x).2.1=5 then (0,2) else if i<0∨(A.bG x).2.2.1≤i then (0,1) else (A.load (x/4+1+i),0)
def Wo.set (O:Wo) (x i y:Int):Int × Wo:=
 if (O.ar.get x i).2≠0 then ((O.ar.get x i).2,O)
 else (0, { O with ar:=O.ar.store (x/4+1+i) y,cd:=if y%4=1∧(O.ar.store (x/4+1+i) y).aI (y/4)=true∧(O.ar.store (x/4+1+i) y).aR (x/4)=true then gB O.ar.nur O.cd (x/4) else O.cd })
def pW (x:Int):Vl:=if x%4=1 then (3,x/4) else ((sa x).1,(sa x).2.1)
def sO (wt:List (Int × Int)) (g:Int):List Int:=(wt.filter fun e=>e.1 == g).map (·.2)
def Ar.fields (A:Ar) (at_:Int):List Int:=(List.range (A.aw at_).2.1.toNat).map fun (j:Nat)=>A.load (at_+1+(j:Int))
def Wo.gr (O:Wo):Gr:=fun i=>((O.ar.aw i).1,(O.ar.fields i).map pW ++ if (O.ar.aw i).1=5 then (sO O.wt (4*i+1)).map pW else [])
theorem Ar.iO (A:Ar) (i x:Int):(A.store i x).nur=A.nur:=by unfold Ar.store;split <;> rfl
end
end Go.Proofs.Ytjifdalflepcoab
