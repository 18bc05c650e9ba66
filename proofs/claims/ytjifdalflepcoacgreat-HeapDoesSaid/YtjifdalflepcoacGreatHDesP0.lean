/-
  Parts of the proof, merged: what the functions do, and plain laws.
-/
import Derived.WalkKit
import Derived.WalkSpells
import Derived.WalkLawsBesides
import Derived.Deep.QuietTactic
import Derived.BigQuiet
import Derived.Lib.Hide
import Derived.ProofKit
import Derived.OpenShut
import Derived.Deep.Slices
import Derived.Deep.Fields
import Derived.ChangeSame
import Derived.Lib.SmallJoins
import Derived.Carry
import Derived.Deep.MidRow
import Derived.Test.YtjifdalflepcoacGreatProg
import Derived.Laws.CopyRow
import Derived.Deep.DeepCutAuto
import Derived.Outline
set_option maxHeartbeats 16000000
set_option maxRecDepth 100000
set_option linter.unusedVariables false
set_option linter.unusedSimpArgs false
namespace Go.Proofs.YtjifdalflepcoacGreat
section
open Go.RowKit
theorem Lz.{u} {α:Type u} {a:α} {l:List α}:(a::l)[0]?=some a:=List.getElem?_cons_zero
theorem Ls.{u} {α:Type u} {a:α} {i:Nat} {l:List α}:(a::l)[i+1]?=l[i]?:=List.getElem?_cons_succ
theorem Ld.{u} {α:Type u} {l:List α} {i:Nat} {a:α}:l.getD i a=l[i]?.getD a:=List.getD_eq_getElem?_getD
theorem Le.{u} {α:Type u} {l:List α} {i:Nat} (h:i<l.length):l[i]?=some l[i]:=List.getElem?_eq_getElem h
theorem Hz {p:Prop} (h:p):Hid p:=Lib.hid h
theorem int_eq {k:IntKind} {a b:Int} (h:a=b):Value.int k a=Value.int k b:=by rw [h]
theorem AK {a b:Value} (h:a=b):Ending.returned a=Ending.returned b:=by rw [h]
theorem cM {k:IntKind} {a b:Int} (h:a=b):Ending.returned (.int k a)=Ending.returned (.int k b):=by rw [h]
theorem dg {a b:Bool} (h:a=b):Ending.returned (.bool a)=Ending.returned (.bool b):=by rw [h]
def ah (w:World) (b:Nat) (c:List Value) (T:TypeId):Prop:=w.heap[b]? = some (.cells c.toArray T (0,0))
theorem ah.lt {w:World} {b:Nat} {c:List Value} {T:TypeId} (h:ah w b c T):b<w.heap.size:=lt_of_block h
theorem ah.cell {w:World} {b:Nat} {c:List Value} {T:TypeId} (h:ah w b c T) (i:Nat):w.cell? ⟨b,i,none⟩=c[i]? := by
 unfold ah at h;simp [World.cell?,h]
theorem ah.free {w:World} {b:Nat} {c:List Value} {T:TypeId} (h:ah w b c T) (i:Nat):w.frozen? ⟨b,i,none⟩=false:=by
 unfold ah at h;simp [World.frozen?,h]
theorem ah.ne {w:World} {a b:Nat} {c d:List Value} {T U:TypeId} (h:ah w a c T) (k:ah w b d U) (hTU:T≠U):a≠b:=by
 rintro rfl;unfold ah at h k;rw [h] at k;simp at k;exact hTU k.2
theorem ah.aO {w:World} {b:Nat} {c:List Value} {T:TypeId} (h:ah w b c T) (i:Nat) (v:Value):ah (w.setCell ⟨b,i,none⟩ v) b (c.set i v) T:=by
 unfold ah at *;simp [World.setCell,Array.getElem?_modify,h]
theorem ah.ew {w:World} {b:Nat} {c:List Value} {T:TypeId} (h:ah w b c T) {a:Addr} (hn:b≠a.block) (v:Value):ah (w.setCell a v) b c T:=by
 unfold ah at *;rw [Below.heap_setCell _ _ _ _ hn];exact h
theorem ah.alloc {w:World} {b:Nat} {c:List Value} {T:TypeId} (h:ah w b c T) (o:Obj):ah (w.alloc o) b c T:=by
 have:=h.lt;unfold ah at *;rw [Below.heap_alloc _ _ _ this];exact h
theorem ah.drew {w:World} {b:Nat} {c:List Value} {T:TypeId} (h:ah w b c T):ah w.drew b c T:=h
theorem ah.new (w:World) (c:List Value) (T:TypeId):ah (w.alloc (.cells c.toArray T)) w.heap.size c T:=by
 unfold ah
 show (w.heap.push _)[w.heap.size]? = _
 simp
theorem ah.newAt {w:World} {b:Nat} {c:List Value} {T:TypeId} (a:Array Value) (hb:b=w.heap.size) (hc:a.toList=c):ah (w.alloc (.cells a T)) b c T:=by
 subst hb;subst hc;simpa using ah.new w a.toList T
structure ab (S:Nat→Prop) (w w':World):Prop where
 os:w'.os=w.os
 tape:w'.tape=w.tape
 output:w'.output=w.output
 size:w.heap.size≤w'.heap.size
 block:∀ k,k<w.heap.size→¬ S k→w'.heap[k]? = w.heap[k]?
theorem ab.refl (S:Nat→Prop) (w:World):ab S w w:=⟨rfl,rfl,rfl,Nat.le_refl _,fun _ _ _=>rfl⟩
theorem Kz (w:World):ab (fun _=>False) w w:=ab.refl _ w
theorem ab.trans {S:Nat→Prop} {a b c:World} (h:ab S a b) (k:ab S b c):ab S a c:=
 ⟨k.os.trans h.os,k.tape.trans h.tape,k.output.trans h.output,Nat.le_trans h.size k.size,
  fun i hi hn=>(k.block i (Nat.lt_of_lt_of_le hi h.size) hn).trans (h.block i hi hn)⟩
theorem ab.mono {S T:Nat→Prop} {w w':World} (h:ab S w w') (hST:∀ k,k<w.heap.size→S k→T k):ab T w w':=
 ⟨h.os,h.tape,h.output,h.size,fun i hi hn=>h.block i hi (fun hs=>hn (hST i hi hs))⟩
theorem ab.ak {S:Nat→Prop} {w w':World} (h:ab S w w') {b:Nat} {c:List Value} {T:TypeId} (k:ah w b c T) (hn:¬ S b):ah w' b c T:=by
 have:=h.block b k.lt hn;unfold ah at *;rw [this];exact k
theorem ab.drew {S:Nat→Prop} {w w':World} (h:ab S w w'):ab S w w'.drew:=⟨h.os,h.tape,h.output,h.size,h.block⟩
theorem ab.alloc {S:Nat→Prop} {w w':World} (h:ab S w w') (o:Obj):ab S w (w'.alloc o):=
 h.trans ⟨rfl,rfl,rfl,by simp,fun k hk _=>Below.heap_alloc _ _ _ hk⟩
theorem ab.setCell {S:Nat→Prop} {w w':World} (h:ab S w w') {p:Addr} (hp:S p.block∨w.heap.size≤p.block) (u:Value):ab S w (w'.setCell p u):=by
 refine ⟨h.os,h.tape,h.output,by simpa using h.size,fun k hk hn=>?_⟩;rw [Below.heap_setCell _ _ _ _ (by rintro rfl;rcases hp with hp | hp;exact hn hp;omega)];exact h.block k hk hn
theorem ab.below {S:Nat→Prop} {w w':World} (h:ab S w w') (hS:∀ k,k<w.heap.size→¬ S k):Below w.heap.size w w':=
 ⟨h.os,h.tape,h.output,h.size,fun k hk=>h.block k hk (hS k hk)⟩
theorem ab.from {S:Nat→Prop} {w₀ w w':World} (h₀:ab S w₀ w) (h:ab (fun k=>S k∨w₀.heap.size≤k) w w'):ab S w₀ w':=
 ⟨h.os.trans h₀.os,h.tape.trans h₀.tape,h.output.trans h₀.output,Nat.le_trans h₀.size h.size,
  fun i hi hn=>(h.block i (Nat.lt_of_lt_of_le hi h₀.size) (by rintro (hs | hs);exact hn hs;omega)).trans (h₀.block i hi hn)⟩
theorem ab.then {S T:Nat→Prop} {w₀ w w':World} (h₀:ab S w₀ w) (h:ab T w w') (hT:∀ k,T k→S k∨w₀.heap.size≤k):ab S w₀ w':=
 h₀.from (h.mono fun k _ hk=>hT k hk)
end
section
open Go.RowKit
theorem ah.setRow {w:World} {b:Nat} {c:List Value} {T:TypeId} (h:ah w b c T) (d:List Value):ah (w.setRow b d.toArray) b d T:=
 setRow_heap w b _ _ T _ h
theorem jU (w:World) (g k:Nat) (cs:Array Value) (h:k≠g):(w.setRow g cs).heap[k]? = w.heap[k]? := by
 unfold World.setRow;simp only [Array.getElem?_modify];rw [if_neg (fun e=>h e.symm)]
theorem size_setRow (w:World) (g:Nat) (cs:Array Value):(w.setRow g cs).heap.size=w.heap.size:=by simp [World.setRow]
theorem ah.lu {w:World} {b:Nat} {c:List Value} {T:TypeId} (h:ah w b c T) {g:Nat} (hn:b≠g) (cs:Array Value):ah (w.setRow g cs) b c T:=by
 unfold ah at *;rw [jU _ _ _ _ hn];exact h
theorem ab.setRow {S:Nat→Prop} {w w':World} (h:ab S w w') {g:Nat} (hp:S g∨w.heap.size≤g) (cs:Array Value):ab S w (w'.setRow g cs):=by
 refine ⟨h.os,h.tape,h.output,by rw [size_setRow];exact h.size,fun k hk hn=>?_⟩;rw [jU _ _ _ _ (by rintro rfl;rcases hp with hp | hp;exact hn hp;omega)];exact h.block k hk hn
theorem rI (z:Value) (hz:z.cells=#[z]) (n:Nat):madeCells z.cells n=(List.replicate n z).toArray:=by
 rw [hz];apply Array.ext
 ·simp [size_madeCells]
 ·intro i h1 h2;simp [madeCells,Nat.mod_one]
theorem rJ (z:Value) (hz:z.cells=#[z]) (n:Nat):Builtin.zeroCells z.cells n=(List.replicate n z).toArray:=by
 rw [hz];apply Array.ext
 ·simp [Builtin.zeroCells]
 ·intro i h1 h2;simp [Builtin.zeroCells,Nat.mod_one]
theorem eH {P:Program} (w:World) (t e:TypeId) (i:TypeInfo) (z:Value) (ht:P.underlying t=some (.slice e)) (hi:P.info? e=some i) (hz:i.zero=some z) (hc:z.cells=#[z]) (hs:i.size=1)
  (n:Nat) (hbytes:i.bytes*n≤281474976710656) (h63:n≤9223372036854775807) :
  (Instr.makeSlice t (.int .i64 n) (.int .i64 n)).run P w=.ok (.slice (some ⟨w.heap.size,0,none⟩) n n) (w.alloc (.cells (List.replicate n z).toArray e)):=by
 have hb':(i.bytes:Int)*(n:Int)≤281474976710656:=by
  have h:((i.bytes*n:Nat):Int)≤281474976710656:=by omega
  rwa [Int.natCast_mul] at h
 rw [run_make (P:=P) w t e i z ht hi hz .i64 .i64 n n (by omega) (Int.le_refl _) hb' (by omega)];simp only [Int.toNat_natCast,hs,Nat.mul_one];rw [rI z hc]
theorem rK {P:Program} (w:World) (t ty e:TypeId) (z:Value) (ht:P.underlying t=some (.slice e)) (hz:∀ w,(zeroValue e).run P w=.ok z w) (hc:z.cells=#[z]) (h1:z.oneCell'=true)
  (g n cap:Nat) (c:List Value) (hg:ah w g c e) (hn:c.length=n) :
  (Builtin.clear_ #[t] ty #[.slice (some ⟨g,0,none⟩) n cap]).run P w=.ok (.tuple #[]) (w.setRow g (List.replicate n z).toArray):=by
 subst hn;cases c with
 | nil=>
  have:w.setRow g (List.replicate 0 z).toArray=w:=by
   have:=setRow_self w g _ e (0,0) hg;simpa using this
  simp only [List.length_nil];rw [this];simp [Builtin.clear_,run_underlying ht]
 | cons a l=>
  have hst:=run_storeCells_at P g 0 e (List.replicate (l.length+1) z) 0 (a :: l).toArray w hg (by simp) (by intro v hv;rw [(List.mem_replicate.1 hv).2];exact h1);simp only [Nat.add_zero,List.take_zero,List.nil_append,Nat.zero_add,List.length_replicate] at hst;simp only [List.length_cons];have hd:List.drop (l.length+1) (a :: l)=[]:=by simp
  simp only [List.toList_toArray,hd,List.append_nil] at hst;simp [Builtin.clear_,run_underlying ht,hz,rJ z hc,hst]
def Rd (w:World) (ao:Option Addr) (xs:List Value):Prop:=
 xs≠[]→∃ g o,ao=some ⟨g,o,none⟩∧g<w.heap.size∧∀ j,j<xs.length→w.cell? ⟨g,o+j,none⟩=xs[j]?
theorem Rd.nil (w:World) (ao:Option Addr):Rd w ao []:=fun h=>(h rfl).elim
theorem Rd.ae {w w':World} {ao:Option Addr} {xs:List Value} {S:Nat→Prop} (h:Rd w ao xs) (k:ab S w w') (hn:∀ a,ao=some a→a.block<w.heap.size→¬ S a.block):Rd w' ao xs:=by
 intro hx;obtain ⟨g,o,rfl,hg,hc⟩:=h hx;refine ⟨g,o,rfl,Nat.lt_of_lt_of_le hg k.size,fun j hj=>?_⟩;rw [←hc j hj];exact World.cell?_of_block (w:=w) (a:=⟨g,o+j,none⟩) (k.block g hg (hn _ rfl hg))
theorem Rd.ak {w:World} {g:Nat} {c:List Value} {T:TypeId} (h:ah w g c T) (o:Nat) (xs:List Value) (hx:(c.drop o).take xs.length=xs):Rd w (some ⟨g,o,none⟩) xs:=by
 intro _;refine ⟨g,o,rfl,h.lt,fun j hj=>?_⟩;rw [h.cell];have:((c.drop o).take xs.length)[j]? = xs[j]? := by rw [hx]
 rw [←this,List.getElem?_take,if_pos hj,List.getElem?_drop]
theorem Rd.int {w:World} {ao:Option Addr} {k:IntKind} {l:List Int} (h:Rd w ao (l.map (Value.int k))) (i:Nat) (hi:i<l.length) :
  ∃ g o,ao=some ⟨g,o,none⟩∧w.cell? ⟨g,o+i,none⟩=some (.int k (l.getD i 0)):=by
 obtain ⟨g,o,rfl,_,hc⟩:=h (by intro e;simp at e;subst e;simp at hi);refine ⟨g,o,rfl,?_⟩;rw [hc i (by simpa using hi)];simp [List.getD,hi]
def ai (v:Value) (k:Nat):Prop:=v.ownBlock=some k
def Sl (w:World) (e size:Nat) (v:Value) (n:Nat) (xs:List Value):Prop:=
 xs.length=n*size∧((v=.slice none 0 0∧n=0) ∨
  ∃ g o cap cur,v=.slice (some ⟨g,o,none⟩) n cap∧ah w g cur e∧n≤cap∧cap≤maxLen∧o+cap*size≤cur.length∧(cur.drop o).take (n*size)=xs)
theorem Sl.nil (w:World) (e size:Nat):Sl w e size (.slice none 0 0) 0 []:=⟨by simp, .inl ⟨rfl,rfl⟩⟩
theorem Sl.own {w:World} {e size:Nat} {v:Value} {n:Nat} {xs:List Value} (h:Sl w e size v n xs) {k:Nat} (hk:ai v k):k<w.heap.size∧∃ cur,ah w k cur e:=by
 obtain ⟨_,⟨rfl,_⟩ | ⟨g,o,cap,cur,rfl,hb,_⟩⟩:=h
 ·simp [ai,Value.ownBlock] at hk
 ·simp [ai,Value.ownBlock] at hk;subst hk;exact ⟨hb.lt,_,hb⟩
theorem Sl.ae {w w':World} {e size:Nat} {v:Value} {n:Nat} {xs:List Value} {S:Nat→Prop} (h:Sl w e size v n xs) (k:ab S w w') (hn:∀ g,ai v g→¬ S g):Sl w' e size v n xs:=by
 refine ⟨h.1,?_⟩;rcases h.2 with h | ⟨g,o,cap,cur,rfl,hb,r⟩
 ·exact .inl h
 ·exact .inr ⟨g,o,cap,cur,rfl,k.ak hb (hn g rfl),r⟩
theorem Sl.rd {w:World} {e size:Nat} {v:Value} {n:Nat} {xs:List Value} (h:Sl w e size v n xs):∃ ao cap,v=.slice ao n cap∧Rd w ao xs∧n≤maxLen∧n≤cap:=by
 obtain ⟨hl,⟨rfl,rfl⟩ | ⟨g,o,cap,cur,rfl,hb,h1,h2,h3,h4⟩⟩:=h
 ·refine ⟨none,0,rfl,?_,Nat.zero_le _,Nat.le_refl _⟩;have:xs=[]:=by simpa using hl
  subst this;exact Rd.nil _ _
 ·exact ⟨_,cap,rfl,Rd.ak hb o xs (by rw [hl];exact h4),Nat.le_trans h1 h2,h1⟩
theorem Sl.len {w:World} {e size:Nat} {v:Value} {n:Nat} {xs:List Value} (h:Sl w e size v n xs):xs.length=n*size:=h.1
theorem eI (g o j:Nat):(⟨g,o,none⟩:Addr).add j=⟨g,o+j,none⟩:=by unfold Addr.add;split <;> simp_all
theorem qF {P:Program} (w:World) (t ty e:TypeId) (i:TypeInfo) (z:Value) (size bytes:Nat) (ht:P.underlying t=some (.slice e)) (hi:P.info? e=some i) (hz:i.zero=some z)
  (hsize:i.size=size) (hby:i.bytes=bytes) (hzs:z.cells.size=size) (hsz:0<size)
  (v:Value) (n:Nat) (xs:List Value) (hs:Sl w e size v n xs)
  (a:Addr) (m c:Nat) (news:List Value) (hl:news.length=m*size) (hnews:∀ j u,news[j]? = some u→w.cell? (a.add j)=some u) (h1:∀ u ∈ news,u.oneCell'=true)
  (h63:n+m≤maxLen) (hbytes:(n+m)*bytes≤140737488355328) :
  ∃ v' w',(Builtin.append_ #[t,t] ty #[v, .slice (some a) m c]).run P w=.ok v' w'∧Sl w' e size v' (n+m) (xs ++ news)∧ab (ai v) w w'∧(∀ k,ai v' k→ai v k∨w.heap.size≤k):=by
 subst hsize;subst hby
 obtain ⟨hxl,hv⟩:=hs;have hlen:(xs ++ news).length=(n+m)*i.size:=by rw [List.length_append,hxl,hl,Nat.add_mul]
 have h63':n+m≤9223372036854775807:=by simpa [maxLen] using h63
 have grown:∀ (aP:Nat) (S:Nat→Prop),
   Sl (w.drew.alloc (.cells (xs.toArray ++ news.toArray ++ Builtin.zeroCells z.cells (grownCap w (n+m) aP e-(n+m))) e)) e i.size (.slice (some ⟨w.heap.size,0,none⟩) (n+m) (grownCap w (n+m) aP e)) (n+m) (xs ++ news) ∧
   ab S w (w.drew.alloc (.cells (xs.toArray ++ news.toArray ++ Builtin.zeroCells z.cells (grownCap w (n+m) aP e-(n+m))) e)):=by
  intro aP S;have hge:=grownCap_ge w (n+m) aP e;have hcm:grownCap w (n+m) aP e≤maxLen:=grownCap_le_maxLen w (n+m) aP e h63;refine ⟨⟨hlen, .inr ⟨w.heap.size,0,_,_,rfl,ah.newAt _ rfl rfl,hge,hcm,?_,?_⟩⟩,((ab.refl _ _).drew).alloc _⟩
  ·simp only [Array.length_toList,Array.size_append,List.size_toArray,size_zeroCells,hzs,hxl,hl,←Nat.add_mul,Nat.zero_add];apply Nat.mul_le_mul_right;omega
  ·simp only [Array.toList_append,List.append_assoc,List.drop_zero];rw [←List.append_assoc,←hlen];exact List.take_left
 rcases hv with ⟨rfl,rfl⟩ | ⟨g,o,cap,cur,rfl,hb,hnc,hcm,hoc,hx⟩
 ·have hx:xs=[]:=List.eq_nil_of_length_eq_zero (by simpa using hxl);subst hx;by_cases hm:m=0
  ·subst hm;have hn:news=[]:=List.eq_nil_of_length_eq_zero (by simpa using hl);subst hn;refine ⟨.slice none 0 0,w,?_,Sl.nil _ _ _,ab.refl _ _,fun k hk=>.inl hk⟩;simp [Builtin.append_,run_underlying ht,sizeOf,typeInfo,hi,Builtin.lenOf,Builtin.firstCells,loadCells,loadCellsFrom]
  ·have hr:=run_append_nil (P:=P) w t ty e i z ht hi hz a m c news hl hnews (by omega) (by omega) (by have hb:=hbytes;simp only [Nat.zero_add] at hb;omega);have hgr:=grown 0 (ai (.slice none 0 0));simp only [Nat.zero_add,List.nil_append,Array.empty_append] at hgr ⊢;refine ⟨_,_,hr,hgr.1,hgr.2,fun k hk=>.inr ?_⟩;simp [ai,Value.ownBlock] at hk;omega
 ·by_cases hr:n+m≤cap
  ·have hf:=run_firstCells_some (P:=P) w i.size m a m c news hl hnews;have hfit:o+n*i.size+news.length≤cur.length:=by
    have:(n+m)*i.size≤cap*i.size:=Nat.mul_le_mul_right _ hr;rw [Nat.add_mul] at this;omega
   have hst:=run_storeCells_at P g (o+n*i.size) e news 0 cur.toArray w hb (by simpa using hfit) h1;simp only [Nat.add_zero] at hst;refine ⟨.slice (some ⟨g,o,none⟩) (n+m) cap,w.setRow g (cur.take (o+n*i.size) ++ news ++ cur.drop (o+n*i.size+news.length)).toArray,?_,?_,?_,?_⟩
   ·simp [Builtin.append_,run_underlying ht,sizeOf,typeInfo,hi,Builtin.lenOf,hr,hf,eI,hst]
   ·refine ⟨hlen, .inr ⟨g,o,cap,_,rfl,ah.setRow hb _,hr,hcm,?_,?_⟩⟩
    ·simp;omega
    ·have h1:(cur.take (o+n*i.size) ++ news ++ cur.drop (o+n*i.size+news.length)).drop o=(cur.drop o).take (n*i.size) ++ news ++ cur.drop (o+n*i.size+news.length):=by
      rw [List.append_assoc,List.drop_append_of_le_length (by simp;omega),List.drop_take,←List.append_assoc];congr 3;omega
     rw [h1,hx,←hlen,List.take_append_of_le_length (by simp),List.take_length]
   ·exact (ab.refl (ai (.slice (some ⟨g,o,none⟩) n cap)) w).setRow (g:=g) (.inl rfl) _
   ·intro k hk;exact .inl hk
  ·have holds:∀ j u,xs[j]? = some u→w.cell? ((⟨g,o,none⟩:Addr).add j)=some u:=by
    intro j u hu;have:=(List.getElem?_eq_some_iff.1 hu).1;rw [eI,hb.cell,←hu,←hx,List.getElem?_take,List.getElem?_drop,if_pos (by omega)]
   have hr:=run_append_grow (P:=P) w t ty e i z ht hi hz ⟨g,o,none⟩ n cap xs hxl holds a m c news hl hnews (by omega) (by omega) (growslice_fits (by omega) hbytes);have hgr:=grown cap (ai (.slice (some ⟨g,o,none⟩) n cap));refine ⟨_,_,hr,hgr.1,hgr.2,fun k hk=>.inr ?_⟩;simp [ai,Value.ownBlock] at hk;omega
theorem bN {P:Program} {w:World} {ops:Array Oper} {rest:List Oper} {o:Oper} {a:Act} {Q:Exit→Act→World→Prop} (hgd:o.guard=none) (s x:Operand) (t:TypeId)
  (ho:o.op=.call { callee:=.builtin .append,args:=#[s,x],argTypes:=#[t,t] })
  (e:TypeId) (i:TypeInfo) (z:Value) (size bytes:Nat) (ht:P.underlying t=some (.slice e)) (hi:P.info? e=some i) (hz:i.zero=some z)
  (hsize:i.size=size) (hby:i.bytes=bytes) (hzs:z.cells.size=size) (hsz:0<size)
  (v:Value) (n:Nat) (xs:List Value) (hs:a.eval s=v) (hown:Sl w e size v n xs)
  (ad:Addr) (m c:Nat) (news:List Value) (hx:a.eval x=.slice (some ad) m c) (hl:news.length=m*size) (hnews:∀ j u,news[j]? = some u→w.cell? (ad.add j)=some u) (h1:∀ u ∈ news,u.oneCell'=true)
  (h63:n+m≤maxLen) (hbytes:(n+m)*bytes≤140737488355328)
  (h:∀ v' w',Sl w' e size v' (n+m) (xs ++ news)→ab (ai v) w w'→(∀ k,ai v' k→ai v k∨w.heap.size≤k)→wpList P ops Q rest (a.put o.dst v') w'):wpList P ops Q (o :: rest) a w:=by
 refine wpList_plain hgd fun _ hK=>?_;obtain ⟨v',w',hr,h2,h3,h4⟩:=qF (P:=P) w t o.type e i z size bytes ht hi hz hsize hby hzs hsz v n xs hown ad m c news hl hnews h1 h63 hbytes;unfold Oper.wp execOp;simp only [ho,resolve,invoke,builtin,Sem.run_bind,Sem.run_pure,Result.andThen_ok,List.map_toArray,List.map_cons,List.map_nil,hs,hx,hr];exact hK _ _ (h v' w' h2 h3 h4)
theorem bW (w:World) (T:TypeId) (a:Array Value):∀ (j:Nat) (u:Value),a.toList[j]? = some u→(w.alloc (.cells a T)).cell? ((⟨w.heap.size,0,none⟩:Addr).add j)=some u:=by
 intro j u h;rw [eI,(ah.newAt (w:=w) (T:=T) a rfl rfl).cell,Nat.zero_add];exact h
theorem rV {P:Program} (w:World) (t ty e:TypeId) (i:TypeInfo) (size:Nat) (ht:P.underlying t=some (.slice e)) (hi:P.info? e=some i) (hsize:i.size=size)
  (g o n cap:Nat) (cur:List Value) (hb:ah w g cur e) (a:Addr) (m c:Nat) (news:List Value) (hl:news.length=m*size) (hnews:∀ j u,news[j]? = some u→w.cell? (a.add j)=some u) (h1:∀ u ∈ news,u.oneCell'=true)
  (hr:n+m≤cap) (hoc:o+cap*size≤cur.length) :
  (Builtin.append_ #[t,t] ty #[.slice (some ⟨g,o,none⟩) n cap, .slice (some a) m c]).run P w=.ok (.slice (some ⟨g,o,none⟩) (n+m) cap) (w.setRow g (cur.take (o+n*size) ++ news ++ cur.drop (o+n*size+news.length)).toArray):=by
 subst hsize;have hf:=run_firstCells_some (P:=P) w i.size m a m c news hl hnews;have hfit:o+n*i.size+news.length≤cur.length:=by
  have:(n+m)*i.size≤cap*i.size:=Nat.mul_le_mul_right _ hr;rw [Nat.add_mul] at this;omega
 have hst:=run_storeCells_at P g (o+n*i.size) e news 0 cur.toArray w hb (by simpa using hfit) h1;simp only [Nat.add_zero] at hst;simp [Builtin.append_,run_underlying ht,sizeOf,typeInfo,hi,Builtin.lenOf,hr,hf,eI,hst]
theorem ko {P:Program} (w:World) (t ty e:TypeId) (z:Value) (ht:P.underlying t=some (.slice e)) (hz:∀ w,(zeroValue e).run P w=.ok z w) (h1:∀ u ∈ z.cells,u.oneCell'=true) (hpos:0<z.cells.size)
  (g o n cap:Nat) (cur:List Value) (hb:ah w g cur e) (hfit:o+n*z.cells.size≤cur.length) :
  ∃ zs:List Value,zs.length=n*z.cells.size∧(Builtin.clear_ #[t] ty #[.slice (some ⟨g,o,none⟩) n cap]).run P w=.ok (.tuple #[]) (w.setRow g (cur.take o ++ zs ++ cur.drop (o+zs.length)).toArray):=by
 refine ⟨(Builtin.zeroCells z.cells n).toList,by simp [size_zeroCells],?_⟩;cases n with
 | zero=>
  have hz0:(Builtin.zeroCells z.cells 0).toList=[]:=by simp [Builtin.zeroCells]
  have:w.setRow g (cur.take o ++ [] ++ cur.drop (o+0)).toArray=w:=by
   have:=setRow_self w g _ e (0,0) hb;simpa using this
  rw [hz0];simp only [List.length_nil];rw [this];simp [Builtin.clear_,run_underlying ht]
 | succ n=>
  have hlen:(Builtin.zeroCells z.cells (n+1)).toList.length=(n+1)*z.cells.size:=by simp [size_zeroCells]
  have hst:=run_storeCells_at P g o e (Builtin.zeroCells z.cells (n+1)).toList 0 cur.toArray w hb (by simp only [Nat.add_zero,hlen,List.size_toArray];exact hfit) (by
   intro v hv;simp only [Builtin.zeroCells,Array.toList_map,List.mem_map] at hv;obtain ⟨i,_,rfl⟩:=hv;apply h1;have hm:i%z.cells.size<z.cells.size:=Nat.mod_lt _ hpos;rw [getElem!_pos z.cells _ hm]
   exact Array.getElem_mem hm)
  simp only [Nat.add_zero] at hst;simp [Builtin.clear_,run_underlying ht,hz,hst]
end
section
open Go.RowKit Go.ChangeShapes Go.WideShapes Go.Deep Go.Joins
theorem Rd.xQ {w:World} {a:Addr} {xs:List Value} (h:∀ j u,xs[j]? = some u→w.cell? (a.add j)=some u):Rd w (some a) xs:=by
 intro hx;have hl:0<xs.length:=by cases xs with | nil=>exact (hx rfl).elim | cons _ _=>simp
 obtain ⟨b,off,spot⟩:=a;have h0:=h 0 xs[0] (by simp [hl]);have hspot:spot=none:=by simpa [Addr.add] using World.cell?_spot h0
 subst hspot;refine ⟨b,off,rfl,World.block_lt_of_cell? _ _ h0,fun j hj=>?_⟩;have:=h j xs[j] (by simp [hj]);rw [eI] at this;rw [this];simp [hj]
theorem i3 {n:Int} (h:(Lit.int .i64 n).wf=true):-9223372036854775808≤n∧n≤9223372036854775807:=by
 simp [Lit.wf,IntKind.min,IntKind.max,IntKind.bits,IntKind.signed] at h;omega
section
variable {H:Type} {enc:TypeId × Value→H} {P:Program} {w:World} {base:Nat} {spare:Nat→Bool} {held:Bool}
def zo (c:Value):Prop:=∃ n:Int,c=.int .i64 n∧-9223372036854775808≤n∧n≤9223372036854775807
def Flat (enc:TypeId × Value→H) (P:Program) (w:World) (base:Nat) (spare:Nat→Bool) (held:Bool) (e:TypeId):Prop:=
 ∀ fuel cs x,DataW.trod enc P w base spare held fuel e cs=some x→cs.length=P.cellsOf e∧∀ c ∈ cs,zo c
theorem dQ {e:TypeId} (he:P.underlying e=some (.int .i64)) (hC:P.cellsOf e=1):Flat enc P w base spare held e:=by
 intro fuel cs x h;obtain ⟨n,rfl,_,hn⟩:=DataW.trod_int he h;refine ⟨by simp [hC],?_⟩;intro c hc;simp at hc;subst hc;exact ⟨n,rfl,i3 hn⟩
def AL (P:Program) (e:TypeId) (fs:Array Field):Bool:=
 (List.range (P.cellsOf e)).all fun j=>fs.toList.any fun f=>decide (f.offset≤j) && decide (j<f.offset+P.cellsOf f.type)
theorem oh {e:TypeId} {fs:Array Field} (he:P.underlying e=some (.struct fs)) (hcov:AL P e fs=true)
  (hf:∀ (i:Nat) (f:Field),fs[i]? = some f→Flat enc P w base spare held f.type):Flat enc P w base spare held e:=by
 intro fuel cs x h;obtain ⟨ys,n,_,hy,hlen,hyl,hg⟩:=DataW.trod_struct he h;refine ⟨hlen,?_⟩;intro c hc;obtain ⟨j,hj,rfl⟩:=List.getElem_of_mem hc;have hcj:=List.all_eq_true.1 hcov j (List.mem_range.2 (by omega));obtain ⟨f,hfm,hfj⟩:=List.any_eq_true.1 hcj;simp only [Bool.and_eq_true,decide_eq_true_eq] at hfj;obtain ⟨i,hi,hif⟩:=List.getElem_of_mem hfm;have hfi:fs[i]? = some f:=by
  rw [←Array.getElem?_toList,Le hi,hif]
 have h1:=hg i f hfi;have hys:ys[i]? = some (ys[i]'(by rw [hyl];simpa using hi)):=Le _;rw [hys] at h1;have h2:=(hf i f hfi n _ _ h1).2;refine h2 _ ?_;rw [List.mem_iff_getElem?];refine ⟨j-f.offset,?_⟩;rw [List.getElem?_take,if_pos (by omega),List.getElem?_drop,show f.offset+(j-f.offset)=j by omega];simp [hj]
theorem BJ {t e:TypeId} {k:Nat} (ht:P.underlying t=some (.array k e)) (hC:P.cellsOf t=k*P.cellsOf e) (he:Flat enc P w base spare held e):Flat enc P w base spare held t:=by
 intro fuel cs x h;obtain ⟨ys,n,_,hy,hlen,hyl,hg⟩:=DataW.trod_array ht h;refine ⟨hlen,?_⟩;intro c hc;obtain ⟨j,hj,rfl⟩:=List.getElem_of_mem hc;rw [hlen,hC] at hj;have hpos:0<P.cellsOf e:=by
  apply Nat.pos_of_ne_zero;intro h0;rw [h0] at hj;simp at hj
 have hi:j/P.cellsOf e<k:=Nat.div_lt_of_lt_mul (by rwa [Nat.mul_comm] at hj);have h1:=hg _ hi;have hys:ys[j/P.cellsOf e]? = some (ys[j/P.cellsOf e]'(by omega)):=Le _;rw [hys] at h1;have h2:=(he n _ _ h1).2;refine h2 _ ?_;rw [List.mem_iff_getElem?];refine ⟨j%P.cellsOf e,?_⟩;rw [List.getElem?_take,if_pos (Nat.mod_lt _ hpos),List.getElem?_drop,Nat.mul_comm,Nat.div_add_mod];simp
theorem rW {r:Reach} {b0:Nat} {t e:TypeId} {C:Nat} {v:Value} {d:DataW H} {p:List MemPlace} (ht:P.underlying t=some (.slice e)) (hC:P.cellsOf e=C) (hpos:0<C) (he:Flat enc P w base spare held e)
  (hv:Value.okWide P w r b0 t v) (h:DataW.Trod enc P w base spare held t v d p) :
  ∃ (ao:Option Addr) (cap n:Nat) (xs:List Value),v=.slice ao n cap∧xs.length=n*C∧Rd w ao xs∧n≤maxLen∧∀ c ∈ xs,zo c:=by
 obtain ⟨a0,len0,cap0,rfl⟩:=okWide_slice ht hv;obtain ⟨fuel,hf⟩:=h;rcases open_slice ht hf with ⟨hcs,_⟩ | ⟨a,l,c,m,n,D,Pl,hcs,_,hl,hm,hmm,_,hi⟩
 ·simp [Value.cells] at hcs;obtain ⟨rfl,rfl,rfl⟩:=hcs;exact ⟨none,0,0,[],rfl,by simp,Rd.nil _ _,Nat.zero_le _,by simp⟩
 ·simp [Value.cells] at hcs;obtain ⟨rfl,rfl,rfl⟩:=hcs;have hle:len0≤m:=by rw [hmm];split <;> omega
  have key:∀ j,j<len0*C→∃ u,w.cell? (a.add j)=some u∧zo u:=by
   intro j hj;have hi':j/C<len0:=Nat.div_lt_of_lt_mul (by rwa [Nat.mul_comm] at hj);obtain ⟨cs',h1,h2⟩:=hi (j/C) (by omega);obtain ⟨hlen,hall⟩:=he _ _ _ h2;obtain ⟨_,hcl,hat⟩:=World.cells?_some h1;have hr:j%C<cs'.length:=by rw [hlen,hC];exact Nat.mod_lt _ hpos
   have:=hat (j%C) (by rw [hC];exact Nat.mod_lt _ hpos);rw [Go.Deep.add_add,hC,Nat.mul_comm,Nat.div_add_mod,Le hr] at this;exact ⟨_,this,hall _ (List.getElem_mem hr)⟩
  refine ⟨some a,cap0,len0,(List.range (len0*C)).map fun j=>(w.cell? (a.add j)).getD undef,rfl,by simp,?_,Nat.le_trans hl hm,?_⟩
  ·refine Rd.xQ ?_;intro j u hu;simp only [List.getElem?_map,Option.map_eq_some_iff] at hu;obtain ⟨j',hj',rfl⟩:=hu;have hjl:=(List.getElem?_eq_some_iff.1 hj').1;have:j=j':=by
    rw [Le hjl] at hj';simpa using hj'
   subst this;obtain ⟨u,hu,_⟩:=key j (by simpa using hjl);rw [hu];rfl
  ·intro c hc;simp only [List.mem_map,List.mem_range] at hc;obtain ⟨j,hj,rfl⟩:=hc;obtain ⟨u,hu,h64⟩:=key j hj;rw [hu];exact h64
theorem lR:∀ {xs:List Value},(∀ c ∈ xs,zo c)→∃ l:List Int,xs=l.map (Value.int .i64)∧∀ x ∈ l,-9223372036854775808≤x∧x≤9223372036854775807
 | [],_=>⟨[],rfl,by simp⟩
 | c :: xs,h=>by
  obtain ⟨n,rfl,hn⟩:=h c (by simp);obtain ⟨l,rfl,hl⟩:=lR (xs:=xs) (fun c hc=>h c (List.mem_cons_of_mem _ hc));exact ⟨n :: l,rfl,by intro x hx;rcases List.mem_cons.1 hx with rfl | hx;exact hn;exact hl x hx⟩
theorem Ct {r:Reach} {b0:Nat} {t e:TypeId} {v:Value} {d:DataW H} {p:List MemPlace} (ht:P.underlying t=some (.slice e)) (he:P.underlying e=some (.int .i64)) (hC:P.cellsOf e=1)
  (hv:Value.okWide P w r b0 t v) (h:DataW.Trod enc P w base spare held t v d p) :
  ∃ (ao:Option Addr) (cap:Nat) (l:List Int),v=.slice ao l.length cap∧Rd w ao (l.map (Value.int .i64))∧l.length≤maxLen∧∀ x ∈ l,-9223372036854775808≤x∧x≤9223372036854775807:=by
 obtain ⟨ao,cap,n,xs,rfl,hl,hr,hm,h64⟩:=rW ht hC (by omega) (dQ he hC) hv h;obtain ⟨l,rfl,hb⟩:=lR h64;simp at hl;subst hl;exact ⟨ao,cap,l,rfl,hr,hm,hb⟩
theorem Cv {r:Reach} {b0:Nat} {t:TypeId} {f0 f1:Field} {v:Value} {d:DataW H} {p:List MemPlace} (hs:P.underlying t=some (.struct #[f0,f1])) (hone:oneCellFields P #[f0,f1]=true) (hC:P.cellsOf t=2)
  (h0:P.underlying f0.type=some (.int .i64)) (h1:P.underlying f1.type=some (.int .i64))
  (hv:Value.okWide P w r b0 t v) (h:DataW.Trod enc P w base spare held t v d p) :
  ∃ a:Int × Int,v=.agg #[.int .i64 a.1, .int .i64 a.2]∧(-9223372036854775808≤a.1∧a.1≤9223372036854775807)∧-9223372036854775808≤a.2∧a.2≤9223372036854775807:=by
 obtain ⟨c0,c1,y0,y1,m,rfl,_,_,hy0,hy1⟩:=open_agg2 hs hone hC hv h;obtain ⟨a,ea,_,wa⟩:=DataW.trod_int h0 hy0;obtain ⟨b,eb,_,wb⟩:=DataW.trod_int h1 hy1;simp at ea eb;subst ea;subst eb;exact ⟨(a,b),rfl,i3 wa,i3 wb⟩
end
end
section
open Go.RowKit Go.ChangeShapes Go.WideShapes Go.ChangeAt Go.Joins
section
variable {H:Type} {enc:TypeId × Value→H} {P:Program} {w:World} {base:Nat} {spare:Nat→Bool} {held:Bool}
theorem xR {r:Reach} {b0:Nat} {t e:TypeId} {C:Nat} {v:Value} {d:DataW H} {p:List MemPlace} (ht:P.underlying t=some (.slice e)) (hC:P.cellsOf e=C) (hpos:0<C) (he:Flat enc P w base spare held e)
  (hv:Value.okWide P w r b0 t v) (h:DataW.Trod enc P w base spare held t v d p) :
  ∃ (ao:Option Addr) (cap m:Nat) (l:List Int),v=.slice ao m cap∧Rd w ao (l.map (Value.int .i64))∧l.length=m*C∧m≤maxLen∧∀ x ∈ l,-9223372036854775808≤x∧x≤9223372036854775807:=by
 obtain ⟨ao,cap,n,xs,rfl,hl,hr,hm,h64⟩:=rW ht hC hpos he hv h;obtain ⟨l,rfl,hb⟩:=lR h64;exact ⟨ao,cap,n,l,rfl,hr,by simpa using hl,hm,hb⟩
theorem Cw {r:Reach} {b n c:Nat} {t e:TypeId} {a:Addr} (ht:P.underlying t=some (.slice e)) (hv:Value.okWide P w r b t (.slice (some a) n c)):a.block<w.heap.size:=by
 simp only [Value.okWide,ht,Cell.okWide,Cell.ok] at hv;obtain ⟨_,_,_,_,row,cells,hs,_⟩:=hv;unfold World.shape? at hs;cases hb:w.heap[a.block]? with
 | none=>rw [hb] at hs;simp at hs
 | some o=>exact (Array.getElem?_eq_some_iff.1 hb).1
end
end
section
open Go.RowKit
section
variable {P:Program} {ops:Array Oper} {md:Region.Mode} {G:World→Prop}
def gUpon (P:Program) (o:Oper) (a:Act) (K:Act→World→Prop):Result Next→Prop
 | .ok (.value v) w'=>K (a.put o.dst v) w'
 | .ok .skip w'=>K (a.put o.dst undef) w'
 | .ok (.enter f args) w'=>Calls P f args w' fun
   | .returned v,w''=>K (a.put o.dst v) w''
   | _,_=>False
 | _=>False
def aC (P:Program) (o:Oper) (a:Act) (w:World) (K:Act→World→Prop):Prop:=gUpon P o a K ((execOp a.eval o).run P w)
def gOp (P:Program) (ops:Array Oper) (i:Nat) (K:Act→World→Prop) (a:Act) (w:World):Prop:=
 match ops[i]? with
 | none=>K a w
 | some o=>if Region.wanted o (yielded ops a.tmps)=true then aC P o a w K else K (a.put o.dst undef) w
theorem wg {o:Oper} {a:Act} {w:World} {K K':Act→World→Prop} (h:∀ a w,K a w→K' a w) (hh:aC P o a w K):aC P o a w K':=by
 unfold aC at *;generalize (execOp a.eval o).run P w=r at *;cases r with
 | ok n w'=>
  cases n <;> simp only [gUpon] at hh ⊢
  case value u=>exact h _ _ hh
  case skip=>exact h _ _ hh
  case enter f args=>exact hh.mono fun e w'' hq=>by cases e <;> first | exact h _ _ hq | exact hq
 | halt x w'=>exact hh
theorem ey {i:Nat} {a:Act} {w:World} {K K':Act→World→Prop} (h:∀ a w,K a w→K' a w) (hh:gOp P ops i K a w):gOp P ops i K' a w:=by
 unfold gOp at *;split
 ·rename_i ho;simp only [ho] at hh;exact h _ _ hh
 ·rename_i o ho;simp only [ho] at hh;split
  ·rename_i hw;rw [if_pos hw] at hh;exact wg h hh
  ·rename_i hw;rw [if_neg hw] at hh;exact h _ _ hh
theorem ou {i:Nat} {a:Act} {w:World} {K:Act→World→Prop} {Q':Exit→Act→World→Prop} (hh:gOp P ops i K a w):wpOp P ops Q' i K a w:=by
 unfold gOp at hh;unfold wpOp;split
 ·rename_i ho;simp only [ho] at hh;exact hh
 ·rename_i o ho;simp only [ho] at hh;split
  ·rename_i hw;rw [if_pos hw] at hh;left;unfold aC at hh;unfold Oper.wp;generalize (execOp a.eval o).run P w=r at *;cases r with
   | ok n w'=>
    cases n <;> simp only [gUpon] at hh <;> simp only [Oper.upon]
    case value u=>exact hh
    case skip=>exact hh
    case enter f args=>exact hh.mono fun e w'' hq=>by cases e <;> first | exact hq | exact hq.elim
   | halt x w'=>exact hh.elim
  ·rename_i hw;rw [if_neg hw] at hh;exact hh
def waitsT (md:Region.Mode) (ops:Array Oper):Nat→Nat→Nat→Bool
 | 0,_,_=>false
 | n+1,j,i=>match ops[j]? with
  | none=>false
  | some o=>o.after.any fun e=>Region.binds md e && (e.on == i || waitsT md ops n e.on i)
def jq (md:Region.Mode) (ops:Array Oper) (listed:Array Bool):Prop:=
 ∀ (j:Nat) (o:Oper),ops[j]? = some o→listed.getD j false=true→∀ e ∈ o.after,Region.binds md e=true→listed.getD e.on false=true
theorem jq.waits {listed:Array Bool} (h:jq md ops listed):∀ (n j i:Nat),(∃ o,ops[j]? = some o∧∀ e ∈ o.after,Region.binds md e=true→listed.getD e.on false=true)→waitsT md ops n j i=true→listed.getD i false=true
 | 0,_,_,_,hw=>by simp [waitsT] at hw
 | n+1,j,i,⟨o,ho,hall⟩,hw=>by
  simp only [waitsT,ho,Array.any_eq_true] at hw;obtain ⟨k,hk,hb⟩:=hw;simp only [Bool.and_eq_true,Bool.or_eq_true,beq_iff_eq] at hb;have he:=hall _ (Array.getElem_mem hk) hb.1;rcases hb.2 with e | e
  ·rw [←e];exact he
  ·refine h.waits n _ i ?_ e;cases hx:ops[(o.after[k]).on]? with
   | none=>exfalso;cases n <;> simp [waitsT,hx] at e
   | some ox=>exact ⟨ox,rfl,h _ ox hx he⟩
theorem jq.next {listed:Array Bool} (h:jq md ops listed) {i:Nat} (hi:i ∈ Region.ready md ops listed):jq md ops (listed.setIfInBounds i true):=by
 intro j o ho hl e he hb;by_cases hji:j=i
 ·subst hji;obtain ⟨_,o',ho',hall⟩:=mem_ready.1 hi;rw [ho] at ho';cases ho';exact getD_set_true (hall e he hb)
 ·rw [getD_set_ne false (Ne.symm hji)] at hl;exact getD_set_true (h j o ho hl e he hb)
def mR (P:Program) (md:Region.Mode) (ops:Array Oper) (z:List Nat) (G:World→Prop) (Q:Act→World→Prop):Nat→Array Bool→Act→World→Prop
 | 0,listed,a,w=>Region.ready md ops listed=[]∧Q a w
 | f+1,listed,a,w=>
  (Region.ready md ops listed=[]→Q a w) ∧
  ∀ i ∈ Region.ready md ops listed,gOp P ops i (fun a' w'=>(z.contains i=false→G w')∧mR P md ops z G Q f (listed.setIfInBounds i true) a' w') a w
theorem pE {z:List Nat} {Q:Act→World→Prop} {Q':Exit→Act→World→Prop} (hQ:∀ a w,Q a w→Q' .normal a w):∀ (f:Nat) (listed:Array Bool) (a:Act) (w:World),
  mR P md ops z G Q f listed a w→wpAny P md ops Q' f listed a w
 | 0,_,_,_,h=>⟨h.1,hQ _ _ h.2⟩
 | f+1,_,_,_,h=>⟨fun h0=>hQ _ _ (h.1 h0),fun i hi=>ou (ey (fun a w ⟨_,hk⟩=>pE hQ f _ a w hk) (h.2 i hi))⟩
def ck (v:Value) (w:World) (r:Result Next):Prop:=r=.ok (.value v) w
theorem ck.mk (v:Value) (w:World):ck v w (.ok (.value v) w):=rfl
def eG (P:Program) (ops:Array Oper) (G:World→Prop) (o:Oper) (v:Value) (a:Act):Prop:=
 (Region.wanted o (yielded ops a.tmps)=true∧∀ w,G w→ck v w ((execOp a.eval o).run P w))∨(Region.wanted o (yielded ops a.tmps)=false∧v=undef)
theorem eG.gOp {i:Nat} {o:Oper} {v:Value} {a:Act} {w:World} (hi:ops[i]? = some o) (hy:eG P ops G o v a) (hw:G w) {K:Act→World→Prop} (h:K (a.put o.dst v) w):gOp P ops i K a w:=by
 unfold Go.Proofs.YtjifdalflepcoacGreat.gOp;simp only [hi];rcases hy with ⟨hwt,hv⟩ | ⟨hwt,rfl⟩
 ·rw [if_pos hwt];unfold aC;rw [show (execOp a.eval o).run P w=_ from hv w hw];exact h
 ·rw [if_neg (by simp [hwt])];exact h
theorem ui {j:Nat} {oi oj:Oper} {v:Value} (hj:ops[j]? = some oj) (hap:oi.apart ops oj=true)
  (hsi:∀ cs b,oi.op≠.select cs b) (hsj:∀ cs b,oj.op≠.select cs b) {K:Act→World→Prop} {a:Act} {w:World}
  (hy:eG P ops G oi v a) (h:gOp P ops j K (a.put oi.dst v) w) :
  gOp P ops j (fun a' w'=>eG P ops G oi v a'∧K (a'.put oi.dst v) w') a w:=by
 obtain ⟨h1,h2,h3⟩:=Oper.apart_spec hap;have ae:∀ u,eG P ops G oi v (a.put oj.dst u):=fun u=>by
  unfold eG at *;rw [execOp_put oi hsi a oj.dst u h3,wanted_put oi a oj.dst u h3];exact hy
 have com:∀ u,(a.put oi.dst v).put oj.dst u=(a.put oj.dst u).put oi.dst v:=fun u=>Act.put_comm a v u h2;unfold gOp at *;simp only [hj] at *;rw [wanted_put oj a oi.dst v h1] at h;split
 ·rename_i hw;rw [if_pos hw] at h;unfold aC at *;rw [execOp_put oj hsj a oi.dst v h1] at h;generalize (execOp a.eval oj).run P w=r at *;cases r with
  | ok n w'=>
   cases n <;> simp only [gUpon] at h ⊢
   case value u=>exact ⟨ae u,by rw [←com];exact h⟩
   case skip=>exact ⟨ae undef,by rw [←com];exact h⟩
   case enter f args=>
    refine h.mono fun e w'' hq=>?_;cases e with
    | returned u=>exact ⟨ae u,by rw [←com];exact hq⟩
    | panicked _=>exact hq
    | outgrown=>exact hq
  | halt x w'=>exact h
 ·rename_i hw;rw [if_neg hw] at h;exact ⟨ae undef,by rw [←com];exact h⟩
theorem rX {z:List Nat} {Q:Act→World→Prop} {i:Nat} {oi:Oper} {v:Value} (hi:ops[i]? = some oi) (hsel:∀ (j:Nat) (o:Oper) cs b,ops[j]? = some o→o.op≠.select cs b)
  (hz:∀ j,z.contains j=true→waitsT md ops ops.size j i=true) :
  ∀ (fuel:Nat) (listed:Array Bool) (a:Act) (w:World),G w→jq md ops listed →
   (∀ j oj,ops[j]? = some oj→j≠i→listed.getD j true=false→(∀ e ∈ oj.after,Region.binds md e=true→e.on≠i)→oi.apart ops oj=true) →
   i ∈ Region.ready md ops listed→eG P ops G oi v a →
   mR P md ops z G Q fuel (listed.setIfInBounds i true) (a.put oi.dst v) w→mR P md ops z G Q (fuel+1) listed a w:=by
 intro fuel
 induction fuel with
 | zero=>
  intro listed a w hG hS _ hr hy H;refine ⟨fun h=>(by rw [h] at hr;cases hr),fun j hj=>?_⟩;by_cases hji:j=i
  ·subst hji;exact hy.gOp hi hG ⟨fun _=>hG,H⟩
  ·have:=ready_mono hj hji;rw [H.1] at this;cases this
 | succ fuel ih=>
  intro listed a w hG hS hfree hr hy H;refine ⟨fun h=>(by rw [h] at hr;cases hr),fun j hj=>?_⟩;by_cases hji:j=i
  ·subst hji;exact hy.gOp hi hG ⟨fun _=>hG,H⟩
  ·have h1:=H.2 j (ready_mono hj hji);obtain ⟨hjun,oj,hoj,hall⟩:=mem_ready.1 hj;have hin:listed.getD i false=false:=by
    have h0:=(mem_ready.1 hr).1;rcases Nat.lt_or_ge i listed.size with h' | h'
    ·simp [h'] at h0 ⊢;exact h0
    ·simp [Array.getElem?_eq_none h'] at h0
   have hjz:z.contains j=false:=by
    cases hc:z.contains j
    ·rfl
    ·have:=hS.waits _ j i ⟨oj,hoj,hall⟩ (hz j hc);rw [hin] at this;cases this
   have hnot:∀ e ∈ oj.after,Region.binds md e=true→e.on≠i:=fun e he hb heq=>by
    have h1:=hall e he hb;rw [heq,hin] at h1;cases h1
   have h2:=ui hoj (hfree j oj hoj hji hjun hnot) (fun cs b=>hsel i oi cs b hi) (fun cs b=>hsel j oj cs b hoj) hy h1;have hfree':∀ k ok,ops[k]? = some ok→k≠i→(listed.setIfInBounds j true).getD k true=false →
     (∀ e ∈ ok.after,Region.binds md e=true→e.on≠i)→oi.apart ops ok=true:=fun k ok hk hki hun hno=>by
    refine hfree k ok hk hki ?_ hno;by_cases hjk:j=k
    ·subst hjk;exact hjun
    ·rw [getD_set_ne true hjk] at hun;exact hun
   refine ey (fun a' w' ⟨hy',hG',h3⟩=>?_) h2;refine ⟨fun _=>hG' hjz,ih (listed.setIfInBounds j true) a' w' (hG' hjz) (hS.next hj) hfree' (ready_mono hr (Ne.symm hji)) hy' ?_⟩;rw [Array.setIfInBounds_comm _ _ hji];exact h3
def rY (ord:List (Nat × Nat)):List Nat:=(ord.filter fun p=>p.2 == 2).map (·.1)
def ordB (md:Region.Mode) (ops:Array Oper) (z:List Nat):List (Nat × Nat)→Array Bool→Bool
 | [],listed=>(Region.ready md ops listed).isEmpty
 | (i,k) :: r,listed=>
  (if k=0 then (Region.ready md ops listed).contains i && Region.free md ops listed i && z.all fun j=>waitsT md ops ops.size j i
  else Region.ready md ops listed == [i] && (k == 1 || z.contains i && r.all fun p=>p.2 != 0)) && ordB md ops z r (listed.setIfInBounds i true)
def i4 (P:Program) (ops:Array Oper) (z:List Nat) (G:World→Prop) (Q:Act→World→Prop):List (Nat × Nat)→Act→World→Prop
 | [],a,w=>Q a w
 | (i,0) :: r,a,w=>∃ o v,ops[i]? = some o∧eG P ops G o v a∧i4 P ops z G Q r (a.put o.dst v) w
 | (i,k+1) :: r,a,w=>gOp P ops i (fun a' w'=>(k=0→G w')∧i4 P ops z G Q r a' w') a w
theorem jW {z:List Nat} {Q:Act→World→Prop} (hs:Region.noSelect ops=true):∀ (ord:List (Nat × Nat)) (listed:Array Bool) (a:Act) (w:World),jq md ops listed→(G w∨∀ p ∈ ord,p.2≠0) →
  ordB md ops z ord listed=true→i4 P ops z G Q ord a w→mR P md ops z G Q ord.length listed a w
 | [],_,_,_,_,_,hB,h=>⟨by simpa [ordB] using hB,h⟩
 | (i,0) :: r,listed,a,w,hS,hG,hB,h=>by
  have hG:G w:=by
   rcases hG with h | h
   ·exact h
   ·exact absurd rfl (h (i,0) (by simp))
  simp only [ordB,if_true,Bool.and_eq_true] at hB;obtain ⟨⟨⟨hr,hf⟩,hz⟩,hB'⟩:=hB;obtain ⟨o,v,ho,hy,hn⟩:=h;have hr':i ∈ Region.ready md ops listed:=by simpa using hr
  refine rX ho (Region.noSelect_spec hs) (fun j hj=>?_) r.length listed a w hG hS (Region.free_spec ho hf) hr' hy ?_
  ·have:=List.all_eq_true.1 hz j (by simpa using hj);exact this
  ·exact jW hs r _ _ w (hS.next hr') (.inl hG) hB' hn
 | (i,k+1) :: r,listed,a,w,hS,hG,hB,h=>by
  have h0:¬ (k+1=0):=by omega
  simp only [ordB,if_neg h0,Bool.and_eq_true] at hB;obtain ⟨⟨hr,hk⟩,hB'⟩:=hB;have hr1:Region.ready md ops listed=[i]:=by simpa using hr
  have hin:i ∈ Region.ready md ops listed:=by rw [hr1];simp
  refine ⟨(fun h0=>by rw [hr1] at h0;cases h0),fun j hj=>?_⟩;rw [hr1] at hj;obtain rfl:j=i:=by simpa using hj
  refine ey (fun a' w' ⟨hG',hn⟩=>?_) h;by_cases hk0:k=0
  ·exact ⟨fun _=>hG' hk0,jW hs r _ a' w' (hS.next hin) (.inl (hG' hk0)) hB' hn⟩
  ·have hk1:(k+1 == 1)=false:=by simpa using hk0
   simp only [hk1,Bool.false_or,Bool.and_eq_true] at hk;refine ⟨(fun hz=>by rw [hk.1] at hz;cases hz),jW hs r _ a' w' (hS.next hin) (.inr fun p hp=>?_) hB' hn⟩;have:=List.all_eq_true.1 hk.2 p hp;simpa using this
theorem dM {id:Nat} {Q:Exit→Act→World→Prop} {a:Act} {w:World} {l:List Oper} (ord:List (Nat × Nat)) (G:World→Prop) (hm:P.follows .mixedOrders=true)
  (hB:(Region.noSelect l.toArray && ord.length == l.toArray.size && ordB .any l.toArray (rY ord) ord (Array.replicate l.toArray.size false))=true) (hG:G w.drew)
  (h:i4 P l.toArray (rY ord) G (fun a' w'=>Q .normal a' w') ord a w.drew):(Code.region id l.toArray true).wp P Q a w:=by
 simp only [Bool.and_eq_true,beq_iff_eq] at hB;obtain ⟨⟨hs,hl⟩,hB⟩:=hB;refine wp_region_any hm ?_;have hshut:jq .any l.toArray (Array.replicate l.toArray.size false):=by
  intro j o ho hx;have h0:(Array.replicate l.toArray.size false).getD j false=false:=by
   rw [Array.getD_eq_getD_getElem?,Array.getElem?_replicate];split <;> rfl
  rw [h0] at hx;cases hx
 have:=jW (z:=rY ord) (md:=.any) hs ord _ a w.drew hshut (.inl hG) hB h;rw [hl] at this;exact pE (fun _ _ h=>h) _ _ _ _ this
theorem cz {z:List Nat} {Q:Act→World→Prop} {i:Nat} {r:List (Nat × Nat)} {a:Act} {w:World} {o:Oper} (ho:ops[i]? = some o) (hw:Region.wanted o (yielded ops a.tmps)=true) (v:Value)
  (h:∀ w',G w'→ck v w' ((execOp a.eval o).run P w')) (hn:∀ K:Act→Prop,(∀ a',i4 P ops z G Q r a' w→K a')→K (a.put o.dst v)):i4 P ops z G Q ((i,0) :: r) a w:=
 ⟨o,v,ho, .inl ⟨hw,h⟩,hn _ (fun _ h=>h)⟩
theorem cT {z:List Nat} {Q:Act→World→Prop} {i:Nat} {r:List (Nat × Nat)} {a:Act} {w:World} {o:Oper} (ho:ops[i]? = some o) (hw:Region.wanted o (yielded ops a.tmps)=true)
  (h:∀ K:Act→World→Prop,(∀ a' w',G w'→i4 P ops z G Q r a' w'→K a' w')→aC P o a w K):i4 P ops z G Q ((i,1) :: r) a w:=by
 show gOp P ops i _ a w
 unfold gOp;simp only [ho,hw,if_true];exact h _ (fun a' w' hg hk=>⟨fun _=>hg,hk⟩)
theorem pF {z:List Nat} {Q:Act→World→Prop} {i:Nat} {r:List (Nat × Nat)} {a:Act} {w:World} {o:Oper} (ho:ops[i]? = some o) (hw:Region.wanted o (yielded ops a.tmps)=true)
  (h:∀ K:Act→World→Prop,(∀ a' w',i4 P ops z G Q r a' w'→K a' w')→aC P o a w K):i4 P ops z G Q ((i,2) :: r) a w:=by
 show gOp P ops i _ a w
 unfold gOp;simp only [ho,hw,if_true];exact h _ (fun a' w' hk=>⟨(fun h=>by cases h),hk⟩)
theorem fR {z:List Nat} {Q:Act→World→Prop} {a:Act} {w:World} (h:Q a w):i4 P ops z G Q [] a w:=h
theorem fU {w:World} {o:Oper} {a:Act} {K:Act→World→Prop} (s x:Operand) (t:TypeId)
  (ho:o.op=.call { callee:=.builtin .append,args:=#[s,x],argTypes:=#[t,t] })
  (e:TypeId) (i:TypeInfo) (z:Value) (size bytes:Nat) (ht:P.underlying t=some (.slice e)) (hi:P.info? e=some i) (hz:i.zero=some z)
  (hsize:i.size=size) (hby:i.bytes=bytes) (hzs:z.cells.size=size) (hsz:0<size)
  (v:Value) (n:Nat) (xs:List Value) (hs:a.eval s=v) (hown:Sl w e size v n xs)
  (ad:Addr) (m c:Nat) (news:List Value) (hx:a.eval x=.slice (some ad) m c) (hl:news.length=m*size) (hnews:∀ j u,news[j]? = some u→w.cell? (ad.add j)=some u) (h1:∀ u ∈ news,u.oneCell'=true)
  (h63:n+m≤maxLen) (hbytes:(n+m)*bytes≤140737488355328)
  (h:∀ v' w',Sl w' e size v' (n+m) (xs ++ news)→ab (ai v) w w'→(∀ k,ai v' k→ai v k∨w.heap.size≤k)→K (a.put o.dst v') w'):aC P o a w K:=by
 obtain ⟨v',w',hr,h2,h3,h4⟩:=qF (P:=P) w t o.type e i z size bytes ht hi hz hsize hby hzs hsz v n xs hown ad m c news hl hnews h1 h63 hbytes;unfold aC execOp;simp only [ho,resolve,invoke,builtin,Sem.run_bind,Sem.run_pure,Result.andThen_ok,List.map_toArray,List.map_cons,List.map_nil,hs,hx,hr];exact h v' w' h2 h3 h4
theorem mN {w:World} {o:Oper} {a:Act} {K:Act→World→Prop} (s x:Operand) (t:TypeId)
  (ho:o.op=.call { callee:=.builtin .append,args:=#[s,x],argTypes:=#[t,t] })
  (e:TypeId) (i:TypeInfo) (size:Nat) (ht:P.underlying t=some (.slice e)) (hi:P.info? e=some i) (hsize:i.size=size)
  (g off n cap:Nat) (cur:List Value) (hs:a.eval s=.slice (some ⟨g,off,none⟩) n cap) (hb:ah w g cur e)
  (ad:Addr) (m c:Nat) (news:List Value) (hx:a.eval x=.slice (some ad) m c) (hl:news.length=m*size) (hnews:∀ j u,news[j]? = some u→w.cell? (ad.add j)=some u) (h1:∀ u ∈ news,u.oneCell'=true)
  (hr:n+m≤cap) (hoc:off+cap*size≤cur.length)
  (h:K (a.put o.dst (.slice (some ⟨g,off,none⟩) (n+m) cap)) (w.setRow g (cur.take (off+n*size) ++ news ++ cur.drop (off+n*size+news.length)).toArray)):aC P o a w K:=by
 have hr:=rV (P:=P) w t o.type e i size ht hi hsize g off n cap cur hb ad m c news hl hnews h1 hr hoc;unfold aC execOp;simp only [ho,resolve,invoke,builtin,Sem.run_bind,Sem.run_pure,Result.andThen_ok,List.map_toArray,List.map_cons,List.map_nil,hs,hx,hr];exact h
end
end
section
open Go.RowKit
inductive RO where
 | fin
 | pure (i:Nat) (r:RO)
 | free (i:Nat) (r:RO)
 | base (i:Nat) (r:RO)
 | run (i:Nat) (r:RO)
 | two (i:Nat) (r:RO) (j:Nat) (s:RO)
 | swi (z:List Nat) (r:RO)
namespace RO
def size:RO→Nat
 | fin=>0
 | pure _ r=>r.size+1
 | free _ r=>r.size+1
 | base _ r=>r.size+1
 | run _ r=>r.size+1
 | two _ r _ _=>r.size+1
 | swi _ r=>r.size
def gh:RO→Bool
 | fin=>true
 | pure _ _=>false
 | free _ r=>r.gh
 | base _ r=>r.gh
 | run _ r=>r.gh
 | two _ r _ s=>r.gh && s.gh
 | swi _ _=>true
end RO
section
variable {P:Program} {ops:Array Oper} {md:Region.Mode}
def roB (md:Region.Mode) (ops:Array Oper):RO→List Nat→Array Bool→Bool
 | .fin,_,listed=>(Region.ready md ops listed).isEmpty
 | .pure i r,z,listed=>(Region.ready md ops listed).contains i && Region.free md ops listed i && (z.all fun j=>waitsT md ops ops.size j i) && roB md ops r z (listed.setIfInBounds i true)
 | .free i r,z,listed=>(Region.ready md ops listed).contains i && Region.free md ops listed i && roB md ops r z (listed.setIfInBounds i true)
 | .base i r,z,listed=>(Region.ready md ops listed).contains i && Region.free md ops listed i && roB md ops r z (listed.setIfInBounds i true)
 | .run i r,z,listed=>Region.ready md ops listed == [i] && (!z.contains i || r.gh) && roB md ops r z (listed.setIfInBounds i true)
 | .two i r j s,z,listed=>Region.ready md ops listed == [i,j] && (!z.contains i || r.gh) && (!z.contains j || s.gh) && r.size == s.size && roB md ops r z (listed.setIfInBounds i true) && roB md ops s z (listed.setIfInBounds j true)
 | .swi z' r,z,listed=>((List.range ops.size).all fun k=>listed.getD k true || z.contains k) && roB md ops r z' listed
def gW (P:Program) (ops:Array Oper) (B:World→Prop) (Q:Act→World→Prop):RO→List Nat→(World→Prop)→Act→World→Prop
 | .fin,_,_,a,w=>Q a w
 | .pure i r,z,G,a,w=>∃ o v,ops[i]? = some o∧eG P ops G o v a∧gW P ops B Q r z G (a.put o.dst v) w
 | .free i r,z,G,a,w=>∃ o v,ops[i]? = some o∧eG P ops (fun _=>True) o v a∧gW P ops B Q r z G (a.put o.dst v) w
 | .base i r,z,G,a,w=>∃ o v,ops[i]? = some o∧eG P ops B o v a∧gW P ops B Q r z G (a.put o.dst v) w
 | .run i r,z,G,a,w=>gOp P ops i (fun a' w'=>(B w→B w')∧(z.contains i=false→G w→G w')∧gW P ops B Q r z G a' w') a w
 | .two i r j s,z,G,a,w=>gOp P ops i (fun a' w'=>(B w→B w')∧(z.contains i=false→G w→G w')∧gW P ops B Q r z G a' w') a w∧gOp P ops j (fun a' w'=>(B w→B w')∧(z.contains j=false→G w→G w')∧gW P ops B Q s z G a' w') a w
 | .swi z' r,_,_,a,w=>∃ G':World→Prop,G' w∧gW P ops B Q r z' G' a w
def wpAnyH (P:Program) (md:Region.Mode) (ops:Array Oper) (B:World→Prop) (z:List Nat) (G:World→Prop) (Q:Act→World→Prop):Nat→Array Bool→Act→World→Prop
 | 0,listed,a,w=>Region.ready md ops listed=[]∧Q a w
 | f+1,listed,a,w=>
  (Region.ready md ops listed=[]→Q a w) ∧
  ∀ i ∈ Region.ready md ops listed,gOp P ops i (fun a' w'=>(B w→B w')∧(z.contains i=false→G w→G w')∧wpAnyH P md ops B z G Q f (listed.setIfInBounds i true) a' w') a w
variable {B:World→Prop}
theorem lS {z:List Nat} {G:World→Prop} {Q:Act→World→Prop} {Q':Exit→Act→World→Prop} (hQ:∀ a w,Q a w→Q' .normal a w):∀ (f:Nat) (listed:Array Bool) (a:Act) (w:World),
  wpAnyH P md ops B z G Q f listed a w→wpAny P md ops Q' f listed a w
 | 0,_,_,_,h=>⟨h.1,hQ _ _ h.2⟩
 | f+1,_,_,_,h=>⟨fun h0=>hQ _ _ (h.1 h0),fun i hi=>ou (ey (fun a w ⟨_,_,hk⟩=>lS hQ f _ a w hk) (h.2 i hi))⟩
theorem xS {listed:Array Bool} {i:Nat} (hi:i ∈ Region.ready md ops listed):i<ops.size∧listed.getD i true=false:=by
 obtain ⟨hun,oi,hoi,_⟩:=mem_ready.1 hi;refine ⟨?_,hun⟩;rcases Nat.lt_or_ge i ops.size with h | h
 ·exact h
 ·rw [Array.getElem?_eq_none h] at hoi;cases hoi
theorem pG {z z':List Nat} {G G':World→Prop} {Q:Act→World→Prop}:∀ (fuel:Nat) (listed:Array Bool) (a:Act) (w:World),
  (∀ k,k<ops.size→listed.getD k true=false→z.contains k=true)→wpAnyH P md ops B z' G' Q fuel listed a w→wpAnyH P md ops B z G Q fuel listed a w
 | 0,_,_,_,_,h=>h
 | f+1,listed,a,w,hz,h=>⟨h.1,fun i hi=>ey (fun a' w' ⟨hb,_,hk⟩=>by
   obtain ⟨hil,hun⟩:=xS hi;refine ⟨hb,fun hc=>?_,pG f _ a' w' (fun k hk hl=>?_) hk⟩
   ·have:=hz i hil hun;rw [hc] at this;cases this
   ·by_cases hki:i=k
    ·subst hki;exact hz i hil hun
    ·rw [getD_set_ne true hki] at hl;exact hz k hk hl) (h.2 i hi)⟩
theorem wpAnyH_first {G Gy:World→Prop} {z:List Nat} {Q:Act→World→Prop} {i:Nat} {oi:Oper} {v:Value} (hi:ops[i]? = some oi) (hsel:∀ (j:Nat) (o:Oper) cs b,ops[j]? = some o→o.op≠.select cs b)
  (hz:(Gy=G∧∀ j,z.contains j=true→waitsT md ops ops.size j i=true)∨Gy=B∨∀ w,Gy w) :
  ∀ (fuel:Nat) (listed:Array Bool) (a:Act) (w:World),Gy w→jq md ops listed →
   (∀ j oj,ops[j]? = some oj→j≠i→listed.getD j true=false→(∀ e ∈ oj.after,Region.binds md e=true→e.on≠i)→oi.apart ops oj=true) →
   i ∈ Region.ready md ops listed→eG P ops Gy oi v a →
   wpAnyH P md ops B z G Q fuel (listed.setIfInBounds i true) (a.put oi.dst v) w→wpAnyH P md ops B z G Q (fuel+1) listed a w:=by
 intro fuel
 induction fuel with
 | zero=>
  intro listed a w hG hS _ hr hy H;refine ⟨fun h=>(by rw [h] at hr;cases hr),fun j hj=>?_⟩;by_cases hji:j=i
  ·subst hji;exact hy.gOp hi hG ⟨fun h=>h,fun _ h=>h,H⟩
  ·have:=ready_mono hj hji;rw [H.1] at this;cases this
 | succ fuel ih=>
  intro listed a w hG hS hfree hr hy H;refine ⟨fun h=>(by rw [h] at hr;cases hr),fun j hj=>?_⟩;by_cases hji:j=i
  ·subst hji;exact hy.gOp hi hG ⟨fun h=>h,fun _ h=>h,H⟩
  ·have h1:=H.2 j (ready_mono hj hji);obtain ⟨hjun,oj,hoj,hall⟩:=mem_ready.1 hj;have hin:listed.getD i false=false:=by
    have h0:=(mem_ready.1 hr).1;rcases Nat.lt_or_ge i listed.size with h' | h'
    ·simp [h'] at h0 ⊢;exact h0
    ·simp [Array.getElem?_eq_none h'] at h0
   have hnot:∀ e ∈ oj.after,Region.binds md e=true→e.on≠i:=fun e he hb heq=>by
    have h1:=hall e he hb;rw [heq,hin] at h1;cases h1
   have h2:=ui hoj (hfree j oj hoj hji hjun hnot) (fun cs b=>hsel i oi cs b hi) (fun cs b=>hsel j oj cs b hoj) hy h1;have hfree':∀ k ok,ops[k]? = some ok→k≠i→(listed.setIfInBounds j true).getD k true=false →
     (∀ e ∈ ok.after,Region.binds md e=true→e.on≠i)→oi.apart ops ok=true:=fun k ok hk hki hun hno=>by
    refine hfree k ok hk hki ?_ hno;by_cases hjk:j=k
    ·subst hjk;exact hjun
    ·rw [getD_set_ne true hjk] at hun;exact hun
   refine ey (fun a' w' ⟨hy',hB',hG',h3⟩=>?_) h2;refine ⟨hB',hG',ih (listed.setIfInBounds j true) a' w' ?_ (hS.next hj) hfree' (ready_mono hr (Ne.symm hji)) hy' ?_⟩
   ·rcases hz with ⟨rfl,hzz⟩ | rfl | h2
    ·refine hG' ?_ hG;cases hc:z.contains j
     ·rfl
     ·have:=hS.waits _ j i ⟨oj,hoj,hall⟩ (hzz j hc);rw [hin] at this;cases this
    ·exact hB' hG
    ·exact h2 w'
   ·rw [Array.setIfInBounds_comm _ _ hji];exact h3
theorem dY {Q:Act→World→Prop} (hs:Region.noSelect ops=true):∀ (t:RO) (z:List Nat) (G:World→Prop) (listed:Array Bool) (a:Act) (w:World),jq md ops listed→B w→(G w∨t.gh=true) →
  roB md ops t z listed=true→gW P ops B Q t z G a w→wpAnyH P md ops B z G Q t.size listed a w
 | .fin,_,_,_,_,_,_,_,_,hB,h=>⟨by simpa [roB] using hB,h⟩
 | .pure i r,z,G,listed,a,w,hS,hb,hG,hB,h=>by
  have hG:G w:=by
   rcases hG with h | h
   ·exact h
   ·simp [RO.gh] at h
  simp only [roB,Bool.and_eq_true] at hB;obtain ⟨⟨⟨hr,hf⟩,hz⟩,hB'⟩:=hB;obtain ⟨o,v,ho,hy,hn⟩:=h;have hr':i ∈ Region.ready md ops listed:=by simpa using hr
  refine wpAnyH_first ho (Region.noSelect_spec hs) (.inl ⟨rfl,fun j hj=>?_⟩) r.size listed a w hG hS (Region.free_spec ho hf) hr' hy ?_
  ·exact List.all_eq_true.1 hz j (by simpa using hj)
  ·exact dY hs r z G _ _ w (hS.next hr') hb (.inl hG) hB' hn
 | .free i r,z,G,listed,a,w,hS,hb,hG,hB,h=>by
  simp only [roB,Bool.and_eq_true] at hB;obtain ⟨⟨hr,hf⟩,hB'⟩:=hB;obtain ⟨o,v,ho,hy,hn⟩:=h;have hr':i ∈ Region.ready md ops listed:=by simpa using hr
  refine wpAnyH_first ho (Region.noSelect_spec hs) (.inr (.inr fun _=>trivial)) r.size listed a w trivial hS (Region.free_spec ho hf) hr' hy ?_;exact dY hs r z G _ _ w (hS.next hr') hb hG hB' hn
 | .base i r,z,G,listed,a,w,hS,hb,hG,hB,h=>by
  simp only [roB,Bool.and_eq_true] at hB;obtain ⟨⟨hr,hf⟩,hB'⟩:=hB;obtain ⟨o,v,ho,hy,hn⟩:=h;have hr':i ∈ Region.ready md ops listed:=by simpa using hr
  refine wpAnyH_first ho (Region.noSelect_spec hs) (.inr (.inl rfl)) r.size listed a w hb hS (Region.free_spec ho hf) hr' hy ?_;exact dY hs r z G _ _ w (hS.next hr') hb hG hB' hn
 | .run i r,z,G,listed,a,w,hS,hb,hG,hB,h=>by
  simp only [roB,Bool.and_eq_true] at hB;obtain ⟨⟨hr,hk⟩,hB'⟩:=hB;have hr1:Region.ready md ops listed=[i]:=by simpa using hr
  have hin:i ∈ Region.ready md ops listed:=by rw [hr1];simp
  refine ⟨(fun h0=>by rw [hr1] at h0;cases h0),fun j hj=>?_⟩;rw [hr1] at hj;obtain rfl:j=i:=by simpa using hj
  refine ey (fun a' w' ⟨hb',hG',hn⟩=>⟨hb',hG',dY hs r z G _ a' w' (hS.next hin) (hb' hb) ?_ hB' hn⟩) h;cases hc:z.contains j
  ·rcases hG with hG | hG
   ·exact .inl (hG' hc hG)
   ·exact .inr hG
  ·rw [hc] at hk;exact .inr (by simpa using hk)
 | .two i r k s,z,G,listed,a,w,hS,hb,hG,hB,h=>by
  simp only [roB,Bool.and_eq_true,beq_iff_eq] at hB;obtain ⟨⟨⟨⟨⟨hr,hki⟩,hkk⟩,hsz⟩,pH⟩,rZ⟩:=hB;have hr1:Region.ready md ops listed=[i,k]:=by simpa using hr
  refine ⟨(fun h0=>by rw [hr1] at h0;cases h0),fun j hj=>?_⟩;have hin:j ∈ Region.ready md ops listed:=hj;rw [hr1] at hj;have hj:j=i∨j=k:=by simpa using hj
  rcases hj with rfl | rfl
  ·refine ey (fun a' w' ⟨hb',hG',hn⟩=>⟨hb',hG',dY hs r z G _ a' w' (hS.next hin) (hb' hb) ?_ pH hn⟩) h.1;cases hc:z.contains j
   ·rcases hG with hG | hG
    ·exact .inl (hG' hc hG)
    ·simp only [RO.gh,Bool.and_eq_true] at hG;exact .inr hG.1
   ·rw [hc] at hki;exact .inr (by simpa using hki)
  ·show gOp P ops j (fun a' w'=>(B w→B w')∧(z.contains j=false→G w→G w')∧wpAnyH P md ops B z G Q r.size (listed.setIfInBounds j true) a' w') a w
   rw [hsz];refine ey (fun a' w' ⟨hb',hG',hn⟩=>⟨hb',hG',dY hs s z G _ a' w' (hS.next hin) (hb' hb) ?_ rZ hn⟩) h.2;cases hc:z.contains j
   ·rcases hG with hG | hG
    ·exact .inl (hG' hc hG)
    ·simp only [RO.gh,Bool.and_eq_true] at hG;exact .inr hG.2
   ·rw [hc] at hkk;exact .inr (by simpa using hkk)
 | .swi z' r,z,G,listed,a,w,hS,hb,hG,hB,h=>by
  simp only [roB,Bool.and_eq_true] at hB;obtain ⟨hz,hB'⟩:=hB;obtain ⟨G',hG',hn⟩:=h;refine pG _ listed a w (fun k hk hl=>?_) (dY hs r z' G' listed a w hS hb (.inl hG') hB' hn);have:=List.all_eq_true.1 hz k (List.mem_range.2 hk);rw [hl] at this;simpa using this
structure di (P:Program) (ops:Array Oper) (B:World→Prop) (Q:Act→World→Prop) (t:RO) (z:List Nat) (G:World→Prop) (a:Act) (w:World):Prop where
 raw:gW P ops B Q t z G a w
abbrev kr (P:Program) (ops:Array Oper) (Q:Act→World→Prop) (t:RO) (z:List Nat) (G:World→Prop) (a:Act) (w:World):Prop:=di P ops (fun _=>True) Q t z G a w
theorem rL {id:Nat} {Q:Exit→Act→World→Prop} {a:Act} {w:World} {l:List Oper} (t:RO) (z:List Nat) (B G:World→Prop) (hm:P.follows .mixedOrders=true)
  (hB:(Region.noSelect l.toArray && t.size == l.toArray.size && roB .any l.toArray t z (Array.replicate l.toArray.size false))=true) (hb:B w.drew) (hG:G w.drew)
  (h:di P l.toArray B (fun a' w'=>Q .normal a' w') t z G a w.drew):(Code.region id l.toArray true).wp P Q a w:=by
 simp only [Bool.and_eq_true,beq_iff_eq] at hB;obtain ⟨⟨hs,hl⟩,hB⟩:=hB;refine wp_region_any hm ?_;have hshut:jq .any l.toArray (Array.replicate l.toArray.size false):=by
  intro j o ho hx;have h0:(Array.replicate l.toArray.size false).getD j false=false:=by
   rw [Array.getD_eq_getD_getElem?,Array.getElem?_replicate];split <;> rfl
  rw [h0] at hx;cases hx
 have:=dY (md:=.any) hs t z G _ a w.drew hshut hb (.inl hG) hB h.raw;rw [hl] at this;exact lS (fun _ _ h=>h) _ _ _ _ this
theorem ay {id:Nat} {Q:Exit→Act→World→Prop} {a:Act} {w:World} {l:List Oper} (t:RO) (z:List Nat) (G:World→Prop) (hm:P.follows .mixedOrders=true)
  (hB:(Region.noSelect l.toArray && t.size == l.toArray.size && roB .any l.toArray t z (Array.replicate l.toArray.size false))=true) (hG:G w.drew)
  (h:kr P l.toArray (fun a' w'=>Q .normal a' w') t z G a w.drew):(Code.region id l.toArray true).wp P Q a w:=rL t z _ G hm hB trivial hG h
section
variable {z:List Nat} {G:World→Prop} {Q:Act→World→Prop} {i:Nat} {r:RO} {a:Act} {w:World} {o:Oper}
theorem jH (ho:ops[i]? = some o) (hw:Region.wanted o (yielded ops a.tmps)=true) (v:Value)
  (h:∀ w',G w'→ck v w' ((execOp a.eval o).run P w')) (hn:∀ K:Act→Prop,(∀ a',di P ops B Q r z G a' w→K a')→K (a.put o.dst v)):di P ops B Q (.pure i r) z G a w:=
 ⟨⟨o,v,ho, .inl ⟨hw,h⟩,hn (fun a'=>gW P ops B Q r z G a' w) (fun _ h=>h.raw)⟩⟩
theorem gL (ho:ops[i]? = some o) (hw:Region.wanted o (yielded ops a.tmps)=true) (v:Value)
  (h:∀ w',ck v w' ((execOp a.eval o).run P w')) (hn:∀ K:Act→Prop,(∀ a',di P ops B Q r z G a' w→K a')→K (a.put o.dst v)):di P ops B Q (.free i r) z G a w:=
 ⟨⟨o,v,ho, .inl ⟨hw,fun w' _=>h w'⟩,hn (fun a'=>gW P ops B Q r z G a' w) (fun _ h=>h.raw)⟩⟩
theorem aE (ho:ops[i]? = some o) (hw:Region.wanted o (yielded ops a.tmps)=false)
  (hn:∀ K:Act→Prop,(∀ a',di P ops B Q r z G a' w→K a')→K (a.put o.dst undef)):di P ops B Q (.pure i r) z G a w:=
 ⟨⟨o,undef,ho, .inr ⟨hw,rfl⟩,hn (fun a'=>gW P ops B Q r z G a' w) (fun _ h=>h.raw)⟩⟩
theorem aq (ho:ops[i]? = some o) (hw:Region.wanted o (yielded ops a.tmps)=false)
  (hn:∀ K:Act→Prop,(∀ a',di P ops B Q r z G a' w→K a')→K (a.put o.dst undef)):di P ops B Q (.free i r) z G a w:=
 ⟨⟨o,undef,ho, .inr ⟨hw,rfl⟩,hn (fun a'=>gW P ops B Q r z G a' w) (fun _ h=>h.raw)⟩⟩
theorem jr {K:Act→World→Prop} (ho:ops[i]? = some o) (hw:Region.wanted o (yielded ops a.tmps)=true) (h:aC P o a w K):gOp P ops i K a w:=by
 unfold gOp;simp only [ho,hw,if_true];exact h
theorem wh (ho:ops[i]? = some o) (hw:Region.wanted o (yielded ops a.tmps)=true)
  (h:∀ K:Act→World→Prop,(∀ a' w',(B w→B w')→(G w→G w')→di P ops B Q r z G a' w'→K a' w')→aC P o a w K):di P ops B Q (.run i r) z G a w:=
 ⟨jr ho hw (h _ (fun a' w' hb hg hk=>⟨hb,fun _=>hg,hk.raw⟩))⟩
theorem aM (ho:ops[i]? = some o) (hw:Region.wanted o (yielded ops a.tmps)=true)
  (h:∀ K:Act→World→Prop,(∀ a' w',(G w→G w')→kr P ops Q r z G a' w'→K a' w')→aC P o a w K):kr P ops Q (.run i r) z G a w:=
 wh ho hw fun K hK=>h K fun a' w' hg hk=>hK a' w' (fun h=>h) hg hk
theorem wi (ho:ops[i]? = some o) (hz:z.contains i=true) (hw:Region.wanted o (yielded ops a.tmps)=true)
  (h:∀ K:Act→World→Prop,(∀ a' w',(B w→B w')→di P ops B Q r z G a' w'→K a' w')→aC P o a w K):di P ops B Q (.run i r) z G a w:=
 ⟨jr ho hw (h _ (fun a' w' hb hk=>⟨hb,(fun hc=>by rw [hz] at hc;cases hc),hk.raw⟩))⟩
theorem aJ (ho:ops[i]? = some o) (hz:z.contains i=true) (hw:Region.wanted o (yielded ops a.tmps)=true)
  (h:∀ K:Act→World→Prop,(∀ a' w',kr P ops Q r z G a' w'→K a' w')→aC P o a w K):kr P ops Q (.run i r) z G a w:=
 wi ho hz hw fun K hK=>h K fun a' w' hk=>hK a' w' (fun h=>h) hk
theorem gM {j:Nat} {s:RO} {o':Oper} (ho:ops[i]? = some o) (hw:Region.wanted o (yielded ops a.tmps)=true) (ho':ops[j]? = some o') (hw':Region.wanted o' (yielded ops a.tmps)=true)
  (h:∀ K:Act→World→Prop,(∀ a' w',(B w→B w')→(z.contains i=false→G w→G w')→di P ops B Q r z G a' w'→K a' w')→aC P o a w K)
  (h':∀ K:Act→World→Prop,(∀ a' w',(B w→B w')→(z.contains j=false→G w→G w')→di P ops B Q s z G a' w'→K a' w')→aC P o' a w K):di P ops B Q (.two i r j s) z G a w:=
 ⟨⟨jr ho hw (h _ (fun a' w' hb hg hk=>⟨hb,hg,hk.raw⟩)),jr ho' hw' (h' _ (fun a' w' hb hg hk=>⟨hb,hg,hk.raw⟩))⟩⟩
theorem aH {z':List Nat} (G':World→Prop) (hG:G' w) (h:di P ops B Q r z' G' a w):di P ops B Q (.swi z' r) z G a w:=⟨⟨G',hG,h.raw⟩⟩
theorem aB (h:Q a w):di P ops B Q .fin z G a w:=⟨h⟩
def rowB (P:Program) (t:TypeId) (n:Nat):Bool:=(match P.underlying t with | some d=>d.isRow | none=>false) && (P.info? t).map (·.size) == some n
theorem jI {t:TypeId} {n:Nat} (h:rowB P t n=true):∃ d,P.underlying t=some d∧d.isRow=true∧(P.info? t).map (·.size)=some n:=by
 unfold rowB at h;simp only [Bool.and_eq_true,beq_iff_eq] at h;cases hd:P.underlying t with
 | none=>rw [hd] at h;cases h.1
 | some d=>rw [hd] at h;exact ⟨d,rfl,h.1,h.2⟩
theorem oQ {b off:Nat} {v0 v1:Value} (h0:w.cell? ⟨b,off,none⟩=some v0) (h1:w.cell? ⟨b,off+1,none⟩=some v1):w.rangeAt b off [v0,v1]:=by
 intro j v hj
 match j with
 | 0=>simp at hj;subst hj;exact h0
 | 1=>simp at hj;subst hj;exact h1
 | j+2=>simp at hj
theorem uU {t:TypeId} {x:Operand} {b off:Nat} {v0 v1:Value} (ho:o.op=.load t x) (hr:rowB P t 2=true) (hx:a.eval x=.pointer (some ⟨b,off,none⟩))
  (h0:w.cell? ⟨b,off,none⟩=some v0) (h1:w.cell? ⟨b,off+1,none⟩=some v1):ck (.agg #[v0,v1]) w ((execOp a.eval o).run P w):=by
 obtain ⟨d,hu,hd,hi⟩:=jI hr;have:=run_loadAt_mid (P:=P) w b off t [v0,v1] d (oQ h0 h1) hu hd hi;unfold ck execOp;simp only [ho,hx,Sem.run_bind,Sem.run_pure,Result.andThen_ok,this]
theorem au {v:Value} (ho:ops[i]? = some o) (hw:Region.wanted o (yielded ops a.tmps)=true) (hn:∀ K:Act→Prop,(∀ a',di P ops B Q r z G a' w→K a')→K (a.put o.dst v))
  (h:∀ w',ck v w' ((execOp a.eval o).run P w'):=by intro w';go_simp;exact ck.mk _ _):di P ops B Q (.free i r) z G a w:=gL ho hw v h hn
theorem az {v:Value} (ho:ops[i]? = some o) (hw:Region.wanted o (yielded ops a.tmps)=true) (hn:∀ K:Act→Prop,(∀ a',di P ops B Q r z G a' w→K a')→K (a.put o.dst v))
  (h:∀ w',G w'→ck v w' ((execOp a.eval o).run P w'):=by intro w' hG;(repeat (have:=And.left hG;replace hG:=And.right hG));go_simp;exact ck.mk _ _):di P ops B Q (.pure i r) z G a w:=jH ho hw v h hn
theorem aF {v:Value} (ho:ops[i]? = some o) (hw:Region.wanted o (yielded ops a.tmps)=true) (hn:∀ K:Act→Prop,(∀ a',di P ops B Q r z G a' w→K a')→K (a.put o.dst v))
  (h:∀ w',G w'→ck v w' ((execOp a.eval o).run P w'):=by intro w' hG;(repeat (have:=And.left hG;replace hG:=And.right hG));exact uU rfl (by decide +kernel) rfl (by assumption) (by assumption)):di P ops B Q (.pure i r) z G a w:=jH ho hw v h hn
theorem cF {rest:List Oper} {Q:Exit→Act→World→Prop} (hgd:o.guard=none) (t:TypeId) (x:Operand) (ho:o.op=.load t x) (hr:rowB P t 2=true) (b off:Nat) (hx:a.eval x=.pointer (some ⟨b,off,none⟩)) (v0 v1:Value)
  (h0:w.cell? ⟨b,off,none⟩=some v0) (h1:w.cell? ⟨b,off+1,none⟩=some v1) (h:wpList P ops Q rest (a.put o.dst (.agg #[v0,v1])) w):wpList P ops Q (o :: rest) a w:=by
 obtain ⟨d,hu,hd,hi⟩:=jI hr;exact wpList_load_mid hgd t x ho b off hx [v0,v1] d (oQ h0 h1) hu hd hi h
end
end
end
section
open Go.RowKit
theorem r3 {P:Program} (w:World) (t ty e:TypeId) (i:TypeInfo) (z:Value) (size bytes:Nat) (ht:P.underlying t=some (.slice e)) (hi:P.info? e=some i) (hz:i.zero=some z)
  (hsize:i.size=size) (hby:i.bytes=bytes) (hzs:z.cells.size=size) (hsz:0<size)
  (v:Value) (n:Nat) (xs:List Value) (hs:Sl w e size v n xs)
  (ao:Option Addr) (m c:Nat) (news:List Value) (hl:news.length=m*size) (hrd:Rd w ao news) (h1:∀ u ∈ news,u.oneCell'=true)
  (h63:n+m≤maxLen) (hbytes:(n+m)*bytes≤140737488355328) :
  ∃ v' w',(Builtin.append_ #[t,t] ty #[v, .slice ao m c]).run P w=.ok v' w'∧Sl w' e size v' (n+m) (xs ++ news)∧ab (ai v) w w'∧(∀ k,ai v' k→ai v k∨w.heap.size≤k):=by
 cases ao with
 | some a=>
  refine qF w t ty e i z size bytes ht hi hz hsize hby hzs hsz v n xs hs a m c news hl ?_ h1 h63 hbytes;intro j u hu;have hj:=(List.getElem?_eq_some_iff.1 hu).1;obtain ⟨g,o,e,_,hc⟩:=hrd (by rintro rfl;simp at hj);cases e;rw [eI,hc j hj,hu]
 | none=>
  have hn:news=[]:=by
   by_cases h:news=[]
   ·exact h
   ·obtain ⟨g,o,e,_⟩:=hrd h;cases e
  subst hn;have hm:m=0:=by
   rcases Nat.mul_eq_zero.1 (show m*size=0 by simpa using hl.symm) with h | h
   ·exact h
   ·omega
  subst hm;refine ⟨v,w,?_,by simpa using hs,ab.refl _ _,fun k hk=>.inl hk⟩;subst hsize;obtain ⟨hxl,⟨rfl,rfl⟩ | ⟨g,o,cap,cur,rfl,hb,hnc,hcm,hoc,hx⟩⟩:=hs
  ·simp [Builtin.append_,run_underlying ht,sizeOf,typeInfo,hi,Builtin.lenOf,Builtin.firstCells]
  ·simp [Builtin.append_,run_underlying ht,sizeOf,typeInfo,hi,Builtin.lenOf,Builtin.firstCells,hnc,storeCells]
theorem ik {P:Program} {w:World} {ops:Array Oper} {rest:List Oper} {o:Oper} {a:Act} {Q:Exit→Act→World→Prop} (hgd:o.guard=none) (s x:Operand) (t:TypeId)
  (ho:o.op=.call { callee:=.builtin .append,args:=#[s,x],argTypes:=#[t,t] })
  (e:TypeId) (i:TypeInfo) (z:Value) (size bytes:Nat) (ht:P.underlying t=some (.slice e)) (hi:P.info? e=some i) (hz:i.zero=some z)
  (hsize:i.size=size) (hby:i.bytes=bytes) (hzs:z.cells.size=size) (hsz:0<size)
  (v:Value) (n:Nat) (xs:List Value) (hs:a.eval s=v) (hown:Sl w e size v n xs)
  (ao:Option Addr) (m c:Nat) (news:List Value) (hx:a.eval x=.slice ao m c) (hl:news.length=m*size) (hrd:Rd w ao news) (h1:∀ u ∈ news,u.oneCell'=true)
  (h63:n+m≤maxLen) (hbytes:(n+m)*bytes≤140737488355328)
  (h:∀ v' w',Sl w' e size v' (n+m) (xs ++ news)→ab (ai v) w w'→(∀ k,ai v' k→ai v k∨w.heap.size≤k)→wpList P ops Q rest (a.put o.dst v') w'):wpList P ops Q (o :: rest) a w:=by
 refine wpList_plain hgd fun _ hK=>?_;obtain ⟨v',w',hr,h2,h3,h4⟩:=r3 (P:=P) w t o.type e i z size bytes ht hi hz hsize hby hzs hsz v n xs hown ao m c news hl hrd h1 h63 hbytes;unfold Oper.wp execOp;simp only [ho,resolve,invoke,builtin,Sem.run_bind,Sem.run_pure,Result.andThen_ok,List.map_toArray,List.map_cons,List.map_nil,hs,hx,hr];exact hK _ _ (h v' w' h2 h3 h4)
theorem qX {P:Program} {w:World} {o:Oper} {a:Act} {K:Act→World→Prop} (s x:Operand) (t:TypeId)
  (ho:o.op=.call { callee:=.builtin .append,args:=#[s,x],argTypes:=#[t,t] })
  (e:TypeId) (i:TypeInfo) (z:Value) (size bytes:Nat) (ht:P.underlying t=some (.slice e)) (hi:P.info? e=some i) (hz:i.zero=some z)
  (hsize:i.size=size) (hby:i.bytes=bytes) (hzs:z.cells.size=size) (hsz:0<size)
  (v:Value) (n:Nat) (xs:List Value) (hs:a.eval s=v) (hown:Sl w e size v n xs)
  (ao:Option Addr) (m c:Nat) (news:List Value) (hx:a.eval x=.slice ao m c) (hl:news.length=m*size) (hrd:Rd w ao news) (h1:∀ u ∈ news,u.oneCell'=true)
  (h63:n+m≤maxLen) (hbytes:(n+m)*bytes≤140737488355328)
  (h:∀ v' w',Sl w' e size v' (n+m) (xs ++ news)→ab (ai v) w w'→(∀ k,ai v' k→ai v k∨w.heap.size≤k)→K (a.put o.dst v') w'):aC P o a w K:=by
 obtain ⟨v',w',hr,h2,h3,h4⟩:=r3 (P:=P) w t o.type e i z size bytes ht hi hz hsize hby hzs hsz v n xs hown ao m c news hl hrd h1 h63 hbytes;unfold aC execOp;simp only [ho,resolve,invoke,builtin,Sem.run_bind,Sem.run_pure,Result.andThen_ok,List.map_toArray,List.map_cons,List.map_nil,hs,hx,hr];exact h v' w' h2 h3 h4
end
section
open Go.RowKit
section
variable {P:Program} {w:World} {ops:Array Oper} {o:Oper} {a:Act}
theorem mS {t:TypeId} {x:Operand} {b off:Nat} {cs:List Value} (ho:o.op=.load t x) (hr:rowB P t cs.length=true) (hx:a.eval x=.pointer (some ⟨b,off,none⟩)) (h:w.rangeAt b off cs):ck (.agg cs.toArray) w ((execOp a.eval o).run P w):=by
 obtain ⟨d,hu,hd,hi⟩:=jI hr;have:=run_loadAt_mid (P:=P) w b off t cs d h hu hd hi;unfold ck execOp;simp only [ho,hx,Sem.run_bind,Sem.run_pure,Result.andThen_ok,this]
theorem aV {rest:List Oper} {Q:Exit→Act→World→Prop} (hgd:o.guard=none) (t:TypeId) (x:Operand) (ho:o.op=.load t x) (cs:List Value) (hr:rowB P t cs.length=true) (b off:Nat) (hx:a.eval x=.pointer (some ⟨b,off,none⟩))
  (h0:w.rangeAt b off cs) (h:wpList P ops Q rest (a.put o.dst (.agg cs.toArray)) w):wpList P ops Q (o :: rest) a w:=by
 obtain ⟨d,hu,hd,hi⟩:=jI hr;exact wpList_load_mid hgd t x ho b off hx cs d h0 hu hd hi h
theorem aQ {b off:Nat}:w.rangeAt b off []:=by intro j v hj;simp at hj
theorem aa {b off:Nat} {v:Value} {cs:List Value} (h:w.cell? ⟨b,off,none⟩=some v) (hr:w.rangeAt b (off+1) cs):w.rangeAt b off (v :: cs):=by
 intro j u hj;cases j with
 | zero=>simp at hj;subst hj;exact h
 | succ j=>simp at hj;rw [show off+(j+1)=off+1+j by omega];exact hr j u hj
end
end
section
open Go.RowKit
theorem oR (n:Int):bits .and .i64 n 3=n%4:=by
 have h3:(BitVec.ofInt 64 3).toNat=2 ^ 2-1:=by decide
 have key:(BitVec.ofInt 64 n &&& BitVec.ofInt 64 3).toNat=(n%((2 ^ 64:Nat):Int)).toNat%2 ^ 2:=by
  rw [BitVec.toNat_and,BitVec.toNat_ofInt,h3,Nat.and_two_pow_sub_one_eq_mod]
 show IntKind.i64.wrap ((BitVec.ofInt 64 n &&& BitVec.ofInt 64 3).toNat:Nat)=n%4
 rw [key,IntKind.wrap_i64];omega
theorem wj (n:Int):bits .and .i64 n 15=n%16:=by
 have h3:(BitVec.ofInt 64 15).toNat=2 ^ 4-1:=by decide
 have key:(BitVec.ofInt 64 n &&& BitVec.ofInt 64 15).toNat=(n%((2 ^ 64:Nat):Int)).toNat%2 ^ 4:=by
  rw [BitVec.toNat_and,BitVec.toNat_ofInt,h3,Nat.and_two_pow_sub_one_eq_mod]
 show IntKind.i64.wrap ((BitVec.ofInt 64 n &&& BitVec.ofInt 64 15).toNat:Nat)=n%16
 rw [key,IntKind.wrap_i64];omega
theorem zC (n:Int) (h1:-9223372036854775808≤n) (h2:n≤9223372036854775807):bits .or .i64 n 0=n:=by
 have key:(BitVec.ofInt 64 n ||| BitVec.ofInt 64 0).toNat=(n%((2 ^ 64:Nat):Int)).toNat:=by
  rw [show BitVec.ofInt 64 0=0#64 from by decide,BitVec.or_zero,BitVec.toNat_ofInt]
 show IntKind.i64.wrap ((BitVec.ofInt 64 n ||| BitVec.ofInt 64 0).toNat:Nat)=n
 rw [key,IntKind.wrap_i64];omega
theorem qY (n:Int) (h₀:0≤n) (h₁:n<2 ^ 63):IntKind.i64.wrap n=n:=by rw [IntKind.wrap_i64];omega
theorem uj (n:Int) (h1:0≤n) (h2:n<2305843009213693951):bits .or .i64 (n*4) 1=n*4+1:=
 bits_join .i64 63 (by decide) qY 2 (n*4) 1 (by omega) (by omega) (by omega) (by omega) (by omega) (by omega)
theorem ks (f k:Int) (h1:0≤f) (h2:f≤100) (h3:0≤k) (h4:k<16):bits .or .i64 (f*16) k=f*16+k:=
 bits_join .i64 63 (by decide) qY 4 (f*16) k (by omega) (by omega) (by omega) (by omega) (by omega) (by omega)
def cA:Int:=1152921504606846976
def fB (k n:Int):Int × Int:=
 if k=0 then if n=0 then (2,0) else (0,7)
 else if k=2 then if n=0 then (3,0) else (0,7)
 else if k=1 then if -cA≤n∧n<cA then (4*n,0) else (0,1)
 else if k=3 then if 0≤n∧n<cA then (4*n+1,0) else (0,1)
 else (0,2)
def eQ (x:Int):Int × Int × Int:=
 if x%4=0 then if -cA≤x/4∧x/4<cA then (1,x/4,0) else (0,0,1)
 else if x%4=1 then if 0≤x/4∧x/4<cA then (3,x/4,0) else (0,0,1)
 else if x/4=0 then if x=2 then (0,0,0) else (2,0,0)
 else (0,0,7)
def bs (k f:Int):Bool:=((k == 1 || k == 3 || k == 4) && f == 2) || (k == 5 && f == 0) || (k == 2 && decide (0≤f) && decide (f≤12))
def i5 (k f:Int):Int × Int:=if k<1∨5<k then (0,2) else if bs k f=true then (16*f+k,0) else (0,1)
def eW (h:Int):Int × Int × Int:=if bs (h%16) (h/16)=true then (h%16,h/16,0) else (0,0,7)
theorem bP {k f:Int} (h:bs k f=true):1≤k∧k≤5∧0≤f∧f≤12:=by
 simp [bs] at h;omega
theorem xT {n:Int} (h:-1152921504606846976≤n∧n<1152921504606846976):fB 1 n=(4*n,0):=if_pos (c:=-cA≤n∧n<cA) h
theorem oy {n:Int} (h:¬ (-1152921504606846976≤n∧n<1152921504606846976)):fB 1 n=(0,1):=if_neg (c:=-cA≤n∧n<cA) h
theorem xU {n:Int} (h:0≤n∧n<1152921504606846976):fB 3 n=(4*n+1,0):=if_pos (c:=0≤n∧n<cA) h
theorem oz {n:Int} (h:¬ (0≤n∧n<1152921504606846976)):fB 3 n=(0,1):=if_neg (c:=0≤n∧n<cA) h
theorem uV {k n:Int} (h0:k≠0) (h1:k≠1) (h2:k≠2) (h3:k≠3):fB k n=(0,2):=by
 unfold fB;rw [if_neg h0,if_neg h2,if_neg h1,if_neg h3]
theorem r4 {x:Int} (h:x%4=0) (h1:-1152921504606846976≤x/4∧x/4<1152921504606846976):eQ x=(1,x/4,0):=by
 unfold eQ;rw [if_pos h,if_pos (show -cA≤x/4∧x/4<cA from h1)]
theorem oA {x:Int} (h:x%4=0) (h1:¬ (-1152921504606846976≤x/4∧x/4<1152921504606846976)):eQ x=(0,0,1):=by
 unfold eQ;rw [if_pos h,if_neg (show ¬ (-cA≤x/4∧x/4<cA) from h1)]
theorem xV {x:Int} (h:x%4=1) (h1:0≤x/4∧x/4<1152921504606846976):eQ x=(3,x/4,0):=by
 unfold eQ;rw [if_neg (by omega),if_pos h,if_pos (show 0≤x/4∧x/4<cA from h1)]
theorem oB {x:Int} (h:x%4=1) (h1:¬ (0≤x/4∧x/4<1152921504606846976)):eQ x=(0,0,1):=by
 unfold eQ;rw [if_neg (by omega),if_pos h,if_neg (show ¬ (0≤x/4∧x/4<cA) from h1)]
theorem wu {x:Int} (h0:x%4≠0) (h:x%4≠1) (h1:x/4≠0):eQ x=(0,0,7):=by
 unfold eQ;rw [if_neg h0,if_neg h,if_neg h1]
end
section
open Go.RowKit
theorem lG {a b c d:Int} (h1:a=c) (h2:b=d):Ending.returned (.tuple #[.int .i64 a, .int .i64 b])=Ending.returned (.tuple #[.int .i64 c, .int .i64 d]):=by rw [h1,h2]
theorem r5 (k n:Int) (w:World) (h1:-9223372036854775808≤n) (h2:n≤9223372036854775807) :
  Calls Tryz.prog 49 #[.agg #[.int .i64 k, .int .i64 n]] w fun e w'=>e=.returned (.tuple #[.int .i64 (fB k n).1, .int .i64 (fB k n).2])∧ab (fun _=>False) w w':=by
 by_cases k0:k=0
 ·subst k0;by_cases n0:n=0
  ·subst n0;go_enter Tryz.func49,Tryz.ntmps49
   go_wp2
   go_ret2;exact ⟨rfl,(ab.refl _ _).alloc _⟩
  ·have hz:(n != 0)=true:=by simpa using n0
   have he:fB 0 n=(0,7):=by simp [fB,n0]
   have HE:=Hz he;clear he n0;go_enter Tryz.func49,Tryz.ntmps49
   go_wp2
   go_ret2;exact ⟨by rw [HE.out];rfl,(ab.refl _ _).alloc _⟩
 by_cases k2:k=2
 ·subst k2;by_cases n0:n=0
  ·subst n0;go_enter Tryz.func49,Tryz.ntmps49
   go_wp2
   go_ret2;exact ⟨rfl,(ab.refl _ _).alloc _⟩
  ·have hz:(n != 0)=true:=by simpa using n0
   have he:fB 2 n=(0,7):=by simp [fB,n0]
   have HE:=Hz he;clear he n0;go_enter Tryz.func49,Tryz.ntmps49
   go_wp2
   go_ret2;exact ⟨by rw [HE.out];rfl,(ab.refl _ _).alloc _⟩
 by_cases k1:k=1
 ·subst k1;by_cases c1:n < -1152921504606846976
  ·have he:fB 1 n=(0,1):=oy (by omega);have HE:=Hz he;clear he;go_enter Tryz.func49,Tryz.ntmps49
   go_wp2
   go_ret2;exact ⟨by rw [HE.out];rfl,(ab.refl _ _).alloc _⟩
  by_cases c2:1152921504606846976≤n
  ·have he:fB 1 n=(0,1):=oy (by omega);have HE:=Hz he;clear he;go_enter Tryz.func49,Tryz.ntmps49
   go_wp2
   go_ret2;exact ⟨by rw [HE.out];rfl,(ab.refl _ _).alloc _⟩
  have he:fB 1 n=(4*n,0):=xT (by omega);have HE:=Hz he;clear he;have hor:=zC (n*4) (by omega) (by omega);go_enter Tryz.func49,Tryz.ntmps49
  go_wp2
  go_ret2;exact ⟨by rw [HE.out];exact lG (Int.mul_comm _ _) rfl,(ab.refl _ _).alloc _⟩
 by_cases k3:k=3
 ·subst k3;by_cases c1:n<0
  ·have he:fB 3 n=(0,1):=oz (by omega);have HE:=Hz he;clear he;go_enter Tryz.func49,Tryz.ntmps49
   go_wp2
   go_ret2;exact ⟨by rw [HE.out];rfl,(ab.refl _ _).alloc _⟩
  by_cases c2:1152921504606846976≤n
  ·have he:fB 3 n=(0,1):=oz (by omega);have HE:=Hz he;clear he;go_enter Tryz.func49,Tryz.ntmps49
   go_wp2
   go_ret2;exact ⟨by rw [HE.out];rfl,(ab.refl _ _).alloc _⟩
  have he:fB 3 n=(4*n+1,0):=xU (by omega);have HE:=Hz he;clear he;have hor:=uj n (by omega) (by omega);go_enter Tryz.func49,Tryz.ntmps49
  go_wp2
  go_ret2;exact ⟨by rw [HE.out];exact lG (by omega) rfl,(ab.refl _ _).alloc _⟩
 have e0:(k == 0)=false:=by simpa using k0
 have e1:(k == 1)=false:=by simpa using k1
 have e2:(k == 2)=false:=by simpa using k2
 have e3:(k == 3)=false:=by simpa using k3
 have he:fB k n=(0,2):=uV k0 k1 k2 k3;have HE:=Hz he;clear he k0 k1 k2 k3;go_enter Tryz.func49,Tryz.ntmps49
 go_wp2
 go_ret2;exact ⟨by rw [HE.out];rfl,(ab.refl _ _).alloc _⟩
theorem zp (x:Int) (w:World) (h1:0≤x) (h2:x<1152921504606846976) :
  Calls Tryz.prog 24 #[.int .i64 x] w fun e w'=>e=.returned (.int .i64 (4*x+1))∧w=w':=by
 have hor:=uj x (by omega) (by omega);go_enter Tryz.func24,Tryz.ntmps24
 go_wp2
 go_ret;exact ⟨cM (by omega),rfl⟩
theorem uW (w:World):Calls Tryz.prog 26 #[] w fun e w'=>e=.returned (.int .i64 2)∧w=w':=by
 go_enter Tryz.func26,Tryz.ntmps26
 go_wp2
 go_ret;exact ⟨rfl,rfl⟩
theorem r6 (w:World):Calls Tryz.prog 128 #[] w fun e w'=>e=.returned (.int .i64 3)∧w=w':=by
 go_enter Tryz.func128,Tryz.ntmps128
 go_wp2
 go_ret;exact ⟨rfl,rfl⟩
theorem dt (x:Int) (w:World) (h:x%4=1) :
  Calls Tryz.prog 114 #[.int .i64 x] w fun e w'=>e=.returned (.tuple #[.int .i64 (x/4), .bool true])∧w=w':=by
 have ha:bits .and .i64 x 3=1:=by rw [oR,h]
 clear h;go_enter Tryz.func114,Tryz.ntmps114
 go_wp2
 go_ret2;exact ⟨rfl,rfl⟩
theorem kR (x:Int) (w:World) (h:x%4≠1) :
  Calls Tryz.prog 114 #[.int .i64 x] w fun e w'=>e=.returned (.tuple #[.int .i64 0, .bool false])∧w=w':=by
 have ha:(bits .and .i64 x 3 != 1)=true:=by rw [oR];simpa using h
 clear h;go_enter Tryz.func114,Tryz.ntmps114
 go_wp2
 go_ret2;exact ⟨rfl,rfl⟩
theorem js {k n c:Int} {y:Int × Int × Int} (h:y=(k,n,c)) :
  Ending.returned (.tuple #[.agg #[.int .i64 k, .int .i64 n], .int .i64 c])=Ending.returned (.tuple #[.agg #[.int .i64 y.1, .int .i64 y.2.1], .int .i64 y.2.2]):=by subst h;rfl
theorem xW (x:Int) (w:World) (h1:-9223372036854775808≤x) (h2:x≤9223372036854775807) :
  Calls Tryz.prog 129 #[.int .i64 x] w fun e w'=>e=.returned (.tuple #[.agg #[.int .i64 (eQ x).1, .int .i64 (eQ x).2.1], .int .i64 (eQ x).2.2])∧ab (fun _=>False) w w':=by
 have hm:=Hz (oR x);by_cases m0:x%4=0
 ·have ha:bits .and .i64 x 3=0:=by rw [hm.out,m0]
  by_cases c1:x/4 < -1152921504606846976
  ·have HE:=Hz (oA m0 (by omega));clear m0;go_enter Tryz.func129,Tryz.ntmps129
   go_wp2
   exact bodyPost_ret (v:=.tuple #[.agg #[.int .i64 0, .int .i64 0], .int .i64 1]) (by simp [results,Tryz.results129,go_sem]) rfl ⟨js HE.out,(((ab.refl _ _).alloc _))⟩
  by_cases c2:1152921504606846976≤x/4
  ·have HE:=Hz (oA m0 (by omega));clear m0;go_enter Tryz.func129,Tryz.ntmps129
   go_wp2
   exact bodyPost_ret (v:=.tuple #[.agg #[.int .i64 0, .int .i64 0], .int .i64 1]) (by simp [results,Tryz.results129,go_sem]) rfl ⟨js HE.out,(((ab.refl _ _).alloc _))⟩
  have HE:=Hz (r4 m0 (by omega));clear m0;go_enter Tryz.func129,Tryz.ntmps129
  go_wp2
  exact bodyPost_ret (v:=.tuple #[.agg #[.int .i64 1, .int .i64 (x/4)], .int .i64 0]) (by simp [results,Tryz.results129,go_sem]) rfl ⟨js HE.out,(((ab.refl _ _).alloc _))⟩
 by_cases m1:x%4=1
 ·have ha:bits .and .i64 x 3=1:=by rw [hm.out,m1]
  by_cases c1:x/4<0
  ·have HE:=Hz (oB m1 (by omega));clear m1;go_enter Tryz.func129,Tryz.ntmps129
   go_wp2
   exact bodyPost_ret (v:=.tuple #[.agg #[.int .i64 0, .int .i64 0], .int .i64 1]) (by simp [results,Tryz.results129,go_sem]) rfl ⟨js HE.out,(((ab.refl _ _).alloc _))⟩
  by_cases c2:1152921504606846976≤x/4
  ·have HE:=Hz (oB m1 (by omega));clear m1;go_enter Tryz.func129,Tryz.ntmps129
   go_wp2
   exact bodyPost_ret (v:=.tuple #[.agg #[.int .i64 0, .int .i64 0], .int .i64 1]) (by simp [results,Tryz.results129,go_sem]) rfl ⟨js HE.out,(((ab.refl _ _).alloc _))⟩
  have HE:=Hz (xV m1 (by omega));clear m1;go_enter Tryz.func129,Tryz.ntmps129
  go_wp2
  exact bodyPost_ret (v:=.tuple #[.agg #[.int .i64 3, .int .i64 (x/4)], .int .i64 0]) (by simp [results,Tryz.results129,go_sem]) rfl ⟨js HE.out,(((ab.refl _ _).alloc _))⟩
 have ha0:(bits .and .i64 x 3 == 0)=false:=by rw [hm.out];simpa using m0
 have ha1:(bits .and .i64 x 3 == 1)=false:=by rw [hm.out];simpa using m1
 by_cases c1:x/4=0
 ·have h23:x=2∨x=3:=by omega
  clear m0 m1 ha0 ha1 c1 hm;rcases h23 with rfl | rfl
  ·go_enter Tryz.func129,Tryz.ntmps129
   go_wp2
   exact bodyPost_ret (v:=.tuple #[.agg #[.int .i64 0, .int .i64 0], .int .i64 0]) (by simp [results,Tryz.results129,go_sem]) rfl ⟨rfl,(((ab.refl _ _).alloc _))⟩
  ·go_enter Tryz.func129,Tryz.ntmps129
   go_wp2
   exact bodyPost_ret (v:=.tuple #[.agg #[.int .i64 2, .int .i64 0], .int .i64 0]) (by simp [results,Tryz.results129,go_sem]) rfl ⟨rfl,(((ab.refl _ _).alloc _))⟩
 ·have hz:(x/4 != 0)=true:=by simpa using c1
  have HE:=Hz (wu m0 m1 c1);clear m0 m1 c1;go_enter Tryz.func129,Tryz.ntmps129
  go_wp2
  exact bodyPost_ret (v:=.tuple #[.agg #[.int .i64 0, .int .i64 0], .int .i64 7]) (by simp [results,Tryz.results129,go_sem]) rfl ⟨js HE.out,(((ab.refl _ _).alloc _))⟩
end
section
open Go.RowKit
theorem pI {k f:Int} (h:k<1∨5<k):i5 k f=(0,2):=if_pos h
theorem jt {k f:Int} (h:1≤k∧k≤5) (hf:bs k f=false):i5 k f=(0,1):=by
 unfold i5;rw [if_neg (by omega),if_neg (by simp [hf])]
theorem iP {k f:Int} (h:1≤k∧k≤5) (hf:bs k f=true):i5 k f=(16*f+k,0):=by
 unfold i5;rw [if_neg (by omega),if_pos hf]
theorem qG {k f:Int} (hk:k=1∨k=3∨k=4):bs k f=(f == 2):=by
 rcases hk with rfl | rfl | rfl <;> simp [bs]
theorem zD {f:Int}:bs 5 f=(f == 0):=by simp [bs]
theorem mT {f:Int}:bs 2 f=(decide (0≤f) && decide (f≤12)):=by simp [bs]
theorem mU (k f:Int) (w:World) (h1:-9223372036854775808≤f) (h2:f≤9223372036854775807) :
  Calls Tryz.prog 138 #[.int .i64 k, .int .i64 f] w fun e w'=>e=.returned (.tuple #[.int .i64 (i5 k f).1, .int .i64 (i5 k f).2])∧w=w':=by
 by_cases c1:k<1
 ·have HE:=Hz (pI (f:=f) (.inl c1));go_enter Tryz.func138,Tryz.ntmps138
  go_wp2
  go_ret2;exact ⟨by rw [HE.out];rfl,rfl⟩
 by_cases c2:5<k
 ·have HE:=Hz (pI (f:=f) (.inr c2));go_enter Tryz.func138,Tryz.ntmps138
  go_wp2
  go_ret2;exact ⟨by rw [HE.out];rfl,rfl⟩
 have hk:k=1∨k=2∨k=3∨k=4∨k=5:=by omega
 clear c1 c2;rcases hk with rfl | rfl | rfl | rfl | rfl
 ·by_cases c:f=2
  ·subst c;have hor:=ks 2 1 (by omega) (by omega) (by omega) (by omega);have HE:=Hz (iP (k:=1) (f:=2) (by omega) (by decide));go_enter Tryz.func138,Tryz.ntmps138
   go_wp2
   go_ret2;exact ⟨by rw [HE.out];rfl,rfl⟩
  ·have hne:(f != 2)=true:=by simpa using c
   have HE:=Hz (jt (k:=1) (f:=f) (by omega) (by rw [qG (by omega)];simpa using c));clear c;go_enter Tryz.func138,Tryz.ntmps138
   go_wp2
   go_ret2;exact ⟨by rw [HE.out];rfl,rfl⟩
 ·by_cases c1:f<0
  ·have HE:=Hz (jt (k:=2) (f:=f) (by omega) (by rw [mT];simp;omega));go_enter Tryz.func138,Tryz.ntmps138
   go_wp2
   go_ret2;exact ⟨by rw [HE.out];rfl,rfl⟩
  by_cases c2:12<f
  ·have HE:=Hz (jt (k:=2) (f:=f) (by omega) (by rw [mT];simp;omega));go_enter Tryz.func138,Tryz.ntmps138
   go_wp2
   go_ret2;exact ⟨by rw [HE.out];rfl,rfl⟩
  have hor:=ks f 2 (by omega) (by omega) (by omega) (by omega);have HE:=Hz (iP (k:=2) (f:=f) (by omega) (by rw [mT];simp;omega));go_enter Tryz.func138,Tryz.ntmps138
  go_wp2
  go_ret2;exact ⟨by rw [HE.out];exact lG (by omega) rfl,rfl⟩
 ·by_cases c:f=2
  ·subst c;have hor:=ks 2 3 (by omega) (by omega) (by omega) (by omega);have HE:=Hz (iP (k:=3) (f:=2) (by omega) (by decide));go_enter Tryz.func138,Tryz.ntmps138
   go_wp2
   go_ret2;exact ⟨by rw [HE.out];rfl,rfl⟩
  ·have hne:(f != 2)=true:=by simpa using c
   have HE:=Hz (jt (k:=3) (f:=f) (by omega) (by rw [qG (by omega)];simpa using c));clear c;go_enter Tryz.func138,Tryz.ntmps138
   go_wp2
   go_ret2;exact ⟨by rw [HE.out];rfl,rfl⟩
 ·by_cases c:f=2
  ·subst c;have hor:=ks 2 4 (by omega) (by omega) (by omega) (by omega);have HE:=Hz (iP (k:=4) (f:=2) (by omega) (by decide));go_enter Tryz.func138,Tryz.ntmps138
   go_wp2
   go_ret2;exact ⟨by rw [HE.out];rfl,rfl⟩
  ·have hne:(f != 2)=true:=by simpa using c
   have HE:=Hz (jt (k:=4) (f:=f) (by omega) (by rw [qG (by omega)];simpa using c));clear c;go_enter Tryz.func138,Tryz.ntmps138
   go_wp2
   go_ret2;exact ⟨by rw [HE.out];rfl,rfl⟩
 ·by_cases c:f=0
  ·subst c;have hor:=ks 0 5 (by omega) (by omega) (by omega) (by omega);have HE:=Hz (iP (k:=5) (f:=0) (by omega) (by decide));go_enter Tryz.func138,Tryz.ntmps138
   go_wp2
   go_ret2;exact ⟨by rw [HE.out];rfl,rfl⟩
  ·have hne:(f != 0)=true:=by simpa using c
   have HE:=Hz (jt (k:=5) (f:=f) (by omega) (by rw [zD];simpa using c));clear c;go_enter Tryz.func138,Tryz.ntmps138
   go_wp2
   go_ret2;exact ⟨by rw [HE.out];rfl,rfl⟩
theorem kS {a b c:Int} {y:Int × Int × Int} (h:y=(a,b,c)) :
  Ending.returned (.tuple #[.int .i64 a, .int .i64 b, .int .i64 c])=Ending.returned (.tuple #[.int .i64 y.1, .int .i64 y.2.1, .int .i64 y.2.2]):=by subst h;rfl
theorem qZ {h:Int} (hf:bs (h%16) (h/16)=false):eW h=(0,0,7):=by unfold eW;rw [if_neg (by simp [hf])]
theorem uX {h:Int} (hf:bs (h%16) (h/16)=true):eW h=(h%16,h/16,0):=by unfold eW;rw [if_pos hf]
theorem pJ {h:Int} (c:h<0∨207<h):eW h=(0,0,7):=by
 apply qZ;cases hf:bs (h%16) (h/16)
 ·rfl
 ·have:=bP hf;omega
theorem pK {k f:Int} (h:bs k f=false):(i5 k f).1=0∧((i5 k f).2 != 0)=true:=by
 unfold i5;split
 ·exact ⟨rfl,rfl⟩
 ·rw [if_neg (by simp [h])];exact ⟨rfl,rfl⟩
theorem pL {k f:Int} (h:bs k f=true):i5 k f=(16*f+k,0):=iP ⟨(bP h).1,(bP h).2.1⟩ h
theorem zE (h:Int) (w:World) (h1:-9223372036854775808≤h) (h2:h≤9223372036854775807) :
  Calls Tryz.prog 137 #[.int .i64 h] w fun e w'=>e=.returned (.tuple #[.int .i64 (eW h).1, .int .i64 (eW h).2.1, .int .i64 (eW h).2.2])∧w=w':=by
 by_cases c1:h<0
 ·have HE:=Hz (pJ (.inl c1));go_enter Tryz.func137,Tryz.ntmps137;go_wp2_with fail
  go_ret3
  exact ⟨kS HE.out,rfl⟩
 by_cases c2:207<h
 ·have HE:=Hz (pJ (.inr c2));go_enter Tryz.func137,Tryz.ntmps137;go_wp2_with fail
  go_ret3
  exact ⟨kS HE.out,rfl⟩
 have ha:=wj h;cases hf:bs (h%16) (h/16)
 ·have HE:=Hz (qZ hf);have hc:=(pK hf).2;have HF:=Hz hf;clear hf;go_enter Tryz.func137,Tryz.ntmps137;go_wp2_with fail;refine (mU (h%16) (h/16) _ (by omega) (by omega)).mono ?_;rintro e w' ⟨rfl,rfl⟩;go_wp2_with fail
  go_ret3
  exact ⟨kS HE.out,rfl⟩
 ·have HE:=Hz (uX hf);have HC:=Hz (pL hf);have HF:=Hz hf;clear hf;go_enter Tryz.func137,Tryz.ntmps137;go_wp2_with fail;refine (mU (h%16) (h/16) _ (by omega) (by omega)).mono ?_;rintro e w' ⟨rfl,rfl⟩;rw [HC.out];go_wp2_with fail
  go_ret3
  exact ⟨kS HE.out,rfl⟩
end
section
def br (x:Int):Prop:=-9223372036854775808≤x∧x≤9223372036854775807
structure Ar where
 ws:List Int
 nur:Nat
 yng:Nat
 grn:Nat
structure Ar.ok (A:Ar):Prop where
 h1:A.yng≤A.nur
 h2:A.nur≤A.grn
 h3:A.grn≤A.ws.length
 h4:A.ws.length≤1280
 hw:∀ x ∈ A.ws,br x
def Ar.aG (A:Ar) (i:Int):Bool:=decide (0≤i) && decide (i<A.yng)
def Ar.aP (A:Ar) (i:Int):Bool:=decide ((A.nur:Int)≤i) && decide (i<A.grn)
def Ar.aS (A:Ar) (i:Int):Bool:=A.aG i || A.aP i
def Ar.load (A:Ar) (i:Int):Int:=if A.aS i then A.ws.getD i.toNat 0 else 0
def Ar.store (A:Ar) (i x:Int):Ar:=if A.aS i then { A with ws:=A.ws.set i.toNat x } else A
def Ar.nS (A:Ar) (n:Int):Int × Ar:=if 0≤n∧n≤(A.nur:Int)-A.yng then (A.yng, { A with yng:=A.yng+n.toNat }) else (-1,A)
def Ar.nT (A:Ar) (n:Int):Int × Ar:=if 0≤n∧n≤(A.ws.length:Int)-A.grn then (A.grn, { A with grn:=A.grn+n.toNat }) else (-1,A)
def lay (l:List Int) (i:Nat) (m:List Int):List Int:=l.take i ++ m ++ l.drop (i+m.length)
theorem dI {l m:List Int} {i:Nat} (h:i+m.length≤l.length):(lay l i m).length=l.length:=by
 unfold lay;simp only [List.length_append,List.length_take,List.length_drop];omega
theorem qH {l m:List Int} {i j:Nat} (h:i+m.length≤l.length):(lay l i m)[j]? = if i≤j∧j<i+m.length then m[j-i]? else l[j]? := by
 unfold lay;by_cases h1:j<i
 ·rw [List.append_assoc,List.getElem?_append_left (by simp;omega),List.getElem?_take,if_pos h1,if_neg (by omega)]
 ·by_cases h2:j<i+m.length
  ·rw [List.append_assoc,List.getElem?_append_right (by simp;omega),List.length_take,List.getElem?_append_left (by omega),if_pos ⟨by omega,h2⟩];congr 1;omega
  ·rw [List.getElem?_append_right (by simp;omega),if_neg (by omega),List.getElem?_drop,List.length_append,List.length_take];congr 1;omega
theorem ju {l m:List Int} {i j:Nat} (h:i+m.length≤l.length):(lay l i m).getD j 0=if i≤j∧j<i+m.length then m.getD (j-i) 0 else l.getD j 0:=by
 simp only [Ld,qH h];split <;> rfl
theorem nU {l m:List Int} {i:Nat} {x:Int} (h:x ∈ lay l i m):x ∈ l∨x ∈ m:=by
 unfold lay at h;simp only [List.mem_append] at h;rcases h with (h | h) | h
 ·exact .inl (List.mem_of_mem_take h)
 ·exact .inr h
 ·exact .inl (List.mem_of_mem_drop h)
def eX (k f:Int):List Int:=(16*f+k) :: List.replicate f.toNat 2
def Ar.make (A:Ar) (k f:Int):Int × Ar:=
 if bs k f=true∧1+f≤(A.nur:Int)-A.yng then (A.yng, { A with yng:=A.yng+(1+f).toNat,ws:=lay A.ws A.yng (eX k f) }) else (-1,A)
theorem Ar.uk {A:Ar} {k f:Int} (h:¬ (bs k f=true∧1+f≤(A.nur:Int)-A.yng)):A.make k f=(-1,A):=if_neg h
theorem Ar.oS {A:Ar} {k f:Int} (h:bs k f=true∧1+f≤(A.nur:Int)-A.yng):A.make k f=((A.yng:Int), { A with yng:=A.yng+(1+f).toNat,ws:=lay A.ws A.yng (eX k f) }):=if_pos h
def Ar.aj (A:Ar) (i:Int):Int × Int × Int:=eW (A.load i)
def Ar.whole (A:Ar) (i n:Int):Bool:=(A.aG i && A.aG (i+n)) || (A.aP i && A.aP (i+n))
def Ar.copy (A:Ar) (i:Int):Int × Ar:=
 let n:=(A.aj i).2.1
 if (A.aj i).2.2=0∧A.whole i n=true∧1+n≤(A.ws.length:Int)-A.grn then
  (A.grn, { A with grn:=A.grn+(1+n).toNat,ws:=lay A.ws A.grn ((A.ws.drop i.toNat).take (1+n).toNat) })
 else (-1,A)
theorem Ar.zF {A:Ar} {i:Int} (h:¬ ((A.aj i).2.2=0∧A.whole i (A.aj i).2.1=true∧1+(A.aj i).2.1≤(A.ws.length:Int)-A.grn)):A.copy i=(-1,A):=if_neg h
theorem Ar.r7 {A:Ar} {i:Int} (h:(A.aj i).2.2=0∧A.whole i (A.aj i).2.1=true∧1+(A.aj i).2.1≤(A.ws.length:Int)-A.grn) :
  A.copy i=((A.grn:Int), { A with grn:=A.grn+(1+(A.aj i).2.1).toNat,ws:=lay A.ws A.grn ((A.ws.drop i.toNat).take (1+(A.aj i).2.1).toNat) }):=if_pos h
def Ar.clear (A:Ar):Ar:={ A with yng:=0 }
def Ar.cut (A:Ar) (n:Nat):Ar:={ A with grn:=A.nur+n }
theorem Ar.ok.lT {A:Ar} (h:A.ok) {i:Int} (hy:A.aG i=true):0≤i∧i<A.ws.length:=by
 have:=h.h1;have:=h.h2;have:=h.h3;simp [Ar.aG] at hy;omega
theorem Ar.ok.pM {A:Ar} (h:A.ok) {i:Int} (hy:A.aP i=true):0≤i∧i<A.ws.length:=by
 have:=h.h3;simp [Ar.aP] at hy;omega
theorem Ar.ok.i6 {A:Ar} (h:A.ok) {i:Int} (hy:A.aS i=true):0≤i∧i<A.ws.length:=by
 unfold Ar.aS at hy;rw [Bool.or_eq_true] at hy;rcases hy with hy | hy
 ·exact h.lT hy
 ·exact h.pM hy
theorem Ar.ok.load {A:Ar} (h:A.ok) (i:Int):br (A.load i):=by
 unfold Ar.load;split
 ·rename_i hu;have:=h.i6 hu;have hi:i.toNat<A.ws.length:=by omega
  rw [Ld,Le hi];exact h.hw _ (List.getElem_mem hi)
 ·unfold br;omega
theorem Ar.ok.store {A:Ar} (h:A.ok) (i x:Int) (hx:br x):(A.store i x).ok:=by
 unfold Ar.store;split
 ·refine ⟨h.h1,h.h2,by simpa using h.h3,by simpa using h.h4,fun y hy=>?_⟩;rcases List.mem_or_eq_of_mem_set hy with h1 | rfl
  ·exact h.hw y h1
  ·exact hx
 ·exact h
theorem Ar.mV {A:Ar} {i:Int} (h:(A.aj i).2.2=0):A.aS i=true:=by
 cases hu:A.aS i
 ·have:A.load i=0:=by unfold Ar.load;rw [hu];simp
  unfold Ar.aj at h;rw [this] at h;exact absurd h (by decide)
 ·rfl
theorem Ar.aU (A:Ar) (i:Int):0≤(A.aj i).2.1∧(A.aj i).2.1≤12:=by
 unfold Ar.aj eW;split
 ·rename_i h;have:=bP h;exact ⟨this.2.2.1,this.2.2.2⟩
 ·decide
theorem jR {k f:Int} (h:0≤f):(eX k f).length=(1+f).toNat:=by
 unfold eX;simp;omega
theorem Ar.ok.make {A:Ar} (h:A.ok) (k f:Int):(A.make k f).2.ok:=by
 unfold Ar.make;split
 ·rename_i hc;have hf:=bP hc.1;have hl:=jR (k:=k) hf.2.2.1;have:=h.h1;have:=h.h2;have:=h.h3;have:=h.h4;have hlay:(lay A.ws A.yng (eX k f)).length=A.ws.length:=dI (by omega);refine ⟨?_,h.h2,?_,?_,fun x hx=>?_⟩
  ·show A.yng+(1+f).toNat≤A.nur;omega
  ·show A.grn≤(lay _ _ _).length;rw [hlay];exact h.h3
  ·show (lay _ _ _).length≤1280;rw [hlay];exact h.h4
  ·rcases nU hx with h1 | h1
   ·exact h.hw x h1
   ·unfold eX at h1;simp only [List.mem_cons,List.mem_replicate] at h1;unfold br;rcases h1 with h1 | h1 <;> omega
 ·exact h
theorem Ar.jX {A:Ar} (h:A.ok) {i n:Int} (hn:0≤n) (hw:A.whole i n=true):0≤i∧i+n<A.ws.length:=by
 unfold Ar.whole at hw;simp only [Bool.or_eq_true,Bool.and_eq_true] at hw;rcases hw with ⟨h1,h2⟩ | ⟨h1,h2⟩
 ·exact ⟨(h.lT h1).1,(h.lT h2).2⟩
 ·exact ⟨(h.pM h1).1,(h.pM h2).2⟩
theorem Ar.ok.copy {A:Ar} (h:A.ok) (i:Int):(A.copy i).2.ok:=by
 unfold Ar.copy;dsimp only;split
 ·rename_i hc;have hf:=A.aU i;have hs:=Ar.jX h hf.1 hc.2.1;have:=h.h1;have:=h.h2;have:=h.h3;have:=h.h4;have hl:((A.ws.drop i.toNat).take (1+(A.aj i).2.1).toNat).length=(1+(A.aj i).2.1).toNat:=by simp;omega
  have hlay:(lay A.ws A.grn ((A.ws.drop i.toNat).take (1+(A.aj i).2.1).toNat)).length=A.ws.length:=dI (by omega);refine ⟨h.h1,?_,?_,?_,fun x hx=>?_⟩
  ·show A.nur≤A.grn+_;omega
  ·show A.grn+_≤(lay _ _ _).length;rw [hlay];omega
  ·show (lay _ _ _).length≤1280;rw [hlay];exact h.h4
  ·rcases nU hx with h1 | h1
   ·exact h.hw x h1
   ·exact h.hw x (List.mem_of_mem_drop (List.mem_of_mem_take h1))
 ·exact h
theorem Ar.ok.clear {A:Ar} (h:A.ok):A.clear.ok:=⟨Nat.zero_le _,h.h2,h.h3,h.h4,h.hw⟩
theorem Ar.ok.cut {A:Ar} (h:A.ok) {n:Nat} (hn:A.nur+n≤A.ws.length):(A.cut n).ok:=⟨h.h1,Nat.le_add_right _ _,hn,h.h4,h.hw⟩
def Ar.fits (n o:Int):Bool:=decide (16≤n) && decide (n≤256) && decide (0≤o) && decide (o≤1024)
def Ar.new (n o:Int):Ar:=⟨List.replicate (n+o).toNat 0,n.toNat,0,n.toNat⟩
theorem Ar.jJ {n o:Int} (h:Ar.fits n o=true):(Ar.new n o).ok:=by
 simp [Ar.fits] at h;refine ⟨Nat.zero_le _,Nat.le_refl _,?_,?_,fun x hx=>?_⟩
 ·simp [Ar.new];omega
 ·simp [Ar.new];omega
 ·simp [Ar.new] at hx;unfold br;omega
def Ar.list (A:Ar):Nat→Int→Int→List Int
 | 0,_,_=>[]
 | n+1,at_,e_=>if at_<e_ then (if (A.aj at_).2.2=0 then at_ :: A.list n (at_+1+(A.aj at_).2.1) e_ else []) else []
theorem Ar.gN (A:Ar):∀ (n:Nat) (i j:Int),(A.list n i j).length≤n
 | 0,_,_=>Nat.le_refl _
 | n+1,i,j=>by
  unfold Ar.list;split
  ·split
   ·simp;exact A.gN n _ _
   ·exact Nat.zero_le _
  ·exact Nat.zero_le _
theorem Ar.q5 {A:Ar} {n:Nat} {i j:Int} (h:i<j) (hc:(A.aj i).2.2=0):A.list (n+1) i j=i :: A.list n (i+1+(A.aj i).2.1) j:=by
 rw [Ar.list,if_pos h,if_pos hc]
theorem Ar.oT {A:Ar} {n:Nat} {i j:Int} (h:¬ (i<j∧(A.aj i).2.2=0)):A.list n i j=[]:=by
 cases n with
 | zero=>rfl
 | succ n=>
  rw [Ar.list];by_cases h1:i<j
  ·rw [if_pos h1,if_neg (fun h2=>h ⟨h1,h2⟩)]
  ·rw [if_neg h1]
def Ar.aT (A:Ar):List Int × List Int:=(A.list 1300 0 A.yng,A.list 1300 A.nur A.grn)
end
section
open Go.RowKit
structure bE (w:World) (p g:Nat) (A:Ar):Prop where
 hp:ah w p [.slice (some ⟨g,0,none⟩) A.ws.length A.ws.length, .int .i64 A.nur, .int .i64 A.yng, .int .i64 A.grn] 141
 hg:ah w g (A.ws.map (Value.int .i64)) 2
 ok:A.ok
theorem bE.ne {w:World} {p g:Nat} {A:Ar} (h:bE w p g A):p≠g:=h.hp.ne h.hg (by decide)
theorem bE.ae {w w':World} {p g:Nat} {A:Ar} {S:Nat→Prop} (h:bE w p g A) (k:ab S w w') (h1:¬ S p) (h2:¬ S g):bE w' p g A:=
 ⟨k.ak h.hp h1,k.ak h.hg h2,h.ok⟩
theorem bE.cells {w:World} {p g:Nat} {A:Ar} (h:bE w p g A) :
  w.cell? ⟨p,0,none⟩=some (.slice (some ⟨g,0,none⟩) A.ws.length A.ws.length)∧w.cell? ⟨p,1,none⟩=some (.int .i64 A.nur)∧w.cell? ⟨p,2,none⟩=some (.int .i64 A.yng)∧w.cell? ⟨p,3,none⟩=some (.int .i64 A.grn):=
 ⟨h.hp.cell 0,h.hp.cell 1,h.hp.cell 2,h.hp.cell 3⟩
theorem bE.word {w:World} {p g:Nat} {A:Ar} (h:bE w p g A) (i:Nat) (hi:i<A.ws.length):w.cell? ⟨g,i,none⟩=some (.int .i64 (A.ws.getD i 0)):=by
 rw [h.hg.cell i,List.getElem?_map,Le hi];simp [List.getD,hi]
structure a5 (w:World) (p g:Nat) (w':World) (A:Ar):Prop where
 at_:bE w' p g A
 k:ab (fun b=>b=p∨b=g) w w'
section
variable {p g:Nat} {A:Ar}
theorem cN (i:Int) (w:World) (h:bE w p g A) :
  Calls Tryz.prog 84 #[.pointer (some ⟨p,0,none⟩), .int .i64 i] w fun e w'=>e=.returned (.bool (A.aG i))∧w=w':=by
 obtain ⟨c0,c1,c2,c3⟩:=h.cells;have pl:=h.hp.lt;have HY:Hid (A.aG i=(decide (0≤i) && decide (i<A.yng))):=rfl;clear h c0 c1 c3;by_cases hi:0≤i
 ·have hd:decide (0≤i)=true:=by simpa using hi
  have HX:=Hz (show A.aG i=decide (i<(A.yng:Int)) by rw [HY.out,hd];rfl);clear HY;go_enter Tryz.func84,Tryz.ntmps84;go_wp2_with fail;go_ret;exact ⟨dg HX.out.symm,rfl⟩
 ·have hd:decide (0≤i)=false:=by simpa using hi
  have HX:=Hz (show A.aG i=false by rw [HY.out,hd];rfl);clear HY;go_enter Tryz.func84,Tryz.ntmps84;go_wp2_with fail;go_ret;exact ⟨dg HX.out.symm,rfl⟩
theorem iA (i:Int) (w:World) (h:bE w p g A) :
  Calls Tryz.prog 85 #[.pointer (some ⟨p,0,none⟩), .int .i64 i] w fun e w'=>e=.returned (.bool (A.aP i))∧w=w':=by
 obtain ⟨c0,c1,c2,c3⟩:=h.cells;have pl:=h.hp.lt;have HY:Hid (A.aP i=(decide ((A.nur:Int)≤i) && decide (i<A.grn))):=rfl;clear h c0 c2;by_cases hi:(A.nur:Int)≤i
 ·have hd:decide ((A.nur:Int)≤i)=true:=by simpa using hi
  have HX:=Hz (show A.aP i=decide (i<(A.grn:Int)) by rw [HY.out,hd];rfl);clear HY;go_enter Tryz.func85,Tryz.ntmps85;go_wp2_with fail;go_ret;exact ⟨dg HX.out.symm,rfl⟩
 ·have hd:decide ((A.nur:Int)≤i)=false:=by simpa using hi
  have HX:=Hz (show A.aP i=false by rw [HY.out,hd];rfl);clear HY;go_enter Tryz.func85,Tryz.ntmps85;go_wp2_with fail;go_ret;exact ⟨dg HX.out.symm,rfl⟩
theorem lH (w:World) (h:bE w p g A) :
  Calls Tryz.prog 21 #[.pointer (some ⟨p,0,none⟩)] w fun e w'=>e=.returned (.tuple #[.int .i64 A.yng, .int .i64 ((A.grn-A.nur:Nat):Int)])∧ab (fun _=>False) w w':=by
 obtain ⟨c0,c1,c2,c3⟩:=h.cells;have pl:=h.hp.lt;have o1:=h.ok.h1;have o2:=h.ok.h2;have o3:=h.ok.h3;have o4:=h.ok.h4;have hs:IntKind.i64.wrap ((A.grn:Int)-A.nur)=(A.grn:Int)-A.nur:=IntWalk.i64_in _ (by omega);go_enter Tryz.func21,Tryz.ntmps21;go_wp2_with fail;refine ay (.free 0 (.free 1 (.free 2 (.free 4 (.free 5 (.free 6 (.free 8 (.free 9 (.free 10 (.pure 3 (.free 13 (.pure 7 (.pure 11 (.free 12 (.free 14 (.fin)))))))))))))))) [] (fun w'=>w'.cell? ⟨p,1,none⟩=some (.int .i64 A.nur)∧w'.cell? ⟨p,2,none⟩=some (.int .i64 A.yng)∧w'.cell? ⟨p,3,none⟩=some (.int .i64 A.grn)) (by kernel_rfl) (by kernel_rfl) ⟨c1,c2,c3⟩ ?_
 iterate 15 ((first | refine au rfl rfl fun K hK=>?_ | refine aq rfl rfl fun K hK=>?_ | refine aF rfl rfl fun K hK=>?_ | refine az rfl rfl fun K hK=>?_ | refine aE rfl rfl fun K hK=>?_);go_simp;refine hK _ ?_;clear hK K)
 refine aB ?_;go_wp2_with fail;go_ret2;exact ⟨lG rfl (by omega),(ab.refl _ _).drew⟩
theorem jK (w:World) (h:bE w p g A) :
  Calls Tryz.prog 52 #[.pointer (some ⟨p,0,none⟩)] w fun e w'=>e=.returned (.tuple #[.int .i64 ((A.nur-A.yng:Nat):Int), .int .i64 ((A.ws.length-A.grn:Nat):Int)])∧ab (fun _=>False) w w':=by
 obtain ⟨c0,c1,c2,c3⟩:=h.cells;have pl:=h.hp.lt;have o1:=h.ok.h1;have o2:=h.ok.h2;have o3:=h.ok.h3;have o4:=h.ok.h4;have hs:IntKind.i64.wrap ((A.nur:Int)-A.yng)=(A.nur:Int)-A.yng:=IntWalk.i64_in _ (by omega);have hs2:IntKind.i64.wrap ((A.ws.length:Int)-A.grn)=(A.ws.length:Int)-A.grn:=IntWalk.i64_in _ (by omega);go_enter Tryz.func52,Tryz.ntmps52;go_wp2_with fail;refine ay (.free 0 (.free 1 (.free 2 (.free 4 (.free 5 (.free 6 (.free 9 (.free 10 (.free 11 (.free 14 (.free 15 (.free 16 (.pure 3 (.pure 7 (.free 8 (.free 19 (.pure 12 (.free 13 (.pure 17 (.free 18 (.free 20 (.fin)))))))))))))))))))))) [] (fun w'=>w'.cell? ⟨p,0,none⟩=some (.slice (some ⟨g,0,none⟩) A.ws.length A.ws.length)∧w'.cell? ⟨p,1,none⟩=some (.int .i64 A.nur)∧w'.cell? ⟨p,2,none⟩=some (.int .i64 A.yng)∧w'.cell? ⟨p,3,none⟩=some (.int .i64 A.grn)) (by kernel_rfl) (by kernel_rfl) ⟨c0,c1,c2,c3⟩ ?_
 iterate 21 ((first | refine au rfl rfl fun K hK=>?_ | refine aq rfl rfl fun K hK=>?_ | refine aF rfl rfl fun K hK=>?_ | refine az rfl rfl fun K hK=>?_ | refine aE rfl rfl fun K hK=>?_);go_simp;refine hK _ ?_;clear hK K)
 refine aB ?_;go_wp2_with fail;go_ret2;exact ⟨lG (by omega) (by omega),(ab.refl _ _).drew⟩
theorem eD (i:Int) (w:World) (h:bE w p g A) :
  Calls Tryz.prog 86 #[.pointer (some ⟨p,0,none⟩), .int .i64 i] w fun e w'=>e=.returned (.int .i64 (A.load i))∧w=w':=by
 have H:=Hz h;obtain ⟨c0,-,-,-⟩:=h.cells;have pl:=h.hp.lt;have hok:=h.ok;cases hy:A.aG i
 ·cases ho:A.aP i
  ·have HX:=Hz (show A.load i=0 by unfold Ar.load Ar.aS;rw [hy,ho];rfl);clear h c0;go_enter Tryz.func86,Tryz.ntmps86;go_wp2_with fail;refine (cN i _ H.out).mono ?_;rintro e w1 ⟨rfl,rfl⟩;rw [hy];go_wp2_with fail;refine (iA i _ H.out).mono ?_;rintro e w1 ⟨rfl,rfl⟩;rw [ho];go_wp2_with fail;go_ret;exact ⟨cM HX.out.symm,rfl⟩
  ·have hlt:=h.ok.pM ho;have HX:=Hz (show A.load i=A.ws.getD i.toNat 0 by unfold Ar.load Ar.aS;rw [hy,ho];rfl);obtain ⟨n,rfl⟩:∃ n:Nat,i=n:=⟨i.toNat,by omega⟩;have c4:=h.word n (by omega);have hlt2:(n:Int)<A.ws.length:=hlt.2;clear h hlt;go_enter Tryz.func86,Tryz.ntmps86;go_wp2_with fail;refine (cN n _ H.out).mono ?_;rintro e w1 ⟨rfl,rfl⟩;rw [hy];go_wp2_with fail;refine (iA n _ H.out).mono ?_;rintro e w1 ⟨rfl,rfl⟩;rw [ho];go_wp2_with fail;go_ret;exact ⟨cM (by rw [HX.out];simp),rfl⟩
 ·have hlt:=h.ok.lT hy;have HX:=Hz (show A.load i=A.ws.getD i.toNat 0 by unfold Ar.load Ar.aS;rw [hy];rfl);obtain ⟨n,rfl⟩:∃ n:Nat,i=n:=⟨i.toNat,by omega⟩;have c4:=h.word n (by omega);have hlt2:(n:Int)<A.ws.length:=hlt.2;clear h hlt;go_enter Tryz.func86,Tryz.ntmps86;go_wp2_with fail;refine (cN n _ H.out).mono ?_;rintro e w1 ⟨rfl,rfl⟩;rw [hy];go_wp2_with fail;go_ret;exact ⟨cM (by rw [HX.out];simp),rfl⟩
theorem bE.set {w:World} (h:bE w p g A) {n:Nat} (x:Int) (hx:br x) (hu:A.aS n=true):a5 w p g (w.setCell ⟨g,n,none⟩ (.int .i64 x)) (A.store n x):=by
 have hs:A.store n x={ A with ws:=A.ws.set n x }:=by unfold Ar.store;rw [hu];simp
 refine ⟨⟨?_,?_,h.ok.store _ _ hx⟩,(ab.refl _ _).setCell (.inl (.inr rfl)) _⟩
 ·have:=h.hp.ew (a:=⟨g,n,none⟩) h.ne (.int .i64 x);rw [hs];simpa using this
 ·have:=h.hg.aO n (.int .i64 x);rw [hs,List.map_set];exact this
theorem gy (i x:Int) (w:World) (h:bE w p g A) (hx:br x) :
  Calls Tryz.prog 23 #[.pointer (some ⟨p,0,none⟩), .int .i64 i, .int .i64 x] w fun e w'=>e=.returned (.bool (A.aS i))∧a5 w p g w' (A.store i x):=by
 have H:=Hz h;obtain ⟨c0,-,-,-⟩:=h.cells;have pl:=h.hp.lt;have HX:=Hz hx;clear hx;cases hu:A.aS i
 ·have hyo:=hu;unfold Ar.aS at hyo;rw [Bool.or_eq_false_iff] at hyo;obtain ⟨hy,ho⟩:=hyo;have HE:=Hz (show A.store i x=A by unfold Ar.store;rw [hu];rfl);clear h hu;go_enter Tryz.func23,Tryz.ntmps23;go_wp2_with fail;refine (cN i _ H.out).mono ?_;rintro e w1 ⟨rfl,rfl⟩;rw [hy];go_wp2_with fail;refine (iA i _ H.out).mono ?_;rintro e w1 ⟨rfl,rfl⟩;rw [ho];go_wp2_with fail;go_ret;exact ⟨rfl,by rw [HE.out];exact H.out,ab.refl _ _⟩
 ·have hlt:=h.ok.i6 hu;have HU:=Hz hu;obtain ⟨n,rfl⟩:∃ n:Nat,i=n:=⟨i.toNat,by omega⟩;have c4:=h.word n (by omega);have f4:=h.hg.free n;have hlt2:(n:Int)<A.ws.length:=hlt.2;clear h hlt;cases hy:A.aG n
  ·have ho:A.aP n=true:=by
    unfold Ar.aS at hu;rw [hy] at hu;simpa using hu
   clear hu;go_enter Tryz.func23,Tryz.ntmps23;go_wp2_with fail;refine (cN n _ H.out).mono ?_;rintro e w1 ⟨rfl,rfl⟩;rw [hy];go_wp2_with fail;refine (iA n _ H.out).mono ?_;rintro e w1 ⟨rfl,rfl⟩;rw [ho];go_wp2_with fail;go_ret;exact ⟨rfl,H.out.set x HX.out HU.out⟩
  ·clear hu;go_enter Tryz.func23,Tryz.ntmps23;go_wp2_with fail;refine (cN n _ H.out).mono ?_;rintro e w1 ⟨rfl,rfl⟩;rw [hy];go_wp2_with fail;go_ret;exact ⟨rfl,H.out.set x HX.out HU.out⟩
theorem gz (i:Int) (w:World) (h:bE w p g A) :
  Calls Tryz.prog 79 #[.pointer (some ⟨p,0,none⟩), .int .i64 i] w fun e w'=>e=.returned (.tuple #[.int .i64 (A.aj i).1, .int .i64 (A.aj i).2.1, .int .i64 (A.aj i).2.2])∧w=w':=by
 go_enter Tryz.func79,Tryz.ntmps79;go_wp2_with fail;refine (eD i _ h).mono ?_;rintro e w1 ⟨rfl,rfl⟩;have hr:=h.ok.load i;go_wp2_with fail;refine (zE (A.load i) _ hr.1 hr.2).mono ?_;rintro e w1 ⟨rfl,rfl⟩;go_wp2_with fail
 go_ret3
 exact ⟨rfl,rfl⟩
theorem r8 (w:World) (h:bE w p g A) :
  Calls Tryz.prog 64 #[.pointer (some ⟨p,0,none⟩)] w fun e w'=>e=.returned (.tuple #[])∧a5 w p g w' A.clear:=by
 have H:=Hz h;obtain ⟨-,-,c2,-⟩:=h.cells;have f2:=h.hp.free 2;have pl:=h.hp.lt;clear h;go_enter Tryz.func64,Tryz.ntmps64;go_wp2_with fail;go_end0;refine ⟨rfl,⟨?_,?_,H.out.ok.clear⟩,(ab.refl _ _).setCell (.inl (.inl rfl)) _⟩
 ·simpa [Ar.clear] using H.out.hp.aO 2 (.int .i64 0)
 ·exact H.out.hg.ew (a:=⟨p,2,none⟩) (Ne.symm H.out.ne) _
theorem AM (n:Nat) (w:World) (h:bE w p g A) (hn:A.nur+n≤A.ws.length) :
  Calls Tryz.prog 81 #[.pointer (some ⟨p,0,none⟩), .int .i64 n] w fun e w'=>e=.returned (.tuple #[])∧a5 w p g w' (A.cut n):=by
 have H:=Hz h;obtain ⟨-,c1,-,c3⟩:=h.cells;have f3:=h.hp.free 3;have pl:=h.hp.lt;have o4:=h.ok.h4;clear h;go_enter Tryz.func81,Tryz.ntmps81;go_wp2_with fail;go_end0;refine ⟨rfl,⟨?_,?_,H.out.ok.cut hn⟩,(ab.refl _ _).setCell (.inl (.inl rfl)) _⟩
 ·simpa [Ar.cut] using H.out.hp.aO 3 (.int .i64 ((A.nur:Int)+n))
 ·exact H.out.hg.ew (a:=⟨p,3,none⟩) (Ne.symm H.out.ne) _
end
end
section
open Go.RowKit
theorem q6 {P:Program} {w:World} {o:Oper} {a:Act} {K:Act→World→Prop} (d s:Operand) (t:TypeId)
  (ho:o.op=.call { callee:=.builtin .copy,args:=#[d,s],argTypes:=#[t,t] })
  (e:TypeId) (hu:P.underlying t=some (.slice e)) (hsz:(P.info? e).map (·.size)=some 1)
  (g off dLen dCap:Nat) (ad:Addr) (sLen sCap:Nat) (hd:a.eval d=.slice (some ⟨g,off,none⟩) dLen dCap) (hs:a.eval s=.slice (some ad) sLen sCap)
  (cur:List Value) (hb:ah w g cur e) (cs:List Value) (hn:cs.length=Nat.min sLen dLen)
  (hsrc:∀ j v,cs[j]? = some v→w.cell? (ad.add j)=some v) (hfit:off+cs.length≤cur.length) (h1:∀ v ∈ cs,v.oneCell'=true)
  (h:K (a.put o.dst (goInt cs.length)) (w.setRow g (cur.take off ++ cs ++ cur.drop (off+cs.length)).toArray)):aC P o a w K:=by
 have hrun:=run_copy_row (P:=P) w t t o.type e g off dLen dCap ad sLen sCap cur.toArray e cs hu hsz hb hn hsrc (by simpa using hfit) h1;unfold aC execOp;simp only [ho,resolve,invoke,builtin,Sem.run_bind,Sem.run_pure,Result.andThen_ok,List.map_toArray,List.map_cons,List.map_nil,hd,hs,hrun];exact h
theorem um {l m:List Int} {i:Nat} (f:Int→Value):(lay l i m).map f=(l.map f).take i ++ m.map f ++ (l.map f).drop (i+(m.map f).length):=by
 unfold lay;simp [List.map_take,List.map_drop]
theorem zG {l:List Int} {i j:Nat} {h:Int} (hl:i+1+j<l.length):(lay l i (h :: List.replicate j 2)).set (i+1+j) 2=lay l i (h :: List.replicate (j+1) 2):=by
 apply List.ext_getElem?;intro k;have e1:(h :: List.replicate j (2:Int)).length=j+1:=by simp
 have e2:(h :: List.replicate (j+1) (2:Int)).length=j+2:=by simp
 have hl1:(lay l i (h :: List.replicate j 2)).length=l.length:=dI (by rw [e1];omega);rw [List.getElem?_set,qH (by rw [e1];omega),qH (by rw [e2];omega),e1,e2,hl1];by_cases hk:i+1+j=k
 ·subst hk;rw [if_pos rfl,if_pos hl,if_pos (by omega)];rw [show i+1+j-i=j+1 by omega,Ls,List.getElem?_replicate,if_pos (by omega)]
 ·rw [if_neg hk];by_cases h2:i≤k∧k<i+(j+1)
  ·rw [if_pos h2,if_pos (by omega)];obtain ⟨m,rfl⟩:∃ m,k=i+m:=⟨k-i,by omega⟩;rw [show i+m-i=m by omega];cases m with
   | zero=>rfl
   | succ m=>rw [Ls,Ls,List.getElem?_replicate,List.getElem?_replicate,if_pos (by omega),if_pos (by omega)]
  ·rw [if_neg h2,if_neg (by omega)]
theorem zH {l:List Int} {i:Nat} {h:Int} (hl:i<l.length):l.set i h=lay l i [h]:=by
 unfold lay;rw [List.set_eq_take_append_cons_drop,if_pos hl];simp
theorem ab.self {S:Nat→Prop} {w w':World} (h:ab (fun _=>False) w w'):ab S w w':=h.mono fun _ _ h=>h.elim
section
variable {p g:Nat} {A:Ar}
theorem a5.refl {w w':World} (h:bE w p g A) (k:ab (fun _=>False) w w'):a5 w p g w' A:=⟨h.ae k (fun h=>h) (fun h=>h),k.self⟩
theorem a5.trans {w w1 w2:World} {B C:Ar} (h:a5 w p g w1 B) (k:a5 w1 p g w2 C):a5 w p g w2 C:=⟨k.at_,h.k.trans k.k⟩
theorem uq (n:Int) (w:World) (h:bE w p g A) (h0:0≤n) (h1:n≤1000) :
  Calls Tryz.prog 139 #[.pointer (some ⟨p,0,none⟩), .int .i64 n, .bool false] w fun e w'=>e=.returned (.int .i64 (A.nS n).1)∧a5 w p g w' (A.nS n).2:=by
 have H:=Hz h;have o1:=h.ok.h1;have o2:=h.ok.h2;have o3:=h.ok.h3;have o4:=h.ok.h4;have hn:decide ((0:Int)≤n)=true:=by simpa using h0
 clear h;by_cases hc:n≤((A.nur-A.yng:Nat):Int)
 ·have hcb:decide (n≤((A.nur-A.yng:Nat):Int))=true:=by simpa using hc
  have HE:=Hz (show A.nS n=((A.yng:Int), { A with yng:=A.yng+n.toNat }) from if_pos ⟨h0,by omega⟩);go_enter Tryz.func139,Tryz.ntmps139;go_wp2_with fail;refine (jK _ H.out).mono ?_;rintro e w1 ⟨rfl,hk⟩;have H1:=Hz (H.out.ae hk (fun h=>h) (fun h=>h));have HK:=Hz hk;obtain ⟨-,-,c2,-⟩:=H1.out.cells;have f2:=H1.out.hp.free 2;have pl:=H1.out.hp.lt;clear hk;go_wp2_with fail;go_ret;refine ⟨by rw [HE.out];exact cM (by dsimp only;try omega),?_⟩;rw [HE.out];refine ⟨⟨?_,?_,?_⟩,(HK.out.self).setCell (p:=⟨p,2,none⟩) (.inl (.inl rfl)) _⟩
  ·have:=H1.out.hp.aO 2 (.int .i64 ((A.yng:Int)+n));have e:((A.yng:Int)+n)=((A.yng+n.toNat:Nat):Int):=by omega
   rw [e] at this ⊢;simpa using this
  ·exact H1.out.hg.ew (a:=⟨p,2,none⟩) (Ne.symm H.out.ne) _
  ·exact ⟨by show A.yng+n.toNat≤A.nur;omega,o2,o3,o4,H.out.ok.hw⟩
 ·have hcb:decide (n≤((A.nur-A.yng:Nat):Int))=false:=by simpa using hc
  have HE:=Hz (show A.nS n=(-1,A) from if_neg (by omega));go_enter Tryz.func139,Tryz.ntmps139;go_wp2_with fail;refine (jK _ H.out).mono ?_;rintro e w1 ⟨rfl,hk⟩;go_wp2_with fail;go_ret;refine ⟨by rw [HE.out];rfl,?_⟩;rw [HE.out];exact a5.refl H.out hk
theorem ur (n:Int) (w:World) (h:bE w p g A) (h0:0≤n) (h1:n≤1000) :
  Calls Tryz.prog 139 #[.pointer (some ⟨p,0,none⟩), .int .i64 n, .bool true] w fun e w'=>e=.returned (.int .i64 (A.nT n).1)∧a5 w p g w' (A.nT n).2:=by
 have H:=Hz h;have o1:=h.ok.h1;have o2:=h.ok.h2;have o3:=h.ok.h3;have o4:=h.ok.h4;have hn:decide ((0:Int)≤n)=true:=by simpa using h0
 clear h;by_cases hc:n≤((A.ws.length-A.grn:Nat):Int)
 ·have hcb:decide (n≤((A.ws.length-A.grn:Nat):Int))=true:=by simpa using hc
  have HE:=Hz (show A.nT n=((A.grn:Int), { A with grn:=A.grn+n.toNat }) from if_pos ⟨h0,by omega⟩);go_enter Tryz.func139,Tryz.ntmps139;go_wp2_with fail;refine (jK _ H.out).mono ?_;rintro e w1 ⟨rfl,hk⟩;have H1:=Hz (H.out.ae hk (fun h=>h) (fun h=>h));have HK:=Hz hk;obtain ⟨-,-,-,c2⟩:=H1.out.cells;have f2:=H1.out.hp.free 3;have pl:=H1.out.hp.lt;clear hk;go_wp2_with fail;go_ret;refine ⟨by rw [HE.out];exact cM (by dsimp only;try omega),?_⟩;rw [HE.out];refine ⟨⟨?_,?_,?_⟩,(HK.out.self).setCell (p:=⟨p,3,none⟩) (.inl (.inl rfl)) _⟩
  ·have:=H1.out.hp.aO 3 (.int .i64 ((A.grn:Int)+n));have e:((A.grn:Int)+n)=((A.grn+n.toNat:Nat):Int):=by omega
   rw [e] at this ⊢;simpa using this
  ·exact H1.out.hg.ew (a:=⟨p,3,none⟩) (Ne.symm H.out.ne) _
  ·exact ⟨o1,by show A.nur≤A.grn+n.toNat;omega,by show A.grn+n.toNat≤A.ws.length;omega,o4,H.out.ok.hw⟩
 ·have hcb:decide (n≤((A.ws.length-A.grn:Nat):Int))=false:=by simpa using hc
  have HE:=Hz (show A.nT n=(-1,A) from if_neg (by omega));go_enter Tryz.func139,Tryz.ntmps139;go_wp2_with fail;refine (jK _ H.out).mono ?_;rintro e w1 ⟨rfl,hk⟩;go_wp2_with fail;go_ret;refine ⟨by rw [HE.out];rfl,?_⟩;rw [HE.out];exact a5.refl H.out hk
theorem AO (k f:Int) (w:World) (h:bE w p g A) (hf:br f) :
  Calls Tryz.prog 83 #[.pointer (some ⟨p,0,none⟩), .int .i64 k, .int .i64 f, .bool false] w fun e w'=>e=.returned (.int .i64 (A.make k f).1)∧a5 w p g w' (A.make k f).2:=by
 have H:=Hz h;have o1:=h.ok.h1;have o2:=h.ok.h2;have o3:=h.ok.h3;have o4:=h.ok.h4;have HOK:=Hz (h.ok.make k f);have HF:=Hz hf;clear h hf;cases hfit:bs k f
 ·have HE:=Hz (Ar.uk (A:=A) (k:=k) (f:=f) (by rw [hfit];simp));have hcode:=(pK hfit).2;clear hfit;go_enter Tryz.func83,Tryz.ntmps83;go_wp2_with fail;refine (mU k f _ HF.out.1 HF.out.2).mono ?_;rintro e w1 ⟨rfl,rfl⟩;go_wp2_with fail;go_ret;rw [HE.out];exact ⟨rfl,a5.refl H.out (ab.refl _ _)⟩
 ·have hs:=bP hfit;obtain ⟨n,rfl⟩:∃ n:Nat,f=n:=⟨f.toNat,by omega⟩;have hn:n≤12:=by omega
  have HH:=Hz (pL hfit);by_cases hroom:1+(n:Int)≤(A.nur:Int)-A.yng
  ·have HE:=Hz (show A.make k n=((A.yng:Int), { A with yng:=A.yng+(1+(n:Int)).toNat,ws:=lay A.ws A.yng (eX k n) }) from if_pos ⟨hfit,hroom⟩);have HT:=Hz (show A.nS (1+(n:Int))=((A.yng:Int), { A with yng:=A.yng+(1+(n:Int)).toNat }) from if_pos ⟨by omega,hroom⟩);have hk1:=hs.1;have hk2:=hs.2.1;clear hfit hs;go_enter Tryz.func83,Tryz.ntmps83;go_wp2_with fail;refine (mU k n _ HF.out.1 HF.out.2).mono ?_;rintro e w1 ⟨rfl,rfl⟩;rw [HH.out];go_wp2_with fail;refine (uq (1+(n:Int)) _ H.out (by omega) (by omega)).mono ?_;rintro e w2 ⟨rfl,hto⟩;rw [HT.out] at hto ⊢;dsimp only at hto ⊢;have HTO:=Hz hto;obtain ⟨c0,-,-,-⟩:=hto.at_.cells;have pl:=hto.at_.hp.lt;have gl:=hto.at_.hg.lt;have c4:=hto.at_.word A.yng (by dsimp only;omega);have f4:=hto.at_.hg.free A.yng;dsimp only at c0 c4;have hlt:(A.yng:Int)<A.ws.length:=by omega
   clear hto;go_wp2_with fail;have hb0:=HTO.out.at_.hg.aO A.yng (.int .i64 (16*(n:Int)+k));have hp0:=HTO.out.at_.hp.ew (a:=⟨g,A.yng,none⟩) H.out.ne (.int .i64 (16*(n:Int)+k));have hk0:=HTO.out.k.setCell (p:=⟨g,A.yng,none⟩) (.inl (.inr rfl)) (.int .i64 (16*(n:Int)+k));dsimp only at hb0 hp0;rw [←List.map_set,zH (by omega)] at hb0;generalize w2.setCell ⟨g,A.yng,none⟩ (.int .i64 (16*(n:Int)+k))=w3 at *;have HB0:=Hz hb0;have HP0:=Hz hp0;have HK0:=Hz hk0;clear hb0 hp0 hk0 c0 c4 f4 HTO;go_loopw [36] (fun i wr=>∃ j:Nat,j≤n∧i=.int .i64 j∧ah wr g ((lay A.ws A.yng ((16*(n:Int)+k) :: List.replicate j 2)).map (Value.int .i64)) 2∧ab (fun b=>b=g) w3 wr) (fun i _=>n-(intOf i).toNat)
   case atStart=>exact ⟨0,Nat.zero_le _,rfl,HB0.out,ab.refl _ _⟩
   case round=>
    obtain ⟨j,hj,rfl,hb,hk⟩:=hrel;have HB:=Hz hb;have HK:=Hz hk;have hpr:=hk.ak HP0.out H.out.ne;have c0:=hpr.cell 0;have pl:=hpr.lt;have gl:=hb.lt;simp only [Lz] at c0;have HPR:=Hz hpr;by_cases hlt2:j<n
    ·have f4:=hb.free (A.yng+1+j);have c4:∃ v,wr.cell? ⟨g,A.yng+1+j,none⟩=some v:=by
      have hl:(lay A.ws A.yng ((16*(n:Int)+k) :: List.replicate j 2)).length=A.ws.length:=dI (by simp;omega);rw [hb.cell,List.getElem?_map,Le (by rw [hl];omega)];exact ⟨_,rfl⟩
     obtain ⟨v4,c4⟩:=c4;have hix:(A.yng:Int)+1+j<A.ws.length:=by omega
     have hw1:IntKind.i64.wrap ((A.yng:Int)+1)=(A.yng:Int)+1:=IntWalk.i64_in _ (by omega);have hw2:IntKind.i64.wrap ((A.yng:Int)+1+j)=(A.yng:Int)+1+j:=IntWalk.i64_in _ (by omega);have hw3:((A.yng:Int)+1+j).toNat=A.yng+1+j:=by omega
     have hw4:(0:Int)≤(A.yng:Int)+1+j:=by omega
     clear hb hk hpr;go_wp2_with fail;refine ay (.free 0 (.free 1 (.free 2 (.free 4 (.free 5 (.free 6 (.free 7 (.pure 3 (.run 8 (.free 9 (.run 10 (.swi [] (.fin))))))))))))) [10] (fun w'=>w'.cell? ⟨p,0,none⟩=some (.slice (some ⟨g,0,none⟩) A.ws.length A.ws.length)) (by kernel_rfl) (by kernel_rfl) c0 ?_
     iterate 8 ((first | refine au rfl rfl fun K hK=>?_ | refine aq rfl rfl fun K hK=>?_ | refine aF rfl rfl fun K hK=>?_ | refine az rfl rfl fun K hK=>?_ | refine aE rfl rfl fun K hK=>?_);go_simp;refine hK _ ?_;clear hK K)
     refine aM rfl rfl (fun K hK=>?_);unfold aC;go_simp;refine (uW _).mono ?_;rintro e w5 ⟨rfl,rfl⟩;refine hK _ _ (fun hg=>c0) ?_;clear hK K
     iterate 1 ((first | refine au rfl rfl fun K hK=>?_ | refine aq rfl rfl fun K hK=>?_);go_simp;refine hK _ ?_;clear hK K)
     refine aJ rfl rfl rfl (fun K hK=>?_);unfold aC;go_simp;refine hK _ _ ?_;clear hK K;refine aH (fun _=>True) trivial (aB ?_);clear hw1 hw2 hw3 hw4;have hset:=zG (l:=A.ws) (i:=A.yng) (j:=j) (h:=16*(n:Int)+k) (by omega);have da:ah (wr.setCell ⟨g,A.yng+1+j,none⟩ (.int .i64 2)) g ((lay A.ws A.yng ((16*(n:Int)+k) :: List.replicate (j+1) 2)).map (Value.int .i64)) 2:=by
      rw [←hset,List.map_set];exact HB.out.aO _ _
     have HB2:=Hz da;have HK2:=Hz (HK.out.setCell (p:=⟨g,A.yng+1+j,none⟩) (.inl rfl) (.int .i64 2));clear hset da c0 c4 f4;go_wp2_with fail;go_roundw
     case rel=>exact ⟨j+1,by omega,by go_num,HB2.out.drew,HK2.out.drew⟩
     case measure=>simp [intOf];omega
    ·obtain rfl:j=n:=by omega
     clear hb hk hpr;go_wp2_with fail;go_ret;have hok:=HOK.out;rw [HE.out] at hok ⊢;have hl:(lay A.ws A.yng (eX k j)).length=A.ws.length:=dI (by rw [jR (by omega)];omega);refine ⟨rfl,⟨?_,HB.out,hok⟩,HK0.out.trans (HK.out.mono fun _ _ h=>.inr h)⟩;have:=HPR.out;dsimp only;rw [hl];exact this
  ·have HE:=Hz (Ar.uk (A:=A) (k:=k) (f:=n) (fun h=>hroom h.2));have HT:=Hz (show A.nS (1+(n:Int))=(-1,A) from if_neg (fun h=>hroom h.2));clear hfit hs hroom;go_enter Tryz.func83,Tryz.ntmps83;go_wp2_with fail;refine (mU k n _ HF.out.1 HF.out.2).mono ?_;rintro e w1 ⟨rfl,rfl⟩;rw [HH.out];go_wp2_with fail;refine (uq (1+(n:Int)) _ H.out (by omega) (by omega)).mono ?_;rintro e w2 ⟨rfl,hto⟩;rw [HT.out] at hto ⊢;dsimp only at hto ⊢;go_wp2_with fail;go_ret;rw [HE.out];exact ⟨rfl,hto⟩
theorem AP (k f:Int) (w:World) (h:bE w p g A) (hf:br f) :
  Calls Tryz.prog 22 #[.pointer (some ⟨p,0,none⟩), .int .i64 k, .int .i64 f] w fun e w'=>e=.returned (.int .i64 (A.make k f).1)∧a5 w p g w' (A.make k f).2:=by
 go_enter Tryz.func22,Tryz.ntmps22;go_wp2_with fail;refine (AO k f _ h hf).mono ?_;rintro e w1 ⟨rfl,hto⟩;go_wp2_with fail;go_ret;exact ⟨rfl,hto⟩
end
end
section
open Go.RowKit
theorem ku {l:List Int}:∀ u ∈ l.map (Value.int .i64),u.oneCell'=true:=by
 intro u hu;simp only [List.mem_map] at hu;obtain ⟨x,-,rfl⟩:=hu;rfl
section
variable {p g:Nat} {A:Ar}
theorem zI (i:Int) (w:World) (h:bE w p g A) :
  Calls Tryz.prog 120 #[.pointer (some ⟨p,0,none⟩), .int .i64 i] w fun e w'=>e=.returned (.int .i64 (A.copy i).1)∧a5 w p g w' (A.copy i).2:=by
 have H:=Hz h;have o1:=h.ok.h1;have o2:=h.ok.h2;have o3:=h.ok.h3;have o4:=h.ok.h4;have HOK:=Hz (h.ok.copy i);have hfl:=A.aU i;have HU:=Hz (A.mV (i:=i));have HUL:=Hz (h.ok.i6 (i:=i));have HNO:=Hz (Ar.zF (A:=A) (i:=i));have HYES:=Hz (Ar.r7 (A:=A) (i:=i));have HWS:=Hz (Ar.jX h.ok (i:=i) (n:=(A.aj i).2.1) hfl.1);clear h;obtain ⟨⟨k,n,c⟩,hT⟩:∃ t,A.aj i=t:=⟨_,rfl⟩;rw [hT] at hfl HU HNO HYES HWS;dsimp only at hfl HU HNO HYES HWS;have HT:=Hz hT;clear hT;obtain ⟨n,rfl⟩:∃ q:Nat,n=q:=⟨n.toNat,by omega⟩;have hn:n≤12:=by omega
 clear hfl;go_enter Tryz.func120,Tryz.ntmps120;go_wp2_with fail;refine (gz i _ H.out).mono ?_;rintro e w1 ⟨rfl,rfl⟩;rw [HT.out];dsimp only;by_cases hc:c=0
 ·subst hc;have hu:=HUL.out (HU.out rfl);obtain ⟨m,rfl⟩:∃ m:Nat,i=m:=⟨i.toNat,by omega⟩;have hm:m<1280:=by omega
  have HW:Hid (A.whole m n=((A.aG m && A.aG ((m:Int)+n)) || (A.aP m && A.aP ((m:Int)+n)))):=rfl;have HYO:Hid (A.aG m=true→A.aP m=false):=fun h=>by
   simp [Ar.aG] at h;simp [Ar.aP];omega
  clear hu;go_upto_region 2 with fail
  go_cut [42] (fun v wx=>v=.bool (!A.whole m n)∧wx=w)
  case first=>
   cases hy:A.aG m
   ·cases ho:A.aP m
    ·have HX:=Hz (show A.whole m n=false by rw [HW.out,hy,ho];rfl);go_wp2_with fail;refine (cN m _ H.out).mono ?_;rintro e w1 ⟨rfl,rfl⟩;rw [hy];go_wp2_with fail;refine (iA m _ H.out).mono ?_;rintro e w1 ⟨rfl,rfl⟩;rw [ho];go_wp2_with fail
     go_meet
     exact ⟨by rw [HX.out];rfl,rfl⟩
    ·have HX:=Hz (show A.whole m n=A.aP ((m:Int)+n) by rw [HW.out,hy,ho];simp);go_wp2_with fail;refine (cN m _ H.out).mono ?_;rintro e w1 ⟨rfl,rfl⟩;rw [hy];go_wp2_with fail;refine (iA m _ H.out).mono ?_;rintro e w1 ⟨rfl,rfl⟩;rw [ho];go_wp2_with fail;refine (iA ((m:Int)+n) _ H.out).mono ?_;rintro e w1 ⟨rfl,rfl⟩;rw [←HX.out];go_wp2_with fail
     go_meet
     exact ⟨rfl,rfl⟩
   ·have ho:=HYO.out hy;cases hy2:A.aG ((m:Int)+n)
    ·have HX:=Hz (show A.whole m n=false by rw [HW.out,hy,hy2,ho];simp);go_wp2_with fail;refine (cN m _ H.out).mono ?_;rintro e w1 ⟨rfl,rfl⟩;rw [hy];go_wp2_with fail;refine (cN ((m:Int)+n) _ H.out).mono ?_;rintro e w1 ⟨rfl,rfl⟩;rw [hy2];go_wp2_with fail;refine (iA m _ H.out).mono ?_;rintro e w1 ⟨rfl,rfl⟩;rw [ho];go_wp2_with fail
     go_meet
     exact ⟨by rw [HX.out];rfl,rfl⟩
    ·have HX:=Hz (show A.whole m n=true by rw [HW.out,hy,hy2];simp);go_wp2_with fail;refine (cN m _ H.out).mono ?_;rintro e w1 ⟨rfl,rfl⟩;rw [hy];go_wp2_with fail;refine (cN ((m:Int)+n) _ H.out).mono ?_;rintro e w1 ⟨rfl,rfl⟩;rw [hy2];go_wp2_with fail
     go_meet
     exact ⟨by rw [HX.out];rfl,rfl⟩
  case rest=>
   obtain ⟨rfl,rfl⟩:=hcut;cases hw:A.whole m n
   ·have HE:=Hz (HNO.out (by rw [hw];simp));go_wp2_with fail;go_ret;exact ⟨by rw [HE.out];rfl,by rw [HE.out];exact a5.refl H.out (ab.refl _ _)⟩
   ·have hws:=HWS.out hw;by_cases hroom:1+(n:Int)≤(A.ws.length:Int)-A.grn
    ·have HE:=Hz (HYES.out ⟨rfl,hw,hroom⟩);have HTK:=Hz (show A.nT (1+(n:Int))=((A.grn:Int), { A with grn:=A.grn+(1+(n:Int)).toNat }) from if_pos ⟨by omega,hroom⟩);go_wp2_with fail;refine (ur (1+(n:Int)) _ H.out (by omega) (by omega)).mono ?_;rintro e w2 ⟨rfl,hto⟩;rw [HTK.out] at hto ⊢;dsimp only at hto ⊢;have HTO:=Hz hto;obtain ⟨c0,-,-,-⟩:=hto.at_.cells;have pl:=hto.at_.hp.lt;have gl:=hto.at_.hg.lt;dsimp only at c0;clear hto;have hw1:IntKind.i64.wrap ((A.grn:Int)+1)=(A.grn:Int)+1:=IntWalk.i64_in _ (by omega);have hw2:IntKind.i64.wrap ((A.grn:Int)+1+n)=(A.grn:Int)+1+n:=IntWalk.i64_in _ (by omega);have hw3:IntKind.i64.wrap ((m:Int)+1)=(m:Int)+1:=IntWalk.i64_in _ (by omega);have hw4:IntKind.i64.wrap ((m:Int)+1+n)=(m:Int)+1+n:=IntWalk.i64_in _ (by omega);have b1:(A.grn:Int)≤(A.grn:Int)+1+n:=by omega
     have b2:(A.grn:Int)+1+n≤(A.ws.length:Int):=by omega
     have b3:(m:Int)≤(m:Int)+1+n:=by omega
     have b4:(m:Int)+1+n≤(A.ws.length:Int):=by omega
     have b5:(0:Int)≤(A.grn:Int)+1+n:=by omega
     have b6:(0:Int)≤(m:Int)+1+n:=by omega
     have b7:((A.grn:Int)+1+n).toNat=A.grn+1+n:=by omega
     have b8:((m:Int)+1+n).toNat=m+1+n:=by omega
     have q1:¬ A.ws.length=A.grn:=by omega
     have q2:¬ A.ws.length=m:=by omega
     go_wp2_with fail;refine ay (.free 0 (.free 1 (.free 2 (.free 4 (.free 5 (.free 6 (.free 7 (.free 8 (.free 10 (.free 11 (.free 12 (.free 14 (.free 15 (.free 16 (.free 17 (.free 18 (.pure 3 (.free 9 (.pure 13 (.free 19 (.run 20 (.swi [] (.fin))))))))))))))))))))))) [20] (fun w'=>w'.cell? ⟨p,0,none⟩=some (.slice (some ⟨g,0,none⟩) A.ws.length A.ws.length)) (by kernel_rfl) (by kernel_rfl) c0 ?_
     iterate 20 ((first | refine au rfl rfl fun K hK=>?_ | refine aq rfl rfl fun K hK=>?_ | refine aF rfl rfl fun K hK=>?_ | refine az rfl rfl fun K hK=>?_ | refine aE rfl rfl fun K hK=>?_);go_simp;refine hK _ ?_;clear hK K)
     clear hw1 hw2 hw3 hw4 b1 b2 b3 b4 b5 b6 b7 b8;have hcl:(((A.ws.drop m).take (1+n)).map (Value.int .i64)).length=1+n:=by simp;omega
     have hfit:A.grn+(1+n)≤A.ws.length:=by omega
     have HCL:=Hz hcl;clear hcl;refine aJ rfl rfl rfl (fun K hK=>?_);refine q6 (.tmp 58) (.tmp 68) 50 rfl 2 Tryz.underlying50 (by kernel_rfl) g A.grn _ _ ⟨g,m,none⟩ _ _ (by rfl) (by rfl) (A.ws.map (Value.int .i64)) HTO.out.at_.hg.drew (((A.ws.drop m).take (1+n)).map (Value.int .i64)) ?hn ?hsrc ?hfit ku ?_
     case hn=>rw [HCL.out];show 1+n=min _ _;omega
     case hsrc=>
      intro j v hj;have hlt:=(List.getElem?_eq_some_iff.1 hj).1;rw [HCL.out] at hlt;have hg:=HTO.out.at_.hg.cell (m+j);dsimp only at hg;rw [eI]
      show w2.cell? ⟨g,m+j,none⟩=some v
      rw [hg,←hj];simp only [List.getElem?_map,List.getElem?_take,List.getElem?_drop,if_pos hlt]
     case hfit=>rw [HCL.out];simpa using hfit
     refine hK _ _ ?_;clear hK K;have hb5:ah (w2.drew.setRow g ((A.ws.map (Value.int .i64)).take A.grn ++ ((A.ws.drop m).take (1+n)).map (Value.int .i64) ++ (A.ws.map (Value.int .i64)).drop (A.grn+(((A.ws.drop m).take (1+n)).map (Value.int .i64)).length)).toArray) g ((lay A.ws A.grn ((A.ws.drop m).take (1+n))).map (Value.int .i64)) 2:=by
      rw [um];exact ah.setRow (w:=w2.drew) HTO.out.at_.hg.drew _
     have hp5:=HTO.out.at_.hp.drew.lu H.out.ne ((A.ws.map (Value.int .i64)).take A.grn ++ ((A.ws.drop m).take (1+n)).map (Value.int .i64) ++ (A.ws.map (Value.int .i64)).drop (A.grn+(((A.ws.drop m).take (1+n)).map (Value.int .i64)).length)).toArray;have hk5:=(HTO.out.k.drew).setRow (g:=g) (.inl (.inr rfl)) ((A.ws.map (Value.int .i64)).take A.grn ++ ((A.ws.drop m).take (1+n)).map (Value.int .i64) ++ (A.ws.map (Value.int .i64)).drop (A.grn+(((A.ws.drop m).take (1+n)).map (Value.int .i64)).length)).toArray;dsimp only at hp5;generalize w2.drew.setRow g _=w5 at *;have HB5:=Hz hb5;have HP5:=Hz hp5;have HK5:=Hz hk5;clear hb5 hp5 hk5;refine aH (fun _=>True) trivial (aB ?_);go_wp2_with fail;go_ret;have hok:=HOK.out;rw [HE.out] at hok ⊢;have ho2:lay A.ws A.grn ((A.ws.drop ((m:Int)).toNat).take (1+(n:Int)).toNat)=lay A.ws A.grn ((A.ws.drop m).take (1+n)):=by
      rw [show ((m:Int)).toNat=m by omega,show (1+(n:Int)).toNat=1+n by omega]
     have hl:(lay A.ws A.grn ((A.ws.drop m).take (1+n))).length=A.ws.length:=dI (by have:=HCL.out;simp only [List.length_map] at this;omega);refine ⟨rfl,⟨?_,?_,hok⟩,HK5.out⟩
     ·dsimp only;rw [ho2,hl];exact HP5.out
     ·dsimp only;rw [ho2];exact HB5.out
    ·have HE:=Hz (HNO.out (fun h=>hroom h.2.2));have HTK:=Hz (show A.nT (1+(n:Int))=(-1,A) from if_neg (fun h=>hroom h.2));go_wp2_with fail;refine (ur (1+(n:Int)) _ H.out (by omega) (by omega)).mono ?_;rintro e w2 ⟨rfl,hto⟩;rw [HTK.out] at hto ⊢;dsimp only at hto ⊢;go_wp2_with fail;go_ret;exact ⟨by rw [HE.out];rfl,by rw [HE.out];exact hto⟩
 ·have HE:=Hz (HNO.out (fun h=>hc h.1));have hcb:(c != 0)=true:=by simpa using hc
  clear hc;go_wp2_with fail;go_ret;exact ⟨by rw [HE.out];rfl,by rw [HE.out];exact a5.refl H.out (ab.refl _ _)⟩
end
end
section
open Go.RowKit
theorem oU:(Tryz.prog.info? 2).map (fun i=>(i.zero,i.size,i.bytes))=some (some (.int .i64 0),1,8):=by kernel_rfl
theorem jv:(Tryz.prog.info? 3).map (fun i=>(i.zero,i.size,i.bytes))=some (some (.int .i64 0),1,8):=by kernel_rfl
theorem bM {k:Nat} (h:ai (.slice none 0 0) k):False:=by simp [ai,Value.ownBlock] at h
def nV (T:TypeId) (w:World) (e:Ending) (w':World) (l:List Int):Prop:=
 ∃ ao cap,e=.returned (.slice ao l.length cap)∧Sl w' T 1 (.slice ao l.length cap) l.length (l.map (Value.int .i64))∧ab (fun _=>False) w w'∧∀ k,ai (.slice ao l.length cap) k→w.heap.size≤k
theorem xX (a:Addr) (cap:Nat) (l:List Int) (w:World) (h:Rd w (some a) (l.map (Value.int .i64))) (hl:l.length≤1000000) :
  Calls Tryz.prog 131 #[.slice (some a) l.length cap] w fun e w'=>nV 2 w e w' l:=by
 obtain ⟨i0,hi,hz0,hz1,hz2⟩:=info_parts oU;have Hi:=Hz hi;have Hz0:=Hz hz0;have Hz1:=Hz hz1;have Hz2:=Hz hz2;clear hi hz0 hz1 hz2;have hne:=fun (wx:World)=>Lib.run_eql_slice_nil (P:=Tryz.prog) wx 50 2 (some a) l.length cap 0 0 Tryz.underlying50;go_enter Tryz.func131,Tryz.ntmps131;go_wp2_with (at_builtin;refine ik rfl (.tmp 5) (.tmp 6) 50 rfl 2 i0 (.int .i64 0) 1 8 Tryz.underlying50 Hi.out Hz0.out Hz1.out Hz2.out rfl (by decide) _ 0 [] rfl ⟨rfl, .inr ⟨w.heap.size,0,0,[],rfl,ah.newAt _ rfl rfl,Nat.le_refl _,Nat.zero_le _,by simp,by simp⟩⟩ (some a) l.length cap (l.map (Value.int .i64)) rfl (by simp) (h.ae ((Kz w).alloc _) (fun _ _ _ h=>h)) ku (by unfold maxLen;omega) (by omega) ?_);intro v2 w2 hs2 hk2 ho2;go_wp2_with fail;go_ret;obtain ⟨ao,c2,rfl,_,_,_⟩:=hs2.rd;refine ⟨ao,c2,rfl,hs2,((Kz w).alloc _).then hk2 (fun j hj=>by simp [ai,Value.ownBlock] at hj;exact .inr (by omega)),fun j hj=>?_⟩;rcases ho2 j hj with h | h
 ·simp [ai,Value.ownBlock] at h;omega
 ·first | omega | (simp at h;omega)
def xY (w:World) (n o:Int) (e:Ending) (w':World):Prop:=
 ∃ p g,e=.returned (.tuple #[.pointer (some ⟨p,0,none⟩), .agg #[.int .i64 0, .int .i64 0]])∧bE w' p g (Ar.new n o)∧ab (fun _=>False) w w'∧w.heap.size≤p∧w.heap.size≤g
section
variable {p g:Nat} {A:Ar}
theorem zJ (w:World) (h:bE w p g A) :
  Calls Tryz.prog 66 #[.pointer (some ⟨p,0,none⟩)] w fun e w'=>nV 2 w e w' A.ws:=by
 have H:=Hz h;obtain ⟨c0,-,-,-⟩:=h.cells;have pl:=h.hp.lt;have o4:=h.ok.h4;clear h;go_enter Tryz.func66,Tryz.ntmps66;go_wp2_with fail;refine (xX ⟨g,0,none⟩ A.ws.length A.ws _ (Rd.ak H.out.hg 0 _ (by simp only [List.drop_zero,List.take_length])) (by omega)).mono ?_;rintro e w1 ⟨ao,cap,rfl,hs,hk,ho⟩;go_wp2_with fail;go_ret;exact ⟨ao,cap,rfl,hs,hk,ho⟩
theorem zK (n o:Int) (w:World) (h:Ar.fits n o=false) :
  Calls Tryz.prog 111 #[.int .i64 n, .int .i64 o] w fun e w'=>e=.returned (.tuple #[.pointer none, .agg #[.int .i64 1, .int .i64 (-1)]])∧ab (fun _=>False) w w':=by
 have hc:n<16∨256<n∨o<0∨1024<o:=by
  by_cases h1:16≤n
  ·by_cases h2:n≤256
   ·by_cases h3:0≤o
    ·by_cases h4:o≤1024
     ·simp [Ar.fits,h1,h2,h3,h4] at h
     ·omega
    ·omega
   ·omega
  ·omega
 clear h;by_cases c1:n<16
 ·have d1:decide (n<16)=true:=by simpa using c1
  go_enter Tryz.func111,Tryz.ntmps111;go_wp2_with fail;exact bodyPost_ret (v:=.tuple #[.pointer none, .agg #[.int .i64 1, .int .i64 (-1)]]) (by simp [results,Tryz.results111,go_sem]) rfl ⟨rfl,((ab.refl _ _).alloc _)⟩
 have d1:decide (n<16)=false:=by simpa using c1
 by_cases c2:256<n
 ·have d2:decide (256<n)=true:=by simpa using c2
  go_enter Tryz.func111,Tryz.ntmps111;go_wp2_with fail;exact bodyPost_ret (v:=.tuple #[.pointer none, .agg #[.int .i64 1, .int .i64 (-1)]]) (by simp [results,Tryz.results111,go_sem]) rfl ⟨rfl,((ab.refl _ _).alloc _)⟩
 have d2:decide (256<n)=false:=by simpa using c2
 by_cases c3:o<0
 ·have d3:decide (o<0)=true:=by simpa using c3
  go_enter Tryz.func111,Tryz.ntmps111;go_wp2_with fail;exact bodyPost_ret (v:=.tuple #[.pointer none, .agg #[.int .i64 1, .int .i64 (-1)]]) (by simp [results,Tryz.results111,go_sem]) rfl ⟨rfl,((ab.refl _ _).alloc _)⟩
 have d3:decide (o<0)=false:=by simpa using c3
 have d4:decide (1024<o)=true:=by simp;omega
 go_enter Tryz.func111,Tryz.ntmps111;go_wp2_with fail;exact bodyPost_ret (v:=.tuple #[.pointer none, .agg #[.int .i64 1, .int .i64 (-1)]]) (by simp [results,Tryz.results111,go_sem]) rfl ⟨rfl,((ab.refl _ _).alloc _)⟩
theorem xZ (n o:Int) (w:World) (h:Ar.fits n o=true) :
  Calls Tryz.prog 111 #[.int .i64 n, .int .i64 o] w fun e w'=>xY w n o e w':=by
 have HOK:=Hz (Ar.jJ h);simp [Ar.fits] at h;obtain ⟨⟨⟨h1,h2⟩,h3⟩,h4⟩:=h;obtain ⟨a,rfl⟩:∃ a:Nat,n=a:=⟨n.toNat,by omega⟩;obtain ⟨b,rfl⟩:∃ b:Nat,o=b:=⟨o.toNat,by omega⟩;have d1:decide ((a:Int)<16)=false:=by simp;omega
 have d2:decide (256<(a:Int))=false:=by simp;omega
 have d3:decide ((b:Int)<0)=false:=by simp
 have d4:decide (1024<(b:Int))=false:=by simp;omega
 obtain ⟨i0,hi,hz0,hz1,hz2⟩:=info_parts oU;have hmk:=fun (wx:World)=>eH (P:=Tryz.prog) wx 50 2 i0 (.int .i64 0) Tryz.underlying50 hi hz0 rfl hz1 (a+b) (by rw [hz2];omega) (by omega);have hcast:((a+b:Nat):Int)=(a:Int)+(b:Int):=by omega
 simp only [hcast] at hmk;have HNEW:=Hz (show Ar.new a b=⟨List.replicate (a+b) 0,a,0,a⟩ by unfold Ar.new;congr 1);clear hi hz0 hz1 hz2 hcast;go_enter Tryz.func111,Tryz.ntmps111;go_wp2_with fail;refine bodyPost_ret (v:=.tuple #[.pointer (some ⟨w.heap.size+2,0,none⟩), .agg #[.int .i64 0, .int .i64 0]]) (by simp [results,Tryz.results111,go_sem]) rfl ⟨w.heap.size+2,w.heap.size+1,rfl,?_,(((ab.refl _ _).alloc _).alloc _).alloc _,by omega,by omega⟩;have hok:=HOK.out;rw [HNEW.out] at hok ⊢;refine ⟨?_,?_,hok⟩
 ·refine ah.newAt _ (by simp) ?_;simp
 ·refine (ah.newAt _ (by simp) ?_).alloc _;simp
def uY (w:World) (b p:Nat):Prop:=ah w b [.pointer (some ⟨p,0,none⟩)] 47
theorem wy (b:Nat) (i j:Int) (w:World) (h:bE w p g A) (hb:uY w b p) (hi:0≤i) (hi2:i≤1280) (hj:j≤1280) :
  Calls Tryz.prog 118 #[.int .i64 i, .int .i64 j, .pointer (some ⟨b,0,none⟩)] w fun e w'=>nV 3 w e w' (A.list 1300 i j):=by
 have H:=Hz h;have HB:=Hz hb;have bl:=hb.lt;obtain ⟨i0,hi0,hz0,hz1,hz2⟩:=info_parts jv;have Hi:=Hz hi0;have Hz0:=Hz hz0;have Hz1:=Hz hz1;have Hz2:=Hz hz2;clear hi0 hz0 hz1 hz2;clear h hb;go_enter Tryz.func118,Tryz.ntmps118;go_wp2_with fail;go_loopw [6,7] (fun v k wr=>∃ (n:Nat) (c:Int) (done:List Int),k=.int .i64 c∧0≤c∧c≤1300∧done ++ A.list n c j=A.list 1300 i j∧(j-c).toNat<n∧done.length+(j-c).toNat≤1300∧Sl wr 3 1 v done.length (done.map (Value.int .i64))∧ab (fun _=>False) w wr∧∀ b,ai v b→w.heap.size≤b) (fun _ k _=>(j-intOf k).toNat)
 case atStart=>
  exact ⟨1300,i,[],rfl,hi,by omega,rfl,by omega,by simp;omega,Sl.nil _ _ _,ab.refl _ _,fun b hb=>(bM hb).elim⟩
 case round=>
  obtain ⟨n,c,done,rfl,hc0,hc1,hd,hn,hl,hs,hk,ho⟩:=hrel;have HD:=Hz hd;have HS:=Hz hs;have HK:=Hz hk;have HO:=Hz ho;have b0:=(hk.ak HB.out (fun h=>h)).cell 0;have bl2:=(hk.ak HB.out (fun h=>h)).lt;simp only [Lz] at b0;clear hd hs hk ho;obtain ⟨ao,cap,rfl,-,-,-⟩:=HS.out.rd;by_cases hlt:c<j
  ·have hfl:=A.aU c;obtain ⟨⟨k,m,e⟩,hT⟩:∃ t,A.aj c=t:=⟨_,rfl⟩;rw [hT] at hfl;dsimp only at hfl;have HT:=Hz hT;clear hT;go_wp2_with fail;refine (gz c _ (H.out.ae HK.out (fun h=>h) (fun h=>h))).mono ?_;rintro e w1 ⟨rfl,rfl⟩;rw [HT.out];dsimp only;by_cases he:e=0
   ·subst he;obtain ⟨n,rfl⟩:∃ q,n=q+1:=⟨n-1,by omega⟩;have HST:=Hz (Ar.q5 (n:=n) hlt (by rw [HT.out]));go_wp2_with (at_builtin;refine bN rfl (.tmp 25) (.tmp 27) 83 rfl 3 i0 (.int .i64 0) 1 8 Tryz.underlying83 Hi.out Hz0.out Hz1.out Hz2.out rfl (by decide) _ done.length (done.map (Value.int .i64)) rfl (HS.out.ae ((Kz wr).alloc _) (fun _ _ h=>h)) ⟨wr.heap.size,0,none⟩ 1 1 [.int .i64 c] rfl rfl (bW wr 3 #[.int .i64 c]) (by intro u hu;simp at hu;subst hu;rfl) (by unfold maxLen;omega) (by omega) ?_);intro v2 w2 hs2 hk2 ho2;have HK2:=Hz ((HK.out.alloc (.cells #[.int .i64 c] 3)).then hk2 (fun b hb=>.inr (HO.out b hb)));have HO2:Hid (∀ b,ai v2 b→w.heap.size≤b):=fun b hb=>by
     rcases ho2 b hb with h | h
     ·exact HO.out b h
     ·have:=HK.out.size;first | omega | (simp at h;omega)
    have HS2:=Hz hs2;clear hs2 hk2 ho2 b0 bl2;go_wp2_with fail;go_roundw
    case rel=>exact ⟨n,c+1+m,done ++ [c],int_eq (by omega),by omega,by omega,by rw [←HD.out,HST.out,HT.out];simp,by omega,by simp;omega,by simpa using HS2.out,HK2.out,HO2.out⟩
    case measure=>simp [intOf];omega
   ·have heb:(e != 0)=true:=by simpa using he
    have HE:=Hz (Ar.oT (n:=n) (j:=j) (fun h=>he (by have:=h.2;rw [HT.out] at this;exact this)));clear he;go_wp2_with fail;go_ret;have hd:=HD.out;rw [HE.out,List.append_nil] at hd;rw [←hd];exact ⟨ao,cap,rfl,HS.out,HK.out,HO.out⟩
  ·have HE:=Hz (Ar.oT (A:=A) (n:=n) (i:=c) (j:=j) (fun h=>hlt h.1));go_wp2_with fail;go_ret;have hd:=HD.out;rw [HE.out,List.append_nil] at hd;rw [←hd];exact ⟨ao,cap,rfl,HS.out,HK.out,HO.out⟩
theorem BK (args:Array Value) (w:World):(callFunc 118 args).run Tryz.prog w=.ok (.enter 118 args) w:=by kernel_rfl
def q7 (A:Ar) (w:World) (e:Ending) (w':World):Prop:=
 ∃ ao ac bo bc,e=.returned (.tuple #[.slice ao A.aT.1.length ac, .slice bo A.aT.2.length bc])∧Sl w' 3 1 (.slice ao A.aT.1.length ac) A.aT.1.length (A.aT.1.map (Value.int .i64)) ∧
  Sl w' 3 1 (.slice bo A.aT.2.length bc) A.aT.2.length (A.aT.2.map (Value.int .i64))∧ab (fun _=>False) w w'∧(∀ k,ai (.slice ao A.aT.1.length ac) k→w.heap.size≤k)∧∀ k,ai (.slice bo A.aT.2.length bc) k→w.heap.size≤k
theorem oV (w:World) (h:bE w p g A) :
  Calls Tryz.prog 54 #[.pointer (some ⟨p,0,none⟩)] w fun e w'=>q7 A w e w':=by
 have o1:=h.ok.h1;have o2:=h.ok.h2;have o3:=h.ok.h3;have o4:=h.ok.h4;have HLA:Hid (A.aT=(A.list 1300 0 A.yng,A.list 1300 A.nur A.grn)):=rfl;have ea:=BK;have hka:=(Kz w).alloc (.cells #[.pointer (some ⟨p,0,none⟩)] 47);have h1:=h.ae hka (fun h=>h) (fun h=>h);have hb:uY (w.alloc (.cells #[.pointer (some ⟨p,0,none⟩)] 47)) w.heap.size p:=ah.newAt _ rfl rfl;have H1:=Hz h1;have HB:=Hz hb;have HKA:=Hz hka;clear h h1 hb hka;go_enter Tryz.func54,Tryz.ntmps54;go_wp2_with fail;obtain ⟨-,c1,c2,c3⟩:=H1.out.cells;have b0:=HB.out.cell 0;have bl:=HB.out.lt;have pl:=H1.out.hp.lt;simp only [Lz] at b0;generalize w.alloc (.cells #[.pointer (some ⟨p,0,none⟩)] 47)=w1 at *;refine ay (.free 0 (.free 6 (.pure 1 (.free 2 (.free 3 (.pure 4 (.pure 7 (.free 8 (.free 9 (.pure 10 (.pure 11 (.free 12 (.free 13 (.pure 14 (.run 5 (.run 15 (.swi [] (.free 16 (.free 17 (.fin)))))))))))))))))))) [15,16,17] (fun w'=>w'.cell? ⟨p,1,none⟩=some (.int .i64 A.nur)∧w'.cell? ⟨p,2,none⟩=some (.int .i64 A.yng)∧w'.cell? ⟨p,3,none⟩=some (.int .i64 A.grn)∧w'.cell? ⟨w.heap.size,0,none⟩=some (.pointer (some ⟨p,0,none⟩))) (by kernel_rfl) (by kernel_rfl) ⟨c1,c2,c3,b0⟩ ?_
 iterate 14 ((first | refine au rfl rfl fun K hK=>?_ | refine aq rfl rfl fun K hK=>?_ | refine aF rfl rfl fun K hK=>?_ | refine az rfl rfl fun K hK=>?_ | refine aE rfl rfl fun K hK=>?_);go_simp;refine hK _ ?_;clear hK K)
 refine aM rfl rfl (fun K hK=>?_);unfold aC;go_simp;refine (wy w.heap.size 0 A.yng _ (H1.out.ae (Kz w1).drew (fun h=>h) (fun h=>h)) HB.out.drew (by omega) (by omega) (by omega)).mono ?_;rintro e w2 ⟨ao,ac,rfl,hs2,hk2,ho2⟩;have hkd:=(Kz w1).drew.trans hk2;have H2:=Hz (H1.out.ae hkd (fun h=>h) (fun h=>h));have HB2:=Hz (show uY w2 w.heap.size p from hkd.ak HB.out (fun h=>h));have HS2:=Hz hs2;have HKD:=Hz hkd;have HO2:Hid (∀ k,ai (.slice ao (A.list 1300 0 A.yng).length ac) k→w.heap.size≤k):=fun k hk=>by have h1:=ho2 k hk;have h2:=HKA.out.size;exact Nat.le_trans h2 h1
 refine hK _ _ (fun _=>?gg) ?_
 case gg=>obtain ⟨-,c1,c2,c3⟩:=H2.out.cells;exact ⟨c1,c2,c3,HB2.out.cell 0⟩
 clear hK K hs2 hkd hk2 ho2;refine aJ rfl rfl rfl (fun K hK=>?_);unfold aC;go_simp;refine (wy w.heap.size A.nur A.grn _ H2.out HB2.out (by omega) (by omega) (by omega)).mono ?_;rintro e w3 ⟨bo,bc,rfl,hs3,hk3,ho3⟩;have HS3:=Hz hs3;have HS23:=Hz (HS2.out.ae hk3 (fun _ _ h=>h));have HKE:=Hz ((HKA.out.trans HKD.out).trans hk3);have HO3:Hid (∀ k,ai (.slice bo (A.list 1300 A.nur A.grn).length bc) k→w.heap.size≤k):=fun k hk=>by have h1:=ho3 k hk;have h2:=HKA.out.size;have h3:=HKD.out.size;exact Nat.le_trans (Nat.le_trans h2 h3) h1
 refine hK _ _ ?_;clear hK K hs3 hk3 ho3 c1 c2 c3 b0;refine aH (fun _=>True) trivial ?_
 iterate 2 ((first | refine au rfl rfl fun K hK=>?_ | refine aq rfl rfl fun K hK=>?_);go_simp;refine hK _ ?_;clear hK K)
 refine aB ?_;go_wp2_with fail;go_ret2;unfold q7;rw [HLA.out];exact ⟨ao,ac,bo,bc,rfl,HS23.out,HS3.out,HKE.out,HO2.out,HO3.out⟩
end
end
section
open Go.RowKit
def Ar.move (A:Ar) (dst fr n:Nat):Ar:={ A with ws:=lay A.ws dst ((A.ws.drop fr).take n) }
theorem Ar.ok.move {A:Ar} (h:A.ok) {dst fr n:Nat} (h1:dst+n≤A.ws.length) (h2:fr+n≤A.ws.length):(A.move dst fr n).ok:=by
 have hl:(lay A.ws dst ((A.ws.drop fr).take n)).length=A.ws.length:=dI (by simp;omega);refine ⟨h.h1,h.h2,?_,?_,fun x hx=>?_⟩
 ·show A.grn≤(lay _ _ _).length;rw [hl];exact h.h3
 ·show (lay _ _ _).length≤1280;rw [hl];exact h.h4
 ·rcases nU hx with h1 | h1
  ·exact h.hw x h1
  ·exact h.hw x (List.mem_of_mem_drop (List.mem_of_mem_take h1))
section
variable {p g:Nat} {A:Ar}
theorem AQ (dst fr n:Nat) (w:World) (h:bE w p g A) (h1:dst+n≤A.ws.length) (h2:fr+n≤A.ws.length) (h3:dst<A.ws.length) (h4:fr<A.ws.length) :
  Calls Tryz.prog 80 #[.pointer (some ⟨p,0,none⟩), .int .i64 dst, .int .i64 fr, .int .i64 n] w fun e w'=>e=.returned (.tuple #[])∧a5 w p g w' (A.move dst fr n):=by
 have H:=Hz h;have o4:=h.ok.h4;have HOK:=Hz (h.ok.move h1 h2);obtain ⟨c0,-,-,-⟩:=h.cells;have pl:=h.hp.lt;have gl:=h.hg.lt;clear h;have hw1:IntKind.i64.wrap ((dst:Int)+n)=(dst:Int)+n:=IntWalk.i64_in _ (by omega);have hw2:IntKind.i64.wrap ((fr:Int)+n)=(fr:Int)+n:=IntWalk.i64_in _ (by omega);have b1:(dst:Int)≤(dst:Int)+n:=by omega
 have b2:(dst:Int)+n≤(A.ws.length:Int):=by omega
 have b3:(fr:Int)≤(fr:Int)+n:=by omega
 have b4:(fr:Int)+n≤(A.ws.length:Int):=by omega
 have b5:(0:Int)≤(dst:Int)+n:=by omega
 have b6:(0:Int)≤(fr:Int)+n:=by omega
 have b7:((dst:Int)+n).toNat=dst+n:=by omega
 have b8:((fr:Int)+n).toNat=fr+n:=by omega
 have q1:¬ A.ws.length=dst:=by omega
 have q2:¬ A.ws.length=fr:=by omega
 go_enter Tryz.func80,Tryz.ntmps80;refine ay (.free 0 (.free 1 (.free 2 (.free 4 (.free 5 (.free 6 (.free 7 (.free 9 (.free 10 (.free 11 (.free 13 (.free 14 (.free 15 (.free 16 (.pure 3 (.free 8 (.pure 12 (.free 17 (.run 18 (.swi [] (.fin))))))))))))))))))))) [18] (fun w'=>w'.cell? ⟨p,0,none⟩=some (.slice (some ⟨g,0,none⟩) A.ws.length A.ws.length)) (by kernel_rfl) (by kernel_rfl) c0 ?_
 iterate 18 ((first | refine au rfl rfl fun K hK=>?_ | refine aq rfl rfl fun K hK=>?_ | refine aF rfl rfl fun K hK=>?_ | refine az rfl rfl fun K hK=>?_ | refine aE rfl rfl fun K hK=>?_);go_simp;refine hK _ ?_;clear hK K)
 clear hw1 hw2 b1 b2 b3 b4 b5 b6 b7 b8;have hcl:(((A.ws.drop fr).take n).map (Value.int .i64)).length=n:=by simp;omega
 have HCL:=Hz hcl;clear hcl;refine aJ rfl rfl rfl (fun K hK=>?_);refine q6 (.tmp 16) (.tmp 25) 50 rfl 2 Tryz.underlying50 (by kernel_rfl) g dst _ _ ⟨g,fr,none⟩ _ _ (by rfl) (by rfl) (A.ws.map (Value.int .i64)) H.out.hg.drew (((A.ws.drop fr).take n).map (Value.int .i64)) ?hn ?hsrc ?hfit ku ?_
 case hn=>rw [HCL.out];show n=min _ _;omega
 case hsrc=>
  intro j v hj;have hlt:=(List.getElem?_eq_some_iff.1 hj).1;rw [HCL.out] at hlt;rw [eI]
  show w.cell? ⟨g,fr+j,none⟩=some v
  rw [H.out.hg.cell (fr+j),←hj];simp only [List.getElem?_map,List.getElem?_take,List.getElem?_drop,if_pos hlt]
 case hfit=>rw [HCL.out];simpa using h1
 refine hK _ _ ?_;clear hK K;have hb5:ah (w.drew.setRow g ((A.ws.map (Value.int .i64)).take dst ++ ((A.ws.drop fr).take n).map (Value.int .i64) ++ (A.ws.map (Value.int .i64)).drop (dst+(((A.ws.drop fr).take n).map (Value.int .i64)).length)).toArray) g ((lay A.ws dst ((A.ws.drop fr).take n)).map (Value.int .i64)) 2:=by
  rw [um];exact ah.setRow (w:=w.drew) H.out.hg.drew _
 have hp5:=H.out.hp.drew.lu H.out.ne ((A.ws.map (Value.int .i64)).take dst ++ ((A.ws.drop fr).take n).map (Value.int .i64) ++ (A.ws.map (Value.int .i64)).drop (dst+(((A.ws.drop fr).take n).map (Value.int .i64)).length)).toArray;have hk5:=((ab.refl (fun b=>b=p∨b=g) w).drew).setRow (g:=g) (.inl (.inr rfl)) ((A.ws.map (Value.int .i64)).take dst ++ ((A.ws.drop fr).take n).map (Value.int .i64) ++ (A.ws.map (Value.int .i64)).drop (dst+(((A.ws.drop fr).take n).map (Value.int .i64)).length)).toArray;generalize w.drew.setRow g _=w5 at *;have HB5:=Hz hb5;have HP5:=Hz hp5;have HK5:=Hz hk5;clear hb5 hp5 hk5;refine aH (fun _=>True) trivial (aB ?_);go_wp2_with fail;go_end0;have hl:(lay A.ws dst ((A.ws.drop fr).take n)).length=A.ws.length:=dI (by have:=HCL.out;simp only [List.length_map] at this;omega);refine ⟨rfl,⟨?_,HB5.out,HOK.out⟩,HK5.out⟩
 show ah w5 p [.slice (some ⟨g,0,none⟩) (lay A.ws dst ((A.ws.drop fr).take n)).length (lay A.ws dst ((A.ws.drop fr).take n)).length,_,_,_] _
 rw [hl];exact HP5.out
theorem r9 (w:World) (h:bE w p g A) :
  Calls Tryz.prog 53 #[.pointer (some ⟨p,0,none⟩)] w fun e w'=>e=.returned (.tuple #[.int .i64 0, .int .i64 A.nur])∧ab (fun _=>False) w w':=by
 obtain ⟨-,c1,-,-⟩:=h.cells;have pl:=h.hp.lt;go_enter Tryz.func53,Tryz.ntmps53;go_wp2_with fail;refine ay (.free 0 (.free 1 (.free 2 (.free 4 (.pure 3 (.free 5 (.fin))))))) [] (fun w'=>w'.cell? ⟨p,1,none⟩=some (.int .i64 A.nur)) (by kernel_rfl) (by kernel_rfl) c1 ?_
 iterate 6 ((first | refine au rfl rfl fun K hK=>?_ | refine aq rfl rfl fun K hK=>?_ | refine aF rfl rfl fun K hK=>?_ | refine az rfl rfl fun K hK=>?_ | refine aE rfl rfl fun K hK=>?_);go_simp;refine hK _ ?_;clear hK K)
 refine aB ?_;go_wp2_with fail;go_ret2;exact ⟨rfl,(ab.refl _ _).drew⟩
end
end
section
def cq (base:Int) (n:Nat) (at_:Int):Int:=if base≤at_∧(at_-base)/8<n then (at_-base)/8 else -1
def gG (base:Int) (l:List Bool) (at_:Int):List Bool:=if 0≤cq base l.length at_ then l.set (cq base l.length at_).toNat true else l
theorem gO (base:Int) (l:List Bool) (at_:Int):(gG base l at_).length=l.length:=by unfold gG;split <;> simp
def db (base:Int) (l:List Bool) (at_:Int):Bool:=decide (0≤cq base l.length at_) && l.getD (cq base l.length at_).toNat false
theorem q8 {base:Int} {n:Nat} {at_:Int} (h:0≤cq base n at_):(cq base n at_).toNat<n:=by
 unfold cq at *;split at h
 ·rename_i c;rw [if_pos c];omega
 ·omega
def gj (words:Int):Nat:=((max words 0+7)/8).toNat
end
section
open Go.RowKit
structure cO (w:World) (p q:Nat) (base:Int) (l:List Bool):Prop where
 hp:ah w p [.int .i64 base, .slice (some ⟨q,0,none⟩) l.length l.length] 168
 hq:ah w q (l.map Value.bool) 4
theorem cO.ne {w:World} {p q:Nat} {base:Int} {l:List Bool} (h:cO w p q base l):p≠q:=h.hp.ne h.hq (by decide)
theorem cO.ae {w w':World} {p q:Nat} {base:Int} {l:List Bool} {S:Nat→Prop} (h:cO w p q base l) (k:ab S w w') (h1:¬ S p) (h2:¬ S q):cO w' p q base l:=
 ⟨k.ak h.hp h1,k.ak h.hq h2⟩
theorem wz (p q:Nat) (base at_:Int) (l:List Bool) (w:World) (h:cO w p q base l)
  (hb:0≤base) (da:base≤1000000) (ha:-9223372036854775808≤at_) (ha2:at_≤9223372036854775807) (hl:l.length≤1000000) :
  Calls Tryz.prog 122 #[.pointer (some ⟨p,0,none⟩), .int .i64 at_] w fun e w'=>e=.returned (.int .i64 (cq base l.length at_))∧w=w':=by
 have h0:w.cell? ⟨p,0,none⟩=some (.int .i64 base):=h.hp.cell 0;have h1:w.cell? ⟨p,1,none⟩=some (.slice (some ⟨q,0,none⟩) l.length l.length):=h.hp.cell 1;clear h;generalize hn:l.length=n at *;clear hn;by_cases c1:base≤at_
 ·by_cases c2:(at_-base)/8<n
  ·have hv:cq base n at_=(at_-base)/8:=by simp [cq,c1,c2]
   rw [hv];clear hv;go_enter Tryz.func122,Tryz.ntmps122
   go_wp2
   go_ret;exact ⟨rfl,rfl⟩
  ·have hv:cq base n at_=-1:=by simp [cq,c2]
   rw [hv];clear hv;go_enter Tryz.func122,Tryz.ntmps122
   go_wp2
   go_ret;exact ⟨rfl,rfl⟩
 ·have hv:cq base n at_=-1:=by simp [cq,c1]
  rw [hv];clear hv;go_enter Tryz.func122,Tryz.ntmps122
  go_wp2
  go_ret;exact ⟨rfl,rfl⟩
theorem wB (p q:Nat) (base at_:Int) (l:List Bool) (w:World) (h:cO w p q base l)
  (hb:0≤base) (da:base≤1000000) (ha:-9223372036854775808≤at_) (ha2:at_≤9223372036854775807) (hl:l.length≤1000000) :
  Calls Tryz.prog 115 #[.pointer (some ⟨p,0,none⟩), .int .i64 at_] w fun e w'=>e=.returned (.bool (decide (0≤cq base l.length at_))) ∧
   cO w' p q base (gG base l at_)∧ab (·=q) w w':=by
 have H:=wz p q base at_ l w h hb da ha ha2 hl;have h1:w.cell? ⟨p,1,none⟩=some (.slice (some ⟨q,0,none⟩) l.length l.length):=h.hp.cell 1;have HM:Hid (gG base l at_=if 0≤cq base l.length at_ then l.set (cq base l.length at_).toNat true else l):=rfl;have HL:0≤cq base l.length at_→(cq base l.length at_).toNat<l.length:=q8;have hup:cq base l.length at_≤1000000:=by unfold cq;split <;> omega
 generalize gG base l at_=l' at *;generalize cq base l.length at_=k at *;have HH:=Hz H;clear H;have HC:=Hz h;clear h;by_cases c:0≤k
 ·obtain ⟨k,rfl⟩:=Int.eq_ofNat_of_zero_le c;have hk:=HL c;simp only [Int.toNat_natCast] at hk HM;have hq:w.cell? ⟨q,k,none⟩=some (.bool (l.getD k false)):=by rw [HC.out.hq.cell];simp [List.getD,hk]
  have hf:w.frozen? ⟨q,k,none⟩=false:=HC.out.hq.free _;go_enter Tryz.func115,Tryz.ntmps115;go_wp2_with (go_at_call 122;refine HH.out.mono ?_;rintro e w' ⟨rfl,rfl⟩);go_ret;have hm:=HM.out;simp at hm;subst hm;refine ⟨rfl,⟨?_,?_⟩,(ab.refl (·=q) w).setCell (p:=⟨q,k,none⟩) (.inl rfl) _⟩
  ·simpa using HC.out.hp.ew (a:=⟨q,k,none⟩) HC.out.ne (.bool true)
  ·simpa [List.map_set] using HC.out.hq.aO k (.bool true)
 ·have hd:decide (0≤k)=false:=by simpa using c
  go_enter Tryz.func115,Tryz.ntmps115;go_wp2_with (go_at_call 122;refine HH.out.mono ?_;rintro e w' ⟨rfl,rfl⟩);go_ret;have hm:=HM.out;rw [if_neg (by omega)] at hm;subst hm;exact ⟨AK (by show Value.bool false=_;rw [hd]),HC.out,ab.refl _ _⟩
theorem zL (p q:Nat) (base at_:Int) (l:List Bool) (w:World) (h:cO w p q base l)
  (hb:0≤base) (da:base≤1000000) (ha:-9223372036854775808≤at_) (ha2:at_≤9223372036854775807) (hl:l.length≤1000000) :
  Calls Tryz.prog 57 #[.pointer (some ⟨p,0,none⟩), .int .i64 at_] w fun e w'=>e=.returned (.bool (db base l at_))∧w=w':=by
 have H:=wz p q base at_ l w h hb da ha ha2 hl;have h1:w.cell? ⟨p,1,none⟩=some (.slice (some ⟨q,0,none⟩) l.length l.length):=h.hp.cell 1;have HM:Hid (db base l at_=(decide (0≤cq base l.length at_) && l.getD (cq base l.length at_).toNat false)):=rfl;have HL:0≤cq base l.length at_→(cq base l.length at_).toNat<l.length:=q8;have hup:cq base l.length at_≤1000000:=by unfold cq;split <;> omega
 generalize db base l at_=l' at *;generalize cq base l.length at_=k at *;have HH:=Hz H;clear H;have HC:=Hz h;clear h;by_cases c:0≤k
 ·obtain ⟨k,rfl⟩:=Int.eq_ofNat_of_zero_le c;have hk:=HL c;simp only [Int.toNat_natCast] at hk HM;have hq:w.cell? ⟨q,k,none⟩=some (.bool (l.getD k false)):=by rw [HC.out.hq.cell];simp [List.getD,hk]
  go_enter Tryz.func57,Tryz.ntmps57;go_wp2_with (go_at_call 122;refine HH.out.mono ?_;rintro e w' ⟨rfl,rfl⟩);go_ret;exact ⟨by rw [HM.out];simp [List.getD,hk],rfl⟩
 ·have hd:decide (0≤k)=false:=by simpa using c
  go_enter Tryz.func57,Tryz.ntmps57;go_wp2_with (go_at_call 122;refine HH.out.mono ?_;rintro e w' ⟨rfl,rfl⟩);go_ret;exact ⟨by rw [HM.out];simp [hd],rfl⟩
theorem iQ:(Tryz.prog.info? 4).map (fun i=>(i.zero,i.size,i.bytes))=some (some (.bool false),1,1):=by kernel_rfl
theorem BL (base words:Int) (w:World) (hw:words≤1000000) (hw2:-9223372036854775808≤words) :
  Calls Tryz.prog 112 #[.int .i64 base, .int .i64 words] w fun e w'=>e=.returned (.pointer (some ⟨w.heap.size+1,0,none⟩)) ∧
   cO w' (w.heap.size+1) w.heap.size base (List.replicate (gj words) false)∧w'.heap.size=w.heap.size+2∧ab (fun _=>False) w w':=by
 obtain ⟨i0,hi,hz0,hz1,hz2⟩:=info_parts iQ;have HN:Hid (gj words=((max words 0+7)/8).toNat):=rfl;have hmk:=fun (wx:World) (n:Nat) (h1:n≤9223372036854775807) (h2:n≤281474976710656)=>eH (P:=Tryz.prog) wx 122 4 i0 (.bool false) Tryz.underlying122 hi hz0 rfl hz1 n (by rw [hz2];omega) h1;have Hi:=Hz hi;clear hi hz0 hz1 hz2;have HM:=Hz hmk;clear hmk;by_cases c:0≤words
 ·have hm:(gj words:Int)=(words+8-1)/8:=by rw [HN.out];omega
  have hk:=fun (wx:World)=>HM.out wx (gj words) (by omega) (by omega);have h2:max words 0=words:=by omega
  rw [hm] at hk;have Hm:=Hz hm;clear hm;generalize hn:gj words=n at *;clear hn;go_enter Tryz.func112,Tryz.ntmps112
  go_wp2
  go_ret;exact ⟨rfl,⟨.newAt _ (by simp) (by simp),(ah.newAt _ rfl (by simp)).alloc _⟩,by simp,((ab.refl _ _).alloc _).alloc _⟩
 ·have hm:gj words=0:=by rw [HN.out];omega
  have hk:∀ wx:World,(Instr.makeSlice 122 (.int .i64 0) (.int .i64 0)).run Tryz.prog wx=.ok (.slice (some ⟨wx.heap.size,0,none⟩) 0 0) (wx.alloc (.cells #[] 4)):=fun wx=>by simpa using HM.out wx 0 (by omega) (by omega)
  have h2:max words 0=0:=by omega
  rw [hm];have Hm:=Hz hm;clear hm;go_enter Tryz.func112,Tryz.ntmps112
  go_wp2
  go_ret;exact ⟨rfl,⟨.newAt _ (by simp) (by simp),(ah.newAt _ rfl (by simp)).alloc _⟩,by simp,((ab.refl _ _).alloc _).alloc _⟩
theorem uu (p q:Nat) (base:Int) (l:List Bool) (w:World) (h:cO w p q base l) :
  Calls Tryz.prog 63 #[.pointer (some ⟨p,0,none⟩)] w fun e w'=>e=.returned (.tuple #[]) ∧
   cO w' p q base (List.replicate l.length false)∧ab (·=q) w w':=by
 have h1:w.cell? ⟨p,1,none⟩=some (.slice (some ⟨q,0,none⟩) l.length l.length):=h.hp.cell 1;have hk:=rK (P:=Tryz.prog) w 122 0 4 (.bool false) Tryz.underlying122 (by intro w;kernel_rfl) rfl rfl q l.length l.length _ h.hq (by simp);have HC:=Hz h;clear h;go_enter Tryz.func63,Tryz.ntmps63
 go_wp2
 go_end0;refine ⟨rfl,⟨?_,?_⟩,?_⟩
 ·simpa using HC.out.hp.lu HC.out.ne _
 ·simpa using HC.out.hq.setRow (List.replicate l.length (.bool false))
 ·exact (ab.refl (·=q) w).setRow (.inl rfl) _
end
section
open Go.RowKit
def aA (l:List (Int × Int)):List Value:=l.flatMap fun e=>[.int .i64 e.1, .int .i64 e.2]
theorem bH (l:List (Int × Int)):(aA l).length=l.length*2:=by
 induction l with
 | nil=>rfl
 | cons e l ih=>simp [aA] at ih ⊢;omega
structure bu (w:World) (p:Nat) (rv wv:Value) (av wait:List (Int × Int)):Prop where
 hp:ah w p [rv,wv] 133
 hr:Sl w 101 2 rv av.length (aA av)
 hw:Sl w 101 2 wv wait.length (aA wait)
 ap:∀ k,¬ (ai rv k∧ai wv k)
theorem bu.pr {w:World} {p:Nat} {rv wv:Value} {av wait:List (Int × Int)} (h:bu w p rv wv av wait):¬ ai rv p:=fun hk=>by
 obtain ⟨_,cur,hc⟩:=h.hr.own hk;exact (hc.ne h.hp (by decide)) rfl
theorem bu.pw {w:World} {p:Nat} {rv wv:Value} {av wait:List (Int × Int)} (h:bu w p rv wv av wait):¬ ai wv p:=fun hk=>by
 obtain ⟨_,cur,hc⟩:=h.hw.own hk;exact (hc.ne h.hp (by decide)) rfl
def a7 (p:Nat) (rv wv:Value) (k:Nat):Prop:=k=p∨ai rv k∨ai wv k
theorem bu.nW {w:World} {p:Nat} {rv wv:Value} {av wait:List (Int × Int)} (h:bu w p rv wv av wait) {k:Nat} (hk:a7 p rv wv k):k<w.heap.size:=by
 rcases hk with rfl | hk | hk
 ·exact h.hp.lt
 ·exact (h.hr.own hk).1
 ·exact (h.hw.own hk).1
theorem bu.ae {w w':World} {p:Nat} {rv wv:Value} {av wait:List (Int × Int)} {S:Nat→Prop} (h:bu w p rv wv av wait) (k:ab S w w') (hn:∀ b,a7 p rv wv b→¬ S b):bu w' p rv wv av wait:=
 ⟨k.ak h.hp (hn p (.inl rfl)),h.hr.ae k (fun g hg=>hn g (.inr (.inl hg))),h.hw.ae k (fun g hg=>hn g (.inr (.inr hg))),h.ap⟩
def sa (w:World) (p:Nat) (rv wv:Value) (w':World) (av wait:List (Int × Int)):Prop:=
 ∃ rv' wv',bu w' p rv' wv' av wait∧ab (a7 p rv wv) w w'∧∀ k,a7 p rv' wv' k→a7 p rv wv k∨w.heap.size≤k
theorem wC (p:Nat) (rv wv:Value) (av wait:List (Int × Int)) (w:World) (h:bu w p rv wv av wait) (h1:av.length≤1000000) (h2:wait.length≤1000000) :
  Calls Tryz.prog 117 #[.pointer (some ⟨p,0,none⟩)] w fun e w'=>e=.returned (.bool (decide (24≤av.length+wait.length)))∧ab (fun _=>False) w w':=by
 obtain ⟨ro,rc,rfl,_,_,_⟩:=h.hr.rd;obtain ⟨wo,wc,rfl,_,_,_⟩:=h.hw.rd;have c0:w.cell? ⟨p,0,none⟩=_:=h.hp.cell 0;have c1:w.cell? ⟨p,1,none⟩=_:=h.hp.cell 1;simp only [Lz,Ls] at c0 c1;have hw:IntKind.i64.wrap ((av.length:Int)+(wait.length:Int))=(av.length:Int)+(wait.length:Int):=IntWalk.i64_in _ (by omega);go_enter Tryz.func117,Tryz.ntmps117;go_wp2_with fail;refine dM [(0,0),(1,0),(2,0),(5,0),(6,0),(7,0),(3,0),(4,0),(8,0),(9,0),(10,0),(11,0),(12,0)] (fun w'=>w'.cell? ⟨p,0,none⟩=some (.slice ro av.length rc)∧w'.cell? ⟨p,1,none⟩=some (.slice wo wait.length wc)) (by kernel_rfl) (by kernel_rfl) ⟨c0,c1⟩ ?_
 iterate 13 (refine cz rfl rfl _ (fun w' hG=>by obtain ⟨g0,g1⟩:=hG;go_simp;exact ck.mk _ _) (fun K hK=>?_);go_simp;refine hK _ ?_;clear hK K)
 refine fR ?_;go_wp2_with fail;go_ret;refine ⟨dg ?_,(ab.refl _ _).drew⟩;congr 1;simp only [eq_iff_iff];omega
theorem jY:(Tryz.prog.info? 101).map (fun i=>(i.zero,i.size,i.bytes))=some (some (.agg #[.int .i64 0, .int .i64 0]),2,16):=by kernel_rfl
theorem x4 (p:Nat) (rv wv:Value) (av wait:List (Int × Int)) (g t:Int) (w:World) (h:bu w p rv wv av wait) (h1:av.length≤1000000) (h2:wait.length≤1000000) (hf:24≤av.length+wait.length) :
  Calls Tryz.prog 51 #[.pointer (some ⟨p,0,none⟩), .agg #[.int .i64 g, .int .i64 t]] w fun e w'=>e=.returned (.bool false)∧ab (fun _=>False) w w':=by
 have H:=Hz (h.ae ((Kz w).alloc (.cells #[.int .i64 g, .int .i64 t] 101)) (fun _ _ h=>h));clear h;have hd:decide (24≤av.length+wait.length)=true:=by simpa using hf
 go_enter Tryz.func51,Tryz.ntmps51;go_wp2_with fail;refine (wC p rv wv av wait _ H.out h1 h2).mono ?_;rintro e w1 ⟨rfl,hk⟩;rw [hd];go_wp2_with fail;go_ret;exact ⟨rfl,((ab.refl _ _).alloc _).trans hk⟩
theorem x5 (p:Nat) (rv wv:Value) (av wait:List (Int × Int)) (g t:Int) (w:World) (h:bu w p rv wv av wait) (h1:av.length≤1000000) (h2:wait.length≤1000000) (hf:¬ 24≤av.length+wait.length) :
  Calls Tryz.prog 51 #[.pointer (some ⟨p,0,none⟩), .agg #[.int .i64 g, .int .i64 t]] w fun e w'=>e=.returned (.bool true)∧sa w p rv wv w' (av ++ [(g,t)]) wait:=by
 obtain ⟨i0,hi,hz0,hz1,hz2⟩:=info_parts jY;have Hi:=Hz hi;have Hz0:=Hz hz0;have Hz1:=Hz hz1;have Hz2:=Hz hz2;clear hi hz0 hz1 hz2;have HW:=Hz h;have H:=Hz (h.ae ((Kz w).alloc (.cells #[.int .i64 g, .int .i64 t] 101)) (fun _ _ h=>h));have HB:=Hz (ah.newAt (w:=w) (b:=w.heap.size) (T:=101) #[.int .i64 g, .int .i64 t] rfl rfl);clear h;have hd:decide (24≤av.length+wait.length)=false:=by simpa using hf
 obtain ⟨ro,rc,rfl,_,_,_⟩:=HW.out.hr.rd;go_enter Tryz.func51,Tryz.ntmps51;go_wp2_with fail;refine (wC p _ wv av wait _ H.out h1 h2).mono ?_;rintro e w1 ⟨rfl,hk⟩;rw [hd];have HB1:=Hz (hk.ak HB.out (fun h=>h));have HW1:=Hz (H.out.ae hk (fun _ _ h=>h));have HK1:=Hz (((ab.refl (a7 p (.slice ro av.length rc) wv) w).alloc (.cells #[.int .i64 g, .int .i64 t] 101)).trans (hk.mono fun _ _ h=>h.elim));clear hk;have c0:=HW1.out.hp.cell 0;have b0:=HB1.out.cell 0;have b1:=HB1.out.cell 1;have f0:=HW1.out.hp.free 0;simp only [Lz,Ls] at c0 b0 b1;go_wp2_with fail;refine dM [(0,0),(1,0),(2,0),(3,0),(4,0),(5,0),(6,1),(7,1),(8,0),(9,0),(10,2)] (fun w'=>w'.cell? ⟨p,0,none⟩=some (.slice ro av.length rc)∧w'.cell? ⟨w.heap.size,0,none⟩=some (.int .i64 g)∧w'.cell? ⟨w.heap.size,1,none⟩=some (.int .i64 t)) (by kernel_rfl) (by kernel_rfl) ⟨c0,b0,b1⟩ ?_
 iterate 6 (refine cz rfl rfl _ (fun w' hG=>by obtain ⟨g0,g1,g2⟩:=hG;go_simp;exact ck.mk _ _) (fun K hK=>?_);go_simp;refine hK _ ?_;clear hK K)
 refine cT rfl rfl (fun K hK=>?_);unfold aC;go_simp;refine hK _ _ ?_ ?_
 ·have k:=(Kz w1).alloc (.cells #[.int .i64 g, .int .i64 t] 101);have b:=k.ak HW1.out.hp (fun h=>h);have b':=k.ak HB1.out (fun h=>h);exact ⟨b.cell 0,b'.cell 0,b'.cell 1⟩
 clear hK K;refine cT rfl rfl (fun K hK=>?_);refine fU (.tmp 11) (.tmp 13) 131 rfl 101 i0 (.agg #[.int .i64 0, .int .i64 0]) 2 16 Tryz.underlying131 Hi.out Hz0.out Hz1.out Hz2.out rfl (by decide) _ av.length (aA av) rfl ?ha ⟨w1.heap.size,0,none⟩ 1 1 [.int .i64 g, .int .i64 t] rfl rfl ?hb ?hc ?hd ?he ?hf
 case ha=>exact HW1.out.hr.ae (((Kz w1).alloc _).drew) (fun _ _ h=>h)
 case hb=>exact bW w1 101 #[.int .i64 g, .int .i64 t]
 case hc=>intro u hu;simp at hu;rcases hu with rfl | rfl <;> rfl
 case hd=>unfold maxLen;omega
 case he=>omega
 case hf=>
  intro v2 w2 hs2 hk2 ho2;have hka:ab (fun _=>False) w1 ((w1.alloc (.cells #[.int .i64 g, .int .i64 t] 101)).drew):=((Kz w1).alloc _).drew;have hp2:=hk2.ak (hka.ak HW1.out.hp (fun h=>h)) HW1.out.pr;have hw2:=(HW1.out.hw.ae hka (fun _ _ h=>h)).ae hk2 (fun b hb hr=>HW1.out.ap b ⟨hr,hb⟩);have da:=hk2.ak (hka.ak HB1.out (fun h=>h)) (fun hr=>by have:=(HW.out.hr.own hr).1;omega);refine hK _ _ ⟨hp2.cell 0,da.cell 0,da.cell 1⟩ ?_;clear hK K;have hs3:Sl w2 101 2 v2 (av ++ [(g,t)]).length (aA (av ++ [(g,t)])):=by simpa [aA] using hs2
  obtain ⟨vo,vc,rfl,_,_,_⟩:=hs3.rd;have HK2:Hid (ab (a7 p (.slice ro av.length rc) wv) w w2):=(HK1.out.trans (hka.mono fun _ _ h=>h.elim)).trans (hk2.mono fun k _ hk=>.inr (.inl hk));have HO:Hid (∀ k,ai (.slice vo (av ++ [(g,t)]).length vc) k→ai (.slice ro av.length rc) k∨w.heap.size≤k):=fun k hk=>by
   rcases ho2 k hk with h | h
   ·exact .inl h
   ·have:=HK1.out.size;simp at h;exact .inr (by omega)
  have HP:=Hz hp2;have HW2:=Hz hw2;have HS:=Hz hs3;have HWL:Hid (∀ k,ai wv k→k<w.heap.size):=fun k hk=>(HW.out.hw.own hk).1;clear hs2 hk2 ho2 hka hp2 hw2 da hs3;have d0:=HP.out.cell 0;have e0:=HP.out.free 0;simp only [Lz] at d0
  iterate 2 (refine cz rfl rfl _ (fun w' hG=>by obtain ⟨g0,g1,g2⟩:=hG;go_simp;exact ck.mk _ _) (fun K hK=>?_);go_simp;refine hK _ ?_;clear hK K)
  refine pF rfl rfl (fun K hK=>?_);unfold aC;go_simp;refine hK _ _ ?_;clear hK K;refine fR ?_;go_wp2_with fail;go_ret;refine ⟨rfl,_,_,⟨by simpa using HP.out.aO 0 _,HS.out.ae ((ab.refl (·=p) w2).setCell (p:=⟨p,0,none⟩) (.inl rfl) _) ?_,HW2.out.ae ((ab.refl (·=p) w2).setCell (p:=⟨p,0,none⟩) (.inl rfl) _) ?_,?_⟩,HK2.out.setCell (p:=⟨p,0,none⟩) (.inl (.inl rfl)) _,?_⟩
  ·rintro b hb rfl;obtain ⟨_,cur,hc⟩:=HS.out.own hb;exact (hc.ne HP.out (by decide)) rfl
  ·rintro b hb rfl;obtain ⟨_,cur,hc⟩:=HW2.out.own hb;exact (hc.ne HP.out (by decide)) rfl
  ·rintro k ⟨h1,h2⟩;rcases HO.out k h1 with h | h
   ·exact HW.out.ap k ⟨h,h2⟩
   ·have:=HWL.out k h2;omega
  ·rintro k (h | h | h)
   ·exact .inl (.inl h)
   ·rcases HO.out k h with h | h
    ·exact .inl (.inr (.inl h))
    ·exact .inr h
   ·exact .inl (.inr (.inr h))
end
section
open Go.RowKit
theorem oW:∀ (l:List (Int × Int)) (i:Nat),i<l.length→(aA l)[i*2]? = some (.int .i64 (l.getD i (0,0)).1)∧(aA l)[i*2+1]? = some (.int .i64 (l.getD i (0,0)).2)
 | e :: l,0,_=>by simp [aA]
 | e :: l,i+1,h=>by
  have ih:=oW l i (by simpa using h);have h1:(i+1)*2=i*2+1+1:=by omega
  have h2:(i+1)*2+1=i*2+1+1+1:=by omega
  have e0:aA (e :: l)=.int .i64 e.1 :: .int .i64 e.2 :: aA l:=by simp [aA]
  rw [h2,h1,e0];simpa using ih
theorem Rd.il {w:World} {ao:Option Addr} {l:List (Int × Int)} (h:Rd w ao (aA l)) (i:Nat) (hi:i<l.length) :
  ∃ g o,ao=some ⟨g,o,none⟩∧g<w.heap.size∧w.cell? ⟨g,o+i*2,none⟩=some (.int .i64 (l.getD i (0,0)).1)∧w.cell? ⟨g,o+i*2+1,none⟩=some (.int .i64 (l.getD i (0,0)).2):=by
 have hl:=bH l;obtain ⟨g,o,rfl,hg,hc⟩:=h (by intro e;rw [e] at hl;simp at hl;omega);have hi2:=oW l i hi;refine ⟨g,o,rfl,hg,?_,?_⟩
 ·rw [hc _ (by omega)];exact hi2.1
 ·rw [show o+i*2+1=o+(i*2+1) by omega,hc _ (by omega)];exact hi2.2
theorem wD (b:Nat) (x g t:Int) (w:World) (h:w.cell? ⟨b,0,none⟩=some (.int .i64 x)) (hb:b<w.heap.size) :
  Calls Tryz.prog 160 #[.agg #[.int .i64 g, .int .i64 t], .pointer (some ⟨b,0,none⟩)] w fun e w'=>e=.returned (.bool (g == x))∧ab (fun _=>False) w w':=by
 go_enter Tryz.func160,Tryz.ntmps160
 go_wp2
 go_ret;exact ⟨rfl,(ab.refl _ _).alloc _⟩
def findG (x:Int):List (Int × Int)→Nat
 | []=>0
 | e :: l=>if e.1=x then 0 else findG x l+1
def oX (x:Int) (l:List (Int × Int)):Int:=if findG x l<l.length then (findG x l:Int) else -1
theorem lU {x:Int}:∀ {l:List (Int × Int)} {k:Nat},k<l.length→(∀ j,j<k→(l.getD j (0,0)).1≠x)→(l.getD k (0,0)).1=x→findG x l=k
 | e :: l,0,_,_,h=>by simp at h;simp [findG,h]
 | e :: l,k+1,hk,hj,h=>by
  have h0:=hj 0 (by omega);simp at h0;simp only [findG,h0,if_false];rw [lU (k:=k) (by simpa using hk) (fun j hjk=>by simpa using hj (j+1) (by omega)) (by simpa using h)]
theorem lV {x:Int}:∀ {l:List (Int × Int)},(∀ j,j<l.length→(l.getD j (0,0)).1≠x)→findG x l=l.length
 | [],_=>rfl
 | e :: l,h=>by
  have h0:=h 0 (by simp);simp at h0;simp only [findG,h0,if_false];rw [lV (fun j hj=>by simpa using h (j+1) (by simpa using hj))];rfl
theorem oC (ao:Option Addr) (cap b:Nat) (x:Int) (l:List (Int × Int)) (w:World) (h:Rd w ao (aA l)) (hc:w.cell? ⟨b,0,none⟩=some (.int .i64 x)) (hl:l.length≤9223372036854775806) (hb:b<w.heap.size) :
  Calls Tryz.prog 159 #[.slice ao l.length cap, .func (.func 160) #[] #[.pointer (some ⟨b,0,none⟩)]] w fun e w'=>
   e=.returned (.int .i64 (oX x l))∧ab (fun _=>False) w w':=by
 have HR:=Hz h;have HB:=Hz hc;clear h hc;go_enter Tryz.func159,Tryz.ntmps159;go_wp2_with fail;go_loopw [8] (fun i wr=>∃ k:Nat,k≤l.length∧i=.int .i64 k∧Hid (∀ j,j<k→(l.getD j (0,0)).1≠x)∧ab (fun _=>False) w wr) (fun i _=>l.length-(intOf i).toNat)
 case atStart=>exact ⟨0,Nat.zero_le _,rfl,(fun j hj=>by omega),ab.refl _ _⟩
 case round=>
  obtain ⟨k,hk,rfl,hno,hkk⟩:=hrel;have HK:=Hz hkk;clear hkk;by_cases hlt:k<l.length
  ·obtain ⟨g,o,rfl,_,hc0,hc1⟩:=(HR.out.ae HK.out (fun _ _ _ h=>h)).il k hlt;have hbb:wr.cell? ⟨b,0,none⟩=some (.int .i64 x):=by
    rw [←HB.out];exact World.cell?_of_block (w:=w) (a:=⟨b,0,none⟩) (HK.out.block b hb (fun h=>h))
   have hbs:b<wr.heap.size:=Nat.lt_of_lt_of_le hb HK.out.size;generalize hv:l.getD k (0,0)=v at *;have HV:=Hz hv;clear hv;cases he:(v.1 == x)
   ·go_wp2_with (go_at_call 160;refine (wD b x v.1 v.2 _ hbb hbs).mono ?_;rintro e w2 ⟨rfl,hk2⟩);go_roundw
    case rel=>exact ⟨k+1,by omega,by go_num,fun j hj=>by
     by_cases e:j=k
     ·subst e;rw [HV.out];simpa using he
     ·exact hno.out j (by omega),HK.out.trans hk2⟩
    case measure=>simp [intOf];omega
   ·have HE:=Hz (lU hlt hno.out (by rw [HV.out];simpa using he));go_wp2_with (go_at_call 160;refine (wD b x v.1 v.2 _ hbb hbs).mono ?_;rintro e w2 ⟨rfl,hk2⟩);go_ret;exact ⟨cM (by unfold oX;rw [HE.out,if_pos hlt]),HK.out.trans hk2⟩
  ·obtain rfl:k=l.length:=by omega
   have HE:=Hz (lV hno.out);go_wp2_with fail;go_ret;exact ⟨cM (by unfold oX;rw [HE.out,if_neg (by omega)]),HK.out⟩
theorem oY {l:List (Int × Int)} {u:Value} (h:u ∈ aA l):u.oneCell'=true:=by
 simp only [aA,List.mem_flatMap] at h;obtain ⟨e,_,he⟩:=h;simp at he;rcases he with rfl | rfl <;> rfl
theorem eY (e:Int × Int) (l:List (Int × Int)):aA (e :: l)=.int .i64 e.1 :: .int .i64 e.2 :: aA l:=by simp [aA]
theorem jZ:∀ {l:List (Int × Int)} {i:Nat},i<l.length→aA (l.eraseIdx i)=(aA l).take (i*2) ++ (aA l).drop ((i+1)*2)
 | e :: l,0,_=>by simp [eY]
 | e :: l,i+1,h=>by
  have ih:=jZ (l:=l) (i:=i) (by simpa using h);have e1:(i+1)*2=i*2+1+1:=by omega
  have e2:(i+1+1)*2=i*2+1+1+1+1:=by omega
  rw [List.eraseIdx_cons_succ,eY,eY,ih,e2,e1]
  rfl
theorem uv {cur news rest:List Value} {o k j:Nat} (hk:o+k≤cur.length) (hj:j=k+news.length) (tail:List Value) :
  (((cur.take (o+k) ++ news ++ tail).take (o+j) ++ rest).drop o).take j=(cur.drop o).take k ++ news:=by
 subst hj;have h1:(cur.take (o+k) ++ news ++ tail).take (o+(k+news.length))=cur.take (o+k) ++ news:=by
  apply List.take_left';simp;omega
 rw [h1,List.append_assoc,List.drop_append_of_le_length (by simp;omega),List.drop_take,show o+k-o=k by omega,←List.append_assoc];apply List.take_left';simp;omega
theorem x6 (g o cap i m:Nat) (l:List (Int × Int)) (cur:List Value) (w:World) (hb:ah w g cur 101) (hn:l.length=i+1+m) (hcap:i+1+m≤cap) (hcm:cap≤9223372036854775807) (hoc:o+cap*2≤cur.length)
  (hx:(cur.drop o).take (l.length*2)=aA l) :
  Calls Tryz.prog 161 #[.slice (some ⟨g,o,none⟩) (i+1+m) cap, .int .i64 i, .int .i64 ((i:Int)+1)] w fun e w'=>
   e=.returned (.slice (some ⟨g,o,none⟩) (i+m) cap)∧Sl w' 101 2 (.slice (some ⟨g,o,none⟩) (i+m) cap) (i+m) (aA (l.eraseIdx i))∧ab (·=g) w w':=by
 obtain ⟨i0,hi0,hz0,hz1,hz2⟩:=info_parts jY;have Hi:=Hz hi0;have Hz1:=Hz hz1;clear hi0 hz0 hz1 hz2;have HX:=Hz hx;have HB:=Hz hb;have HN:=Hz hn;clear hx hb hn;have hne:((i:Int) == (i:Int)+1)=false:=by simp;omega
 have b1:(0:Int)≤(i:Int)+1:=by omega
 have b2:(i:Int)+1≤((i+1+m:Nat):Int):=by omega
 have b3:(i:Int)+1≤(i:Int)+1+(m:Int):=by omega
 have b4:(i:Int)≤(cap:Int):=by omega
 have b5:(i:Int)≤(i:Int)+1:=by omega
 by_cases hcc:cap=i+1
 ·have hif:(if cap=i+1 then some (⟨g,o,none⟩:Addr) else some ⟨g,o+(i+1)*2,none⟩)=some ⟨g,o,none⟩:=if_pos hcc;have hif2:(if cap=i+m then some (⟨g,o,none⟩:Addr) else some ⟨g,o+(i+m)*2,none⟩)=some ⟨g,o+(i+m)*2,none⟩:=if_neg (by omega);have HCC:=Hz hcc;clear hcc;have hm0:m≤0:=by have:=HCC.out;omega
  go_enter Tryz.func161,Tryz.ntmps161;go_wp2_with fail;refine dM [(0,0),(1,0),(2,0),(3,0),(4,0),(5,0),(6,1),(7,0)] (fun _=>True) (by kernel_rfl) (by kernel_rfl) trivial ?_
  iterate 6 (refine cz rfl rfl _ (fun w' hG=>by obtain ⟨_⟩:=hG;go_simp;exact ck.mk _ _) (fun K hK=>?_);go_simp;refine hK _ ?_;clear hK K)
  refine cT rfl rfl (fun K hK=>?_);refine mN (.tmp 22) (.tmp 25) 131 rfl 101 i0 2 Tryz.underlying131 Hi.out Hz1.out g o i cap cur rfl HB.out ⟨g,o,none⟩ m (cap-(i+1)) ((aA l).drop ((i+1)*2)) ?hxq ?hlq ?hnq ?h1q ?hrq hoc ?hkq
  case hxq=>rfl
  case hlq=>rw [List.length_drop,bH,HN.out];omega
  case hnq=>
   intro j u hu;have hj:=(List.getElem?_eq_some_iff.1 hu).1;rw [List.length_drop,bH,HN.out] at hj;omega
  case h1q=>intro u hu;exact oY (List.mem_of_mem_drop hu)
  case hrq=>omega
  case hkq=>
   refine hK _ _ trivial ?_;clear hK K;have aw:ah (w.drew.setRow g (cur.take (o+i*2) ++ (aA l).drop ((i+1)*2) ++ cur.drop (o+i*2+((aA l).drop ((i+1)*2)).length)).toArray) g _ 101:=ah.setRow (w:=w.drew) HB.out _;have hk1:ab (·=g) w (w.drew.setRow g (cur.take (o+i*2) ++ (aA l).drop ((i+1)*2) ++ cur.drop (o+i*2+((aA l).drop ((i+1)*2)).length)).toArray):=((ab.refl (·=g) w).drew).setRow (g:=g) (.inl rfl) _;generalize hc1:cur.take (o+i*2) ++ (aA l).drop ((i+1)*2) ++ cur.drop (o+i*2+((aA l).drop ((i+1)*2)).length)=c1 at *;generalize w.drew.setRow g _=w1 at *;have hln:((aA l).drop ((i+1)*2)).length=m*2:=by rw [List.length_drop,bH,HN.out];omega
   have hl1:c1.length=cur.length:=by
    rw [←hc1];simp only [List.length_append,List.length_take,List.length_drop,hln];simp at hln;omega
   obtain ⟨zs,hzl,hclr⟩:=ko (P:=Tryz.prog) w1 131 0 101 (.agg #[.int .i64 0, .int .i64 0]) Tryz.underlying131 (by intro w;kernel_rfl) (by intro u hu;simp [Value.cells] at hu;subst hu;rfl) (by decide) g (o+(i+m)*2) (i+1+m-(i+m)) (cap-(i+m)) _ aw (by rw [hl1];show o+(i+m)*2+(i+1+m-(i+m))*2≤_;omega);generalize hc2:c1.take (o+(i+m)*2) ++ zs ++ c1.drop (o+(i+m)*2+zs.length)=c2 at *;have HB2:=Hz (aw.setRow c2);have HK2:=Hz (hk1.setRow (g:=g) (.inl rfl) c2.toArray);have HL:=Hz hl1;have HZ:=Hz hzl;have HLN:=Hz hln;have HC1:=Hz hc1;have HC2:=Hz hc2;clear aw hk1 hl1 hzl hln hc1 hc2
   iterate 1 (refine cz rfl rfl _ (fun w' hG=>by obtain ⟨_⟩:=hG;go_simp;exact ck.mk _ _) (fun K hK=>?_);go_simp;refine hK _ ?_;clear hK K)
   refine fR ?_;go_wp2_with fail;go_ret;refine ⟨rfl,⟨?_, .inr ⟨g,o,cap,_,rfl,HB2.out,by omega,by unfold maxLen;omega,?_,?_⟩⟩,HK2.out⟩
   ·rw [bH,List.length_eraseIdx_of_lt (by rw [HN.out];omega),HN.out];omega
   ·have h1:=HL.out;have h2:=HZ.out;have h3:zs.length=(i+1+m-(i+m))*2:=h2;rw [←HC2.out];simp only [List.length_append,List.length_take,List.length_drop];omega
   ·rw [←HC2.out,←HC1.out,List.append_assoc _ zs _,uv (by omega) (by rw [HLN.out];omega),jZ (by rw [HN.out];omega)];congr 1;rw [←HX.out,HN.out,List.take_take,Nat.min_eq_left (by omega)]
 ·go_enter Tryz.func161,Tryz.ntmps161;go_wp2_with fail;refine dM [(0,0),(1,0),(2,0),(3,0),(4,0),(5,0),(6,1),(7,0)] (fun _=>True) (by kernel_rfl) (by kernel_rfl) trivial ?_
  iterate 6 (refine cz rfl rfl _ (fun w' hG=>by obtain ⟨_⟩:=hG;go_simp;exact ck.mk _ _) (fun K hK=>?_);go_simp;refine hK _ ?_;clear hK K)
  refine cT rfl rfl (fun K hK=>?_);refine mN (.tmp 22) (.tmp 25) 131 rfl 101 i0 2 Tryz.underlying131 Hi.out Hz1.out g o i cap cur rfl HB.out ⟨g,o+(i+1)*2,none⟩ m (cap-(i+1)) ((aA l).drop ((i+1)*2)) ?hx ?hl ?hn ?h1 ?hr hoc ?hk
  case hx=>rfl
  case hl=>rw [List.length_drop,bH,HN.out];omega
  case hn=>
   intro j u hu;have hj:=(List.getElem?_eq_some_iff.1 hu).1;rw [List.length_drop,bH,HN.out] at hj;rw [eI]
   show w.cell? ⟨g,o+(i+1)*2+j,none⟩=some u
   rw [HB.out.cell,←hu,←HX.out,HN.out,List.getElem?_drop,List.getElem?_take,if_pos (by omega),List.getElem?_drop];congr 1;omega
  case h1=>intro u hu;exact oY (List.mem_of_mem_drop hu)
  case hr=>omega
  case hk=>
   refine hK _ _ trivial ?_;clear hK K;have aw:ah (w.drew.setRow g (cur.take (o+i*2) ++ (aA l).drop ((i+1)*2) ++ cur.drop (o+i*2+((aA l).drop ((i+1)*2)).length)).toArray) g _ 101:=ah.setRow (w:=w.drew) HB.out _;have hk1:ab (·=g) w (w.drew.setRow g (cur.take (o+i*2) ++ (aA l).drop ((i+1)*2) ++ cur.drop (o+i*2+((aA l).drop ((i+1)*2)).length)).toArray):=((ab.refl (·=g) w).drew).setRow (g:=g) (.inl rfl) _;generalize hc1:cur.take (o+i*2) ++ (aA l).drop ((i+1)*2) ++ cur.drop (o+i*2+((aA l).drop ((i+1)*2)).length)=c1 at *;generalize w.drew.setRow g _=w1 at *;have hln:((aA l).drop ((i+1)*2)).length=m*2:=by rw [List.length_drop,bH,HN.out];omega
   have hl1:c1.length=cur.length:=by
    rw [←hc1];simp only [List.length_append,List.length_take,List.length_drop,hln];simp at hln;omega
   obtain ⟨zs,hzl,hclr⟩:=ko (P:=Tryz.prog) w1 131 0 101 (.agg #[.int .i64 0, .int .i64 0]) Tryz.underlying131 (by intro w;kernel_rfl) (by intro u hu;simp [Value.cells] at hu;subst hu;rfl) (by decide) g (o+(i+m)*2) (i+1+m-(i+m)) (cap-(i+m)) _ aw (by rw [hl1];show o+(i+m)*2+(i+1+m-(i+m))*2≤_;omega);generalize hc2:c1.take (o+(i+m)*2) ++ zs ++ c1.drop (o+(i+m)*2+zs.length)=c2 at *;have HB2:=Hz (aw.setRow c2);have HK2:=Hz (hk1.setRow (g:=g) (.inl rfl) c2.toArray);have HL:=Hz hl1;have HZ:=Hz hzl;have HLN:=Hz hln;have HC1:=Hz hc1;have HC2:=Hz hc2;clear aw hk1 hl1 hzl hln hc1 hc2
   iterate 1 (refine cz rfl rfl _ (fun w' hG=>by obtain ⟨_⟩:=hG;go_simp;exact ck.mk _ _) (fun K hK=>?_);go_simp;refine hK _ ?_;clear hK K)
   refine fR ?_;go_wp2_with fail;go_ret;refine ⟨rfl,⟨?_, .inr ⟨g,o,cap,_,rfl,HB2.out,by omega,by unfold maxLen;omega,?_,?_⟩⟩,HK2.out⟩
   ·rw [bH,List.length_eraseIdx_of_lt (by rw [HN.out];omega),HN.out];omega
   ·have h1:=HL.out;have h2:=HZ.out;have h3:zs.length=(i+1+m-(i+m))*2:=h2;rw [←HC2.out];simp only [List.length_append,List.length_take,List.length_drop];omega
   ·rw [←HC2.out,←HC1.out,List.append_assoc _ zs _,uv (by omega) (by rw [HLN.out];omega),jZ (by rw [HN.out];omega)];congr 1;rw [←HX.out,HN.out,List.take_take,Nat.min_eq_left (by omega)]
end
section
open Go.RowKit
theorem x7 (p:Nat) (rv wv:Value) (av wait:List (Int × Int)) (x:Int) (w:World) (h:bu w p rv wv av wait) (h2:wait.length≤1000000) (hf:¬ findG x wait<wait.length) :
  Calls Tryz.prog 146 #[.pointer (some ⟨p,0,none⟩), .int .i64 x] w fun e w'=>e=.returned (.tuple #[.int .i64 0, .bool false])∧ab (fun _=>False) w w':=by
 obtain ⟨wo,wc,rfl,hrd,_,_⟩:=h.hw.rd;have hka:=(Kz w).alloc (.cells #[.int .i64 x] 2);have H:=Hz (h.ae hka (fun _ _ h=>h));have c1:=H.out.hp.cell 1;simp only [Lz,Ls] at c1;have HR:=Hz (hrd.ae hka (fun _ _ _ h=>h));have HE:=Hz (show oX x wait=-1 by unfold oX;rw [if_neg hf]);have hbx:(w.alloc (.cells #[.int .i64 x] 2)).cell? ⟨w.heap.size,0,none⟩=some (.int .i64 x):=by simp
 have HBX:=Hz hbx;clear h hrd hka hf hbx;go_enter Tryz.func146,Tryz.ntmps146;go_wp2_with fail;refine (oC wo wc w.heap.size x wait _ HR.out HBX.out (by omega) (by simp)).mono ?_;rintro e w1 ⟨rfl,hk⟩;rw [HE.out];go_wp2_with fail;go_ret2;exact ⟨rfl,((ab.refl _ _).alloc _).trans hk⟩
theorem Sl.laid {w:World} {e size:Nat} {v:Value} {n:Nat} {xs:List Value} (h:Sl w e size v n xs) (hn:0<n) :
  ∃ g o cap cur,v=.slice (some ⟨g,o,none⟩) n cap∧ah w g cur e∧n≤cap∧cap≤maxLen∧o+cap*size≤cur.length∧(cur.drop o).take (n*size)=xs:=by
 rcases h.2 with ⟨_,h0⟩ | h
 ·omega
 ·exact h
theorem x8 (p:Nat) (rv wv:Value) (av wait:List (Int × Int)) (x:Int) (i m:Nat) (w:World) (h:bu w p rv wv av wait) (h2:wait.length≤1000000) (hf:findG x wait=i) (hm:wait.length=i+1+m) :
  Calls Tryz.prog 146 #[.pointer (some ⟨p,0,none⟩), .int .i64 x] w fun e w'=>e=.returned (.tuple #[.int .i64 (wait.getD i (0,0)).2, .bool true])∧sa w p rv wv w' av (wait.eraseIdx i):=by
 have HW:=Hz h;have hka:=(Kz w).alloc (.cells #[.int .i64 x] 2);have h1:=h.ae hka (fun _ _ h=>h);obtain ⟨g,o,cap,cur,rfl,hb,hnc,hcm,hoc,hx⟩:=h1.hw.laid (by omega);obtain ⟨_,_,e,hrd,_,_⟩:=h1.hw.rd;cases e;have H:=Hz h1;have c1:=H.out.hp.cell 1;simp only [Lz,Ls] at c1;have HR:=Hz hrd;have HE:=Hz (show oX x wait=(i:Int) by unfold oX;rw [hf,if_pos (by omega)]);have hbx:(w.alloc (.cells #[.int .i64 x] 2)).cell? ⟨w.heap.size,0,none⟩=some (.int .i64 x):=by simp
 have HBX:=Hz hbx;have HM:=Hz hm;have hcm':cap≤9223372036854775807:=by simpa [maxLen] using hcm
 have HX:=Hz hx;have HB:=Hz hb;have hlo:i+1+m≤wait.length:=by omega
 have h2':i+1+m≤1000000:=by omega
 have hlt:i<wait.length:=by omega
 clear h hrd hf hbx hm h1 hka hx hb hcm;go_enter Tryz.func146,Tryz.ntmps146;go_wp2_with fail;refine (oC (some ⟨g,o,none⟩) cap w.heap.size x wait _ HR.out HBX.out (by omega) (by simp)).mono ?_;rintro e w1 ⟨rfl,hk⟩;rw [HE.out];have HK1:=Hz (((ab.refl (a7 p rv (.slice (some ⟨g,o,none⟩) wait.length cap)) w).alloc (.cells #[.int .i64 x] 2)).trans (hk.mono fun _ _ h=>h.elim));have H1:=Hz (H.out.ae hk (fun _ _ h=>h));have HB1:=Hz (hk.ak HB.out (fun h=>h));obtain ⟨g',o',e',_,d0,d1⟩:=((HR.out.ae hk (fun _ _ _ h=>h))).il i (by omega);cases e';clear hk c1;have c1:=H1.out.hp.cell 1;simp only [Lz,Ls] at c1;have ht:(i:Int)<((wait.length:Nat):Int):=by omega
 generalize hv:wait.getD i (0,0)=v at *;have HV:=Hz hv;clear hv;go_wp2_with fail;rw [HM.out];refine (x6 g o cap i m wait cur _ HB1.out HM.out (by omega) hcm' hoc HX.out).mono ?_;rintro e w2 ⟨rfl,hs2,hk2⟩;have hpg:p≠g:=fun e=>by subst e;exact (HB1.out.ne H1.out.hp (by decide)) rfl
 have HP2:=Hz (hk2.ak H1.out.hp hpg);have HR2:=Hz (H1.out.hr.ae hk2 (by rintro b hb rfl;exact H1.out.ap b ⟨hb,rfl⟩));have HK2:Hid (ab (a7 p rv (.slice (some ⟨g,o,none⟩) wait.length cap)) w w2):=HK1.out.trans (hk2.mono (by rintro k _ rfl;exact .inr (.inr rfl)));have HS2:=Hz hs2;have e1:=HP2.out.cell 1;have f1:=HP2.out.free 1;simp only [Lz,Ls] at e1;clear hs2 hk2 c1 d0 d1;go_wp2_with fail;go_ret2;have hlen:(wait.eraseIdx i).length=i+m:=by rw [List.length_eraseIdx_of_lt hlt,HM.out];omega
 refine ⟨by rw [HV.out];rfl,rv, .slice (some ⟨g,o,none⟩) (i+m) cap,⟨by simpa using HP2.out.aO 1 _,HR2.out.ae ((ab.refl (·=p) w2).setCell (p:=⟨p,1,none⟩) (.inl rfl) _) ?_,?_,?_⟩,HK2.out.setCell (p:=⟨p,1,none⟩) (.inl (.inl rfl)) _,?_⟩
 ·rintro b hb rfl;exact HW.out.pr hb
 ·rw [hlen];exact HS2.out.ae ((ab.refl (·=p) w2).setCell (p:=⟨p,1,none⟩) (.inl rfl) _) (by rintro b hb rfl;simp [ai,Value.ownBlock] at hb;exact hpg hb.symm)
 ·rintro k ⟨a1,a2⟩;exact HW.out.ap k ⟨a1,a2⟩
 ·rintro k (a | a | a)
  ·exact .inl (.inl a)
  ·exact .inl (.inr (.inl a))
  ·exact .inl (.inr (.inr a))
theorem uZ:(Tryz.prog.info? 2).map (fun i=>(i.zero,i.size,i.bytes))=some (some (.int .i64 0),1,8):=by kernel_rfl
def kv (x:Int) (l:List (Int × Int)):List Int:=(l.filter fun e=>e.1 == x).map (·.2)
theorem x9 {x:Int} {l:List (Int × Int)} {k:Nat} (h:k<l.length):kv x (l.take (k+1))=kv x (l.take k) ++ if ((l.getD k (0,0)).1 == x)=true then [(l.getD k (0,0)).2] else []:=by
 unfold kv;rw [List.take_succ_eq_append_getElem h,List.filter_append,List.map_append];congr 1;have hg:l.getD k (0,0)=l[k]:=by simp [List.getD,h]
 rw [hg];cases hc:(l[k].1 == x) <;> simp [hc]
theorem wE (x:Int) (l:List (Int × Int)):(kv x l).length≤l.length:=by
 unfold kv;rw [List.length_map];exact List.length_filter_le _ _
def yb (w:World) (e:Ending) (w':World) (l:List Int):Prop:=
 ∃ ao cap,e=.returned (.slice ao l.length cap)∧Sl w' 2 1 (.slice ao l.length cap) l.length (l.map (Value.int .i64))∧ab (fun _=>False) w w'∧∀ k,ai (.slice ao l.length cap) k→w.heap.size≤k
theorem Cx (p:Nat) (rv wv:Value) (av wait:List (Int × Int)) (x:Int) (w:World) (h:bu w p rv wv av wait) (h2:wait.length≤1000000) :
  Calls Tryz.prog 157 #[.pointer (some ⟨p,0,none⟩), .int .i64 x] w fun e w'=>yb w e w' (kv x wait):=by
 obtain ⟨i0,hi,hz0,hz1,hz2⟩:=info_parts uZ;have Hi:=Hz hi;have Hz0:=Hz hz0;have Hz1:=Hz hz1;have Hz2:=Hz hz2;clear hi hz0 hz1 hz2;obtain ⟨wo,wc,rfl,hrd,_,_⟩:=h.hw.rd;have c1:=h.hp.cell 1;simp only [Lz,Ls] at c1;have H:=Hz h;have HR:=Hz hrd;clear h hrd;go_enter Tryz.func157,Tryz.ntmps157;go_wp2_with fail;go_loopw [5,13] (fun v i wr=>∃ k:Nat,k≤wait.length∧i=.int .i64 k∧Sl wr 2 1 v (kv x (wait.take k)).length ((kv x (wait.take k)).map (Value.int .i64))∧ab (fun _=>False) w wr∧∀ k,ai v k→w.heap.size≤k) (fun _ i _=>wait.length-(intOf i).toNat)
 case atStart=>exact ⟨0,Nat.zero_le _,rfl,by simpa [kv] using Sl.nil w 2 1,ab.refl _ _,by intro k hk;simp [ai,Value.ownBlock] at hk⟩
 case round=>
  obtain ⟨k,hk,rfl,hs,hkk,how⟩:=hrel;have HK:=Hz hkk;have HS:=Hz hs;have HO:=Hz how;clear hkk hs how;have hal:(kv x (wait.take k)).length≤k:=Nat.le_trans (wE _ _) (List.length_take_le _ _);by_cases hlt:k<wait.length
  ·obtain ⟨g,o,rfl,_,d0,d1⟩:=((HR.out.ae HK.out (fun _ _ _ h=>h))).il k hlt;have HST:=Hz (x9 (x:=x) hlt);generalize wait.getD k (0,0)=v at *;cases hv:(v.1 == x)
   ·go_wp2_with fail;go_roundw
    case rel=>exact ⟨k+1,by omega,by go_num,by rw [HST.out,hv];simpa using HS.out.ae ((Kz wr).alloc _) (fun _ _ h=>h),HK.out.alloc _,HO.out⟩
    case measure=>simp [intOf];omega
   ·go_wp2_with (at_builtin;refine bN rfl (.tmp 21) (.tmp 24) 50 rfl 2 i0 (.int .i64 0) 1 8 Tryz.underlying50 Hi.out Hz0.out Hz1.out Hz2.out rfl (by decide) _ (kv x (wait.take k)).length ((kv x (wait.take k)).map (Value.int .i64)) rfl ?ha ⟨wr.heap.size+1,0,none⟩ 1 1 [.int .i64 v.2] rfl rfl ?hb ?hc ?hd ?he ?hf)
    case ha=>exact HS.out.ae (((Kz wr).alloc _).alloc _) (fun _ _ h=>h)
    case hb=>
     have:=bW (wr.alloc (Obj.cells #[.int .i64 v.1, .int .i64 v.2] 101)) 2 #[.int .i64 v.2];simpa using this
    case hc=>intro u hu;simp at hu;subst hu;rfl
    case hd=>unfold maxLen;omega
    case he=>omega
    case hf=>
     intro v2 w2 hs2 hk2 ho2;have HK2:=Hz (((HK.out.alloc (Obj.cells #[.int .i64 v.1, .int .i64 v.2] 101)).alloc (Obj.cells #[.int .i64 v.2] 2)).then hk2 (fun j hj=>.inr (HO.out j hj)));have HO2:Hid (∀ j,ai v2 j→w.heap.size≤j):=fun j hj=>by
      rcases ho2 j hj with h | h
      ·exact HO.out j h
      ·have:=HK.out.size;first | omega | (simp at h;omega)
     have HS2:=Hz hs2;clear hs2 hk2 ho2;go_wp2_with fail;go_roundw
     case rel=>exact ⟨k+1,by omega,by go_num,by rw [HST.out,if_pos hv];simpa using HS2.out,HK2.out,HO2.out⟩
     case measure=>simp [intOf];omega
  ·obtain rfl:k=wait.length:=by omega
   go_wp2_with fail;go_ret;have hs:=HS.out;rw [List.take_length] at hs;obtain ⟨ao,cap,rfl,_,_,_⟩:=hs.rd;exact ⟨ao,cap,rfl,hs,HK.out,HO.out⟩
def zM (w:World) (e:Ending) (w':World) (l:List (Int × Int)):Prop:=
 ∃ ao cap,e=.returned (.slice ao l.length cap)∧Sl w' 101 2 (.slice ao l.length cap) l.length (aA l)∧ab (fun _=>False) w w'∧∀ k,ai (.slice ao l.length cap) k→w.heap.size≤k
theorem uw (v:Value) (l:List (Int × Int)) (w:World) (h:Sl w 101 2 v l.length (aA l)) (hl:l.length≤1000000) :
  Calls Tryz.prog 132 #[v] w fun e w'=>zM w e w' l:=by
 obtain ⟨i0,hi,hz0,hz1,hz2⟩:=info_parts jY;have Hi:=Hz hi;have Hz0:=Hz hz0;have Hz1:=Hz hz1;have Hz2:=Hz hz2;clear hi hz0 hz1 hz2;have hxl:=h.1;rcases h.2 with ⟨rfl,hn⟩ | ⟨g,o,cap,cur,rfl,hb,hnc,hcm,hoc,hx⟩
 ·have hl0:l=[]:=List.eq_nil_of_length_eq_zero hn;subst hl0;have hne:=fun (wx:World)=>Lib.run_eql_slice_nil (P:=Tryz.prog) wx 131 101 none 0 0 0 0 Tryz.underlying131;go_enter Tryz.func132,Tryz.ntmps132;go_wp2_with fail;go_ret;exact ⟨none,0,rfl,Sl.nil _ _ _,ab.refl _ _,by intro k hk;simp [ai,Value.ownBlock] at hk⟩
 ·have hne:=fun (wx:World)=>Lib.run_eql_slice_nil (P:=Tryz.prog) wx 131 101 (some ⟨g,o,none⟩) l.length cap 0 0 Tryz.underlying131;have HX:=Hz hx;have HB:=Hz hb;clear hx hb h hxl;go_enter Tryz.func132,Tryz.ntmps132;go_wp2_with (at_builtin;refine bN rfl (.tmp 5) (.tmp 6) 131 rfl 101 i0 (.agg #[.int .i64 0, .int .i64 0]) 2 16 Tryz.underlying131 Hi.out Hz0.out Hz1.out Hz2.out rfl (by decide) _ 0 [] rfl ?ha ⟨g,o,none⟩ l.length cap (aA l) rfl ?hl ?hb ?hc ?hd ?he ?hf)
  case ha=>exact ⟨rfl, .inr ⟨w.heap.size,0,0,[],rfl,ah.newAt _ rfl rfl,Nat.le_refl _,Nat.zero_le _,by simp,by simp⟩⟩
  case hl=>exact bH l
  case hb=>
   intro j u hu;have hj:=(List.getElem?_eq_some_iff.1 hu).1;rw [bH] at hj;rw [eI,(HB.out.alloc _).cell,←hu,←HX.out,List.getElem?_take,if_pos hj,List.getElem?_drop]
  case hc=>intro u hu;exact oY hu
  case hd=>unfold maxLen;omega
  case he=>omega
  case hf=>
   intro v2 w2 hs2 hk2 ho2;go_wp2_with fail;go_ret;obtain ⟨ao,c2,rfl,_,_,_⟩:=hs2.rd;refine ⟨ao,c2,rfl,hs2,((Kz w).alloc _).then hk2 (fun j hj=>by simp [ai,Value.ownBlock] at hj;exact .inr (by omega)),fun j hj=>?_⟩;rcases ho2 j hj with h | h
   ·simp [ai,Value.ownBlock] at h;omega
   ·first | omega | (simp at h;omega)
def zN (w:World) (e:Ending) (w':World) (av wait:List (Int × Int)):Prop:=
 ∃ p' rv' wv',e=.returned (.pointer (some ⟨p',0,none⟩))∧bu w' p' rv' wv' av wait∧ab (fun _=>False) w w'∧∀ k,a7 p' rv' wv' k→w.heap.size≤k
theorem AR (p:Nat) (rv wv:Value) (av wait:List (Int × Int)) (w:World) (h:bu w p rv wv av wait) (h1:av.length≤1000000) (h2:wait.length≤1000000) :
  Calls Tryz.prog 68 #[.pointer (some ⟨p,0,none⟩)] w fun e w'=>zN w e w' av wait:=by
 obtain ⟨ro,rc,rfl,_,_,_⟩:=h.hr.rd;obtain ⟨wo,wc,rfl,_,_,_⟩:=h.hw.rd;have c0:=h.hp.cell 0;have c1:=h.hp.cell 1;simp only [Lz,Ls] at c0 c1;have H:=Hz h;clear h;go_enter Tryz.func68,Tryz.ntmps68;go_wp2_with fail;refine dM [(0,0),(1,0),(2,0),(5,0),(6,0),(7,0),(3,0),(8,0),(4,1),(9,1),(10,0),(11,1),(12,0)] (fun w'=>w'.cell? ⟨p,0,none⟩=some (.slice ro av.length rc)∧w'.cell? ⟨p,1,none⟩=some (.slice wo wait.length wc)) (by kernel_rfl) (by kernel_rfl) ⟨c0,c1⟩ ?_
 iterate 8 (refine cz rfl rfl _ (fun w' hG=>by obtain ⟨g0,g1⟩:=hG;go_simp;exact ck.mk _ _) (fun K hK=>?_);go_simp;refine hK _ ?_;clear hK K)
 refine cT rfl rfl (fun K hK=>?_);unfold aC;go_simp;refine (uw _ av _ (H.out.hr.ae ((Kz w).drew) (fun _ _ h=>h)) h1).mono ?_;rintro e w1 ⟨ao,ac,rfl,hs,hk,ho⟩;have HK1:=Hz (((Kz w).drew).trans hk);have H1:=Hz (H.out.ae HK1.out (fun _ _ h=>h));have HS:=Hz hs;have HO:=Hz ho;have HSL:Hid (∀ k,ai (.slice ao av.length ac) k→k<w1.heap.size):=fun k hk=>(HS.out.own hk).1;clear hs hk ho;refine hK _ _ ⟨H1.out.hp.cell 0,H1.out.hp.cell 1⟩ ?_;clear hK K;refine cT rfl rfl (fun K hK=>?_);unfold aC;go_simp;refine (uw _ wait _ H1.out.hw h2).mono ?_;rintro e w2 ⟨bo,bc,rfl,hs,hk,ho⟩;have HK2:=Hz (HK1.out.trans hk);have H2:=Hz (H1.out.ae hk (fun _ _ h=>h));have HS1:=Hz (HS.out.ae hk (fun _ _ h=>h));have HS2:=Hz hs;have HO2:=Hz ho;have hsz:=HK1.out.size;clear hs hk ho HS;refine hK _ _ ⟨H2.out.hp.cell 0,H2.out.hp.cell 1⟩ ?_;clear hK K
 iterate 1 (refine cz rfl rfl _ (fun w' hG=>by obtain ⟨g0,g1⟩:=hG;go_simp;exact ck.mk _ _) (fun K hK=>?_);go_simp;refine hK _ ?_;clear hK K)
 refine cT rfl rfl (fun K hK=>?_);unfold aC;go_simp;refine hK _ _ ?_ ?_
 ·have:=H2.out.hp.alloc (Obj.cells #[Value.slice ao av.length ac,Value.slice bo wait.length bc] 133);exact ⟨this.cell 0,this.cell 1⟩
 clear hK K
 iterate 1 (refine cz rfl rfl _ (fun w' hG=>by obtain ⟨g0,g1⟩:=hG;go_simp;exact ck.mk _ _) (fun K hK=>?_);go_simp;refine hK _ ?_;clear hK K)
 refine fR ?_;go_wp2_with fail;go_ret;refine ⟨w2.heap.size, .slice ao av.length ac, .slice bo wait.length bc,rfl,⟨.newAt _ rfl rfl,HS1.out.ae ((Kz w2).alloc _) (fun _ _ h=>h),HS2.out.ae ((Kz w2).alloc _) (fun _ _ h=>h),?_⟩,HK2.out.alloc _,?_⟩
 ·rintro k ⟨a1,a2⟩;have:=HO2.out k a2;have:=HSL.out k a1;omega
 ·rintro k (a | a | a)
  ·subst a;exact HK2.out.size
  ·exact HO.out k a
  ·exact Nat.le_trans hsz (HO2.out k a)
end
section
abbrev Vl:=Int × Int
abbrev Nd:=Int × List Vl
abbrev Gr:=Int→Nd
abbrev VS:=List Int × List Nd
def iF (n:Nat):Vl:=(3,(n:Int))
def fldM (f:Vl→VS→Vl × VS):List Vl→VS→List Vl × VS
 | [],s=>([],s)
 | v :: l,s=>((f v s).1 :: (fldM f l (f v s).2).1,(fldM f l (f v s).2).2)
def valM (G:Gr):Nat→Vl→VS→Vl × VS
 | 0,v,s=>if v.1=3 then (iF (s.1.idxOf v.2),s) else (v,s)
 | n+1,v,s=>
  if v.1=3 then
   if v.2 ∈ s.1 then (iF (s.1.idxOf v.2),s)
   else
    let r:=fldM (valM G n) (G v.2).2 (s.1 ++ [v.2],s.2 ++ [((G v.2).1,[])])
    (iF s.1.length,(r.2.1,r.2.2.set s.1.length ((G v.2).1,r.1)))
  else (v,s)
theorem dx (G:Gr) (n:Nat) {v:Vl} (s:VS) (h:v.1≠3):valM G n v s=(v,s):=by
 cases n <;> simp [valM,h]
theorem fC (G:Gr) (n:Nat) {v:Vl} {s:VS} (h:v.1=3) (hm:v.2 ∈ s.1):valM G n v s=(iF (s.1.idxOf v.2),s):=by
 cases n <;> simp [valM,h,hm]
theorem fD (G:Gr) (n:Nat) {v:Vl} {s:VS} (h:v.1=3) (hm:¬ v.2 ∈ s.1):valM G (n+1) v s =
  (iF s.1.length,((fldM (valM G n) (G v.2).2 (s.1 ++ [v.2],s.2 ++ [((G v.2).1,[])])).2.1,
   (fldM (valM G n) (G v.2).2 (s.1 ++ [v.2],s.2 ++ [((G v.2).1,[])])).2.2.set s.1.length ((G v.2).1,(fldM (valM G n) (G v.2).2 (s.1 ++ [v.2],s.2 ++ [((G v.2).1,[])])).1))):=by
 simp [valM,h,hm]
theorem lW (f:Vl→VS→Vl × VS):∀ (a b:List Vl) (s:VS),fldM f (a ++ b) s=((fldM f a s).1 ++ (fldM f b (fldM f a s).2).1,(fldM f b (fldM f a s).2).2)
 | [],b,s=>rfl
 | v :: a,b,s=>by simp [fldM,lW f a b]
theorem lX (f:Vl→VS→Vl × VS):∀ (a:List Vl) (s:VS),(fldM f a s).1.length=a.length
 | [],_=>rfl
 | v :: a,s=>by simp [fldM,lX f a]
def deep:Nat:=5000
def j2 (G:Gr) (roots:List Vl):List Vl × List Nd:=((fldM (valM G deep) roots ([],[])).1,(fldM (valM G deep) roots ([],[])).2.2)
def eP (φ:Int→Int) (v:Vl):Vl:=if v.1=3 then (3,φ v.2) else v
theorem oZ (φ:Int→Int) (v:Vl):(eP φ v).1=v.1:=by unfold eP;split <;> simp_all
structure zq (G H:Gr) (P:Int→Prop) (φ:Int→Int):Prop where
 inj:∀ i j,P i→P j→φ i=φ j→i=j
 same:∀ i,P i→H (φ i)=((G i).1,(G i).2.map (eP φ))
 shut:∀ i,P i→∀ v ∈ (G i).2,v.1=3→P v.2
theorem mW {φ:Int→Int} {P:Int→Prop} (inj:∀ i j,P i→P j→φ i=φ j→i=j) {x:Int} (hx:P x):∀ (l:List Int),(∀ i ∈ l,P i)→(l.map φ).idxOf (φ x)=l.idxOf x∧(φ x ∈ l.map φ↔x ∈ l)
 | [],_=>by simp
 | a :: l,h=>by
  obtain ⟨h1,h2⟩:=mW inj hx l (fun i hi=>h i (by simp [hi]));have ha:=h a (by simp);by_cases e:a=x
  ·subst e;simp
  ·have e':φ a≠φ x:=fun e'=>e (inj _ _ ha hx e');refine ⟨?_,?_⟩
   ·have b1:(φ a == φ x)=false:=by simpa using e'
    have b2:(a == x)=false:=by simpa using e
    rw [List.map_cons,List.idxOf_cons,List.idxOf_cons,h1,b1,b2]
   ·rw [List.map_cons,List.mem_cons,List.mem_cons,h2];simp [Ne.symm e,Ne.symm e']
theorem yc {G H:Gr} {P:Int→Prop} {φ:Int→Int} (I:zq G H P φ):∀ (n:Nat) (v:Vl) (s:VS),(v.1=3→P v.2)→(∀ i ∈ s.1,P i) →
  valM H n (eP φ v) (s.1.map φ,s.2)=((valM G n v s).1,((valM G n v s).2.1.map φ,(valM G n v s).2.2))∧∀ i ∈ (valM G n v s).2.1,P i:=by
 intro n
 induction n with
 | zero=>
  intro v s hv hs;by_cases h3:v.1=3
  ·have:=mW I.inj (hv h3) s.1 hs;simp only [valM,h3,eP,if_true,this.1];exact ⟨trivial,hs⟩
  ·have e:eP φ v=v:=by unfold eP;rw [if_neg h3]
   rw [dx G _ _ h3,e,dx H _ _ h3];exact ⟨rfl,hs⟩
 | succ n ih=>
  intro v s hv hs;by_cases h3:v.1=3
  ·have hx:=hv h3;have hi:=mW I.inj hx s.1 hs;by_cases hm:v.2 ∈ s.1
   ·rw [fC G _ h3 hm,fC H _ (by rw [oZ];exact h3) (by simp only [eP,h3,if_true];exact hi.2.2 hm)];simp only [eP,h3,if_true,hi.1];exact ⟨trivial,hs⟩
   ·have fl:∀ (l:List Vl) (s:VS),(∀ u ∈ l,u.1=3→P u.2)→(∀ i ∈ s.1,P i) →
      fldM (valM H n) (l.map (eP φ)) (s.1.map φ,s.2)=((fldM (valM G n) l s).1,((fldM (valM G n) l s).2.1.map φ,(fldM (valM G n) l s).2.2))∧∀ i ∈ (fldM (valM G n) l s).2.1,P i:=by
     intro l
     induction l with
     | nil=>intro s _ hs;exact ⟨rfl,hs⟩
     | cons u l ihl=>
      intro s hl hs;obtain ⟨h1,h2⟩:=ih u s (hl u (by simp)) hs;obtain ⟨h4,h5⟩:=ihl (valM G n u s).2 (fun u hu=>hl u (by simp [hu])) h2;simp only [List.map_cons,fldM,h1];rw [h4];exact ⟨rfl,h5⟩
    have hs':∀ i ∈ s.1 ++ [v.2],P i:=by
     intro i hi';rcases List.mem_append.1 hi' with h | h
     ·exact hs i h
     ·rw [List.mem_singleton.1 h];exact hx
    obtain ⟨h1,h2⟩:=fl (G v.2).2 (s.1 ++ [v.2],s.2 ++ [((G v.2).1,[])]) (fun u hu=>I.shut _ hx u hu) hs';have hmr:¬ (eP φ v).2 ∈ s.1.map φ:=by simp only [eP,h3,if_true];exact fun h=>hm (hi.2.1 h)
    have hr2:(eP φ v).2=φ v.2:=by simp [eP,h3]
    rw [fD G n h3 hm,fD H n (s:=(s.1.map φ,s.2)) (by rw [oZ];exact h3) hmr,hr2,I.same _ hx];simp only [List.map_append,List.map_cons,List.map_nil] at h1;dsimp only;rw [h1];simp only [List.length_map];exact ⟨trivial,h2⟩
  ·rw [dx G _ _ h3,dx H _ _ (by rw [oZ];exact h3)];have:eP φ v=v:=by unfold eP;rw [if_neg h3]
   rw [this];exact ⟨rfl,hs⟩
theorem sd {G H:Gr} {P:Int→Prop} {φ:Int→Int} (I:zq G H P φ) (n:Nat):∀ (l:List Vl) (s:VS),(∀ u ∈ l,u.1=3→P u.2)→(∀ i ∈ s.1,P i) →
  fldM (valM H n) (l.map (eP φ)) (s.1.map φ,s.2)=((fldM (valM G n) l s).1,((fldM (valM G n) l s).2.1.map φ,(fldM (valM G n) l s).2.2))∧∀ i ∈ (fldM (valM G n) l s).2.1,P i
 | [],s,_,hs=>⟨rfl,hs⟩
 | u :: l,s,hl,hs=>by
  obtain ⟨h1,h2⟩:=yc I n u s (hl u (by simp)) hs;obtain ⟨h4,h5⟩:=sd I n l (valM G n u s).2 (fun u hu=>hl u (by simp [hu])) h2;simp only [List.map_cons,fldM,h1];rw [h4];exact ⟨rfl,h5⟩
theorem wF {G H:Gr} {P:Int→Prop} {φ:Int→Int} (I:zq G H P φ) {roots:List Vl} (hr:∀ u ∈ roots,u.1=3→P u.2):j2 H (roots.map (eP φ))=j2 G roots:=by
 have:=(sd I deep roots ([],[]) hr (by simp)).1;unfold j2;simp only [List.map_nil] at this;rw [this]
def dz (U met:List Int):Nat:=(U.filter fun x=>!met.contains x).length
end
section
theorem kx {p q:Int→Bool} (h:∀ x,p x=true→q x=true):∀ U:List Int,(U.filter p).length≤(U.filter q).length
 | []=>Nat.le_refl _
 | a :: U=>by
  have ih:=kx h U;simp only [List.filter_cons];split
  ·rename_i h1;rw [if_pos (h a h1)];simpa using ih
  ·split
   ·simp;omega
   ·exact ih
theorem mX {p q:Int→Bool} {x:Int} (h:∀ x,p x=true→q x=true) (h1:p x=false) (h2:q x=true):∀ U:List Int,x ∈ U→(U.filter p).length<(U.filter q).length
 | [],hx=>by cases hx
 | a :: U,hx=>by
  have hle:=kx h U;simp only [List.filter_cons];rcases List.mem_cons.1 hx with rfl | hx
  ·rw [if_neg (by rw [h1];decide),if_pos h2];simp;omega
  ·have ih:=mX h h1 h2 U hx;split
   ·rename_i h3;rw [if_pos (h a h3)];simpa using ih
   ·split
    ·simp;omega
    ·exact ih
theorem qI (U a b:List Int):dz U (a ++ b)≤dz U a:=
 kx (fun x hx=>by simp at hx ⊢;exact hx.1) U
theorem jw {U met:List Int} {x:Int} (hx:x ∈ U) (hm:¬ x ∈ met):dz U (met ++ [x])<dz U met:=
 mX (fun y hy=>by simp at hy ⊢;exact hy.1) (x:=x) (by simp) (by simpa using hm) U hx
theorem se {U met:List Int} (h:dz U met=0) {x:Int} (hx:x ∈ U):x ∈ met:=by
 by_cases hm:x ∈ met
 ·exact hm
 ·have:=jw hx hm;omega
theorem qJ (U:List Int):dz U []≤U.length:=List.length_filter_le _ _
theorem lY {f:Vl→VS→Vl × VS} (hf:∀ v s, ∃ m,(f v s).2.1=s.1 ++ m):∀ (l:List Vl) (s:VS), ∃ m,(fldM f l s).2.1=s.1 ++ m
 | [],s=>⟨[],by simp [fldM]⟩
 | v :: l,s=>by
  obtain ⟨m,h⟩:=hf v s;obtain ⟨m',h'⟩:=lY hf l (f v s).2;exact ⟨m ++ m',by simp only [fldM];rw [h',h];simp⟩
theorem lZ (G:Gr):∀ (n:Nat) (v:Vl) (s:VS), ∃ m,(valM G n v s).2.1=s.1 ++ m:=by
 intro n
 induction n with
 | zero=>intro v s;refine ⟨[],?_⟩;simp only [valM];split <;> simp
 | succ n ih=>
  intro v s;by_cases h3:v.1=3
  ·by_cases hm:v.2 ∈ s.1
   ·exact ⟨[],by rw [fC G _ h3 hm];simp⟩
   ·obtain ⟨m,h⟩:=lY ih (G v.2).2 (s.1 ++ [v.2],s.2 ++ [((G v.2).1,[])]);exact ⟨[v.2] ++ m,by rw [fD G n h3 hm];dsimp only;rw [h];simp⟩
  ·exact ⟨[],by rw [dx G _ _ h3];simp⟩
structure ux (G:Gr) (U:List Int):Prop where
 shut:∀ i ∈ U, ∀ v ∈ (G i).2,v.1=3→v.2 ∈ U
theorem j3 {f:Vl→VS→Vl × VS} (hf:∀ v s,s.2.length=s.1.length→(f v s).2.2.length=(f v s).2.1.length):∀ (l:List Vl) (s:VS),s.2.length=s.1.length→(fldM f l s).2.2.length=(fldM f l s).2.1.length
 | [],s,h=>h
 | v :: l,s,h=>j3 hf l _ (hf v s h)
theorem j4 (G:Gr):∀ (n:Nat) (v:Vl) (s:VS),s.2.length=s.1.length→(valM G n v s).2.2.length=(valM G n v s).2.1.length:=by
 intro n
 induction n with
 | zero=>intro v s h;simp only [valM];split <;> exact h
 | succ n ih=>
  intro v s h;by_cases h3:v.1=3
  ·by_cases hm:v.2 ∈ s.1
   ·rw [fC G _ h3 hm];exact h
   ·rw [fD G n h3 hm];simp only [List.length_set];exact j3 ih _ _ (by simp [h])
  ·rw [dx G _ _ h3];exact h
theorem gX {f:Vl→VS→Vl × VS} {U:List Int} (hf:∀ v s,(v.1=3→v.2 ∈ U)→(f v s).2.1.length+dz U (f v s).2.1≤s.1.length+dz U s.1) :
  ∀ (l:List Vl) (s:VS),(∀ v ∈ l,v.1=3→v.2 ∈ U)→(fldM f l s).2.1.length+dz U (fldM f l s).2.1≤s.1.length+dz U s.1
 | [],s,_=>Nat.le_refl _
 | v :: l,s,hl=>Nat.le_trans (gX hf l _ (fun u hu=>hl u (by simp [hu]))) (hf v s (hl v (by simp)))
theorem j5 {G:Gr} {U:List Int} (I:ux G U):∀ (n:Nat) (v:Vl) (s:VS),(v.1=3→v.2 ∈ U)→(valM G n v s).2.1.length+dz U (valM G n v s).2.1≤s.1.length+dz U s.1:=by
 intro n
 induction n with
 | zero=>intro v s _;simp only [valM];split <;> exact Nat.le_refl _
 | succ n ih=>
  intro v s hv;by_cases h3:v.1=3
  ·by_cases hm:v.2 ∈ s.1
   ·rw [fC G _ h3 hm];exact Nat.le_refl _
   ·rw [fD G n h3 hm];have:=gX (f:=valM G n) ih (G v.2).2 (s.1 ++ [v.2],s.2 ++ [((G v.2).1,[])]) (I.shut _ (hv h3));have hp:=jw (hv h3) hm;simp only [List.length_append,List.length_cons,List.length_nil] at this;dsimp only;omega
  ·rw [dx G _ _ h3];exact Nat.le_refl _
theorem l4 {f:Vl→VS→Vl × VS} (hl:∀ v s,s.2.length=s.1.length→(f v s).2.2.length=(f v s).2.1.length) (hp:∀ v s, ∃ m,(f v s).2.1=s.1 ++ m)
  (hf:∀ v s,s.2.length=s.1.length→∀ i,i<s.1.length→(f v s).2.2[i]? = s.2[i]?):∀ (l:List Vl) (s:VS),s.2.length=s.1.length→∀ i,i<s.1.length→(fldM f l s).2.2[i]? = s.2[i]?
 | [],s,_,i,_=>rfl
 | v :: l,s,h,i,hi=>by
  obtain ⟨m,hm⟩:=hp v s;have:=l4 hl hp hf l (f v s).2 (hl v s h) i (by rw [hm];simp;omega);simp only [fldM];rw [this,hf v s h i hi]
theorem vd (G:Gr):∀ (n:Nat) (v:Vl) (s:VS),s.2.length=s.1.length→∀ i,i<s.1.length→(valM G n v s).2.2[i]? = s.2[i]? := by
 intro n
 induction n with
 | zero=>intro v s _ i _;simp only [valM];split <;> rfl
 | succ n ih=>
  intro v s h i hi;by_cases h3:v.1=3
  ·by_cases hm:v.2 ∈ s.1
   ·rw [fC G _ h3 hm]
   ·rw [fD G n h3 hm];dsimp only;rw [List.getElem?_set_ne (by omega)];have:=l4 (j4 G n) (lZ G n) ih (G v.2).2 (s.1 ++ [v.2],s.2 ++ [((G v.2).1,[])]) (by simp [h]) i (by simp;omega);rw [this];dsimp only;rw [List.getElem?_append_left (by omega)]
  ·rw [dx G _ _ h3]
end
end Go.Proofs.YtjifdalflepcoacGreat
