/-
  Parts of the proof, merged: what the functions do, and plain laws.
-/
import Derived.BigQuiet
import Derived.Carry
import Derived.ChangeSame
import Derived.Deep.DeepCutAuto
import Derived.Deep.Fields
import Derived.Deep.MidRow
import Derived.Deep.QuietTactic
import Derived.Deep.Slices
import Derived.Laws.CopyRow
import Derived.Lib.Hide
import Derived.Lib.SmallJoins
import Derived.OpenShut
import Derived.Outline
import Derived.ProofKit
import Derived.Test.YtjifdalflepcoacGreatProg
import Derived.WalkKit
import Derived.WalkLawsBesides
import Derived.WalkSpells
set_option maxHeartbeats 16000000
set_option maxRecDepth 100000
set_option linter.unusedVariables false
set_option linter.unusedSimpArgs false
namespace Go.Proofs.YtjifdalflepcoacGreat
section
open Go.RowKit
theorem Lz.{u} {α:Type u} {a:α} {l:List α}:(a::l)[0]?=some a:=List.getElem?_cons_zero
theorem aC.{u} {α:Type u} {a:α} {i:Nat} {l:List α}:(a::l)[i+1]?=l[i]?:=List.getElem?_cons_succ
theorem Ld.{u} {α:Type u} {l:List α} {i:Nat} {a:α}:l.getD i a=l[i]?.getD a:=List.getD_eq_getElem?_getD
theorem Le.{u} {α:Type u} {l:List α} {i:Nat} (h:i<l.length):l[i]?=some l[i]:=List.getElem?_eq_getElem h
theorem Hz {p:Prop} (h:p):Hid p:=Lib.hid h
theorem int_eq {k:IntKind} {a b:Int} (h:a=b):Value.int k a=Value.int k b:=by rw [h]
theorem AR {a b:Value} (h:a=b):Ending.returned a=Ending.returned b:=by rw [h]
theorem cM {k:IntKind} {a b:Int} (h:a=b):Ending.returned (.int k a)=Ending.returned (.int k b):=by rw [h]
theorem db {a b:Bool} (h:a=b):Ending.returned (.bool a)=Ending.returned (.bool b):=by rw [h]
def aj (w:World) (b:Nat) (c:List Value) (T:TypeId):Prop:=w.heap[b]? = some (.cells c.toArray T (0,0))
theorem aj.lt {w:World} {b:Nat} {c:List Value} {T:TypeId} (h:aj w b c T):b<w.heap.size:=lt_of_block h
theorem aj.cell {w:World} {b:Nat} {c:List Value} {T:TypeId} (h:aj w b c T) (i:Nat):w.cell? ⟨b,i,none⟩=c[i]? := by
 unfold aj at h;simp [World.cell?,h]
theorem aj.free {w:World} {b:Nat} {c:List Value} {T:TypeId} (h:aj w b c T) (i:Nat):w.frozen? ⟨b,i,none⟩=false:=by
 unfold aj at h;simp [World.frozen?,h]
theorem aj.ne {w:World} {a b:Nat} {c d:List Value} {T U:TypeId} (h:aj w a c T) (k:aj w b d U) (hTU:T≠U):a≠b:=by
 rintro rfl;unfold aj at h k;rw [h] at k;simp at k;exact hTU k.2
theorem aj.aG {w:World} {b:Nat} {c:List Value} {T:TypeId} (h:aj w b c T) (i:Nat) (v:Value):aj (w.setCell ⟨b,i,none⟩ v) b (c.set i v) T:=by
 unfold aj at *;simp [World.setCell,Array.getElem?_modify,h]
theorem aj.dO {w:World} {b:Nat} {c:List Value} {T:TypeId} (h:aj w b c T) {a:Addr} (hn:b≠a.block) (v:Value):aj (w.setCell a v) b c T:=by
 unfold aj at *;rw [Below.heap_setCell _ _ _ _ hn];exact h
theorem aj.alloc {w:World} {b:Nat} {c:List Value} {T:TypeId} (h:aj w b c T) (o:Obj):aj (w.alloc o) b c T:=by
 have:=h.lt;unfold aj at *;rw [Below.heap_alloc _ _ _ this];exact h
theorem aj.drew {w:World} {b:Nat} {c:List Value} {T:TypeId} (h:aj w b c T):aj w.drew b c T:=h
theorem aj.new (w:World) (c:List Value) (T:TypeId):aj (w.alloc (.cells c.toArray T)) w.heap.size c T:=by
 unfold aj
 show (w.heap.push _)[w.heap.size]? = _
 simp
theorem aj.newAt {w:World} {b:Nat} {c:List Value} {T:TypeId} (a:Array Value) (hb:b=w.heap.size) (hc:a.toList=c):aj (w.alloc (.cells a T)) b c T:=by
 subst hb;subst hc;simpa using aj.new w a.toList T
structure aa (S:Nat→Prop) (w w':World):Prop where
 os:w'.os=w.os
 tape:w'.tape=w.tape
 output:w'.output=w.output
 size:w.heap.size≤w'.heap.size
 block:∀ k,k<w.heap.size→¬ S k→w'.heap[k]? = w.heap[k]?
theorem aa.refl (S:Nat→Prop) (w:World):aa S w w:=⟨rfl,rfl,rfl,Nat.le_refl _,fun _ _ _=>rfl⟩
theorem Kz (w:World):aa (fun _=>False) w w:=aa.refl _ w
theorem aa.trans {S:Nat→Prop} {a b c:World} (h:aa S a b) (k:aa S b c):aa S a c:=
 ⟨k.os.trans h.os,k.tape.trans h.tape,k.output.trans h.output,Nat.le_trans h.size k.size,
  fun i hi hn=>(k.block i (Nat.lt_of_lt_of_le hi h.size) hn).trans (h.block i hi hn)⟩
theorem aa.mono {S T:Nat→Prop} {w w':World} (h:aa S w w') (hST:∀ k,k<w.heap.size→S k→T k):aa T w w':=
 ⟨h.os,h.tape,h.output,h.size,fun i hi hn=>h.block i hi (fun hs=>hn (hST i hi hs))⟩
theorem aa.aq {S:Nat→Prop} {w w':World} (h:aa S w w') {b:Nat} {c:List Value} {T:TypeId} (k:aj w b c T) (hn:¬ S b):aj w' b c T:=by
 have:=h.block b k.lt hn;unfold aj at *;rw [this];exact k
theorem aa.drew {S:Nat→Prop} {w w':World} (h:aa S w w'):aa S w w'.drew:=⟨h.os,h.tape,h.output,h.size,h.block⟩
theorem aa.alloc {S:Nat→Prop} {w w':World} (h:aa S w w') (o:Obj):aa S w (w'.alloc o):=
 h.trans ⟨rfl,rfl,rfl,by simp,fun k hk _=>Below.heap_alloc _ _ _ hk⟩
theorem aa.setCell {S:Nat→Prop} {w w':World} (h:aa S w w') {p:Addr} (hp:S p.block∨w.heap.size≤p.block) (u:Value):aa S w (w'.setCell p u):=by
 refine ⟨h.os,h.tape,h.output,by simpa using h.size,fun k hk hn=>?_⟩;rw [Below.heap_setCell _ _ _ _ (by rintro rfl;rcases hp with hp | hp;exact hn hp;omega)];exact h.block k hk hn
theorem aa.below {S:Nat→Prop} {w w':World} (h:aa S w w') (hS:∀ k,k<w.heap.size→¬ S k):Below w.heap.size w w':=
 ⟨h.os,h.tape,h.output,h.size,fun k hk=>h.block k hk (hS k hk)⟩
theorem aa.from {S:Nat→Prop} {w₀ w w':World} (h₀:aa S w₀ w) (h:aa (fun k=>S k∨w₀.heap.size≤k) w w'):aa S w₀ w':=
 ⟨h.os.trans h₀.os,h.tape.trans h₀.tape,h.output.trans h₀.output,Nat.le_trans h₀.size h.size,
  fun i hi hn=>(h.block i (Nat.lt_of_lt_of_le hi h₀.size) (by rintro (hs | hs);exact hn hs;omega)).trans (h₀.block i hi hn)⟩
theorem aa.then {S T:Nat→Prop} {w₀ w w':World} (h₀:aa S w₀ w) (h:aa T w w') (hT:∀ k,T k→S k∨w₀.heap.size≤k):aa S w₀ w':=
 h₀.from (h.mono fun k _ hk=>hT k hk)
end
section
open Go.RowKit
theorem aj.setRow {w:World} {b:Nat} {c:List Value} {T:TypeId} (h:aj w b c T) (d:List Value):aj (w.setRow b d.toArray) b d T:=
 setRow_heap w b _ _ T _ h
theorem ki (w:World) (g k:Nat) (cs:Array Value) (h:k≠g):(w.setRow g cs).heap[k]? = w.heap[k]? := by
 unfold World.setRow;simp only [Array.getElem?_modify];rw [if_neg (fun e=>h e.symm)]
theorem size_setRow (w:World) (g:Nat) (cs:Array Value):(w.setRow g cs).heap.size=w.heap.size:=by simp [World.setRow]
theorem aj.lU {w:World} {b:Nat} {c:List Value} {T:TypeId} (h:aj w b c T) {g:Nat} (hn:b≠g) (cs:Array Value):aj (w.setRow g cs) b c T:=by
 unfold aj at *;rw [ki _ _ _ _ hn];exact h
theorem aa.setRow {S:Nat→Prop} {w w':World} (h:aa S w w') {g:Nat} (hp:S g∨w.heap.size≤g) (cs:Array Value):aa S w (w'.setRow g cs):=by
 refine ⟨h.os,h.tape,h.output,by rw [size_setRow];exact h.size,fun k hk hn=>?_⟩;rw [ki _ _ _ _ (by rintro rfl;rcases hp with hp | hp;exact hn hp;omega)];exact h.block k hk hn
theorem sj (z:Value) (hz:z.cells=#[z]) (n:Nat):madeCells z.cells n=(List.replicate n z).toArray:=by
 rw [hz];apply Array.ext
 ·simp [size_madeCells]
 ·intro i h1 h2;simp [madeCells,Nat.mod_one]
theorem ss (z:Value) (hz:z.cells=#[z]) (n:Nat):Builtin.zeroCells z.cells n=(List.replicate n z).toArray:=by
 rw [hz];apply Array.ext
 ·simp [Builtin.zeroCells]
 ·intro i h1 h2;simp [Builtin.zeroCells,Nat.mod_one]
theorem dP {P:Program} (w:World) (t e:TypeId) (i:TypeInfo) (z:Value) (ht:P.underlying t=some (.slice e)) (hi:P.info? e=some i) (hz:i.zero=some z) (hc:z.cells=#[z]) (hs:i.size=1)
  (n:Nat) (hbytes:i.bytes*n≤281474976710656) (h63:n≤9223372036854775807) :
  (Instr.makeSlice t (.int .i64 n) (.int .i64 n)).run P w=.ok (.slice (some ⟨w.heap.size,0,none⟩) n n) (w.alloc (.cells (List.replicate n z).toArray e)):=by
 have hb':(i.bytes:Int)*(n:Int)≤281474976710656:=by
  have h:((i.bytes*n:Nat):Int)≤281474976710656:=by omega
  rwa [Int.natCast_mul] at h
 rw [run_make (P:=P) w t e i z ht hi hz .i64 .i64 n n (by omega) (Int.le_refl _) hb' (by omega)];simp only [Int.toNat_natCast,hs,Nat.mul_one];rw [sj z hc]
theorem su {P:Program} (w:World) (t ty e:TypeId) (z:Value) (ht:P.underlying t=some (.slice e)) (hz:∀ w,(zeroValue e).run P w=.ok z w) (hc:z.cells=#[z]) (h1:z.oneCell'=true)
  (g n cap:Nat) (c:List Value) (hg:aj w g c e) (hn:c.length=n) :
  (Builtin.clear_ #[t] ty #[.slice (some ⟨g,0,none⟩) n cap]).run P w=.ok (.tuple #[]) (w.setRow g (List.replicate n z).toArray):=by
 subst hn;cases c with
 | nil=>
  have:w.setRow g (List.replicate 0 z).toArray=w:=by
   have:=setRow_self w g _ e (0,0) hg;simpa using this
  simp only [List.length_nil];rw [this];simp [Builtin.clear_,run_underlying ht]
 | cons a l=>
  have hst:=run_storeCells_at P g 0 e (List.replicate (l.length+1) z) 0 (a :: l).toArray w hg (by simp) (by intro v hv;rw [(List.mem_replicate.1 hv).2];exact h1);simp only [Nat.add_zero,List.take_zero,List.nil_append,Nat.zero_add,List.length_replicate] at hst;simp only [List.length_cons];have hd:List.drop (l.length+1) (a :: l)=[]:=by simp
  simp only [List.toList_toArray,hd,List.append_nil] at hst;simp [Builtin.clear_,run_underlying ht,hz,ss z hc,hst]
def Rd (w:World) (ao:Option Addr) (xs:List Value):Prop:=
 xs≠[]→∃ g o,ao=some ⟨g,o,none⟩∧g<w.heap.size∧∀ j,j<xs.length→w.cell? ⟨g,o+j,none⟩=xs[j]?
theorem Rd.nil (w:World) (ao:Option Addr):Rd w ao []:=fun h=>(h rfl).elim
theorem Rd.ab {w w':World} {ao:Option Addr} {xs:List Value} {S:Nat→Prop} (h:Rd w ao xs) (k:aa S w w') (hn:∀ a,ao=some a→a.block<w.heap.size→¬ S a.block):Rd w' ao xs:=by
 intro hx;obtain ⟨g,o,rfl,hg,hc⟩:=h hx;refine ⟨g,o,rfl,Nat.lt_of_lt_of_le hg k.size,fun j hj=>?_⟩;rw [←hc j hj];exact World.cell?_of_block (w:=w) (a:=⟨g,o+j,none⟩) (k.block g hg (hn _ rfl hg))
theorem Rd.aq {w:World} {g:Nat} {c:List Value} {T:TypeId} (h:aj w g c T) (o:Nat) (xs:List Value) (hx:(c.drop o).take xs.length=xs):Rd w (some ⟨g,o,none⟩) xs:=by
 intro _;refine ⟨g,o,rfl,h.lt,fun j hj=>?_⟩;rw [h.cell];have:((c.drop o).take xs.length)[j]? = xs[j]? := by rw [hx]
 rw [←this,List.getElem?_take,if_pos hj,List.getElem?_drop]
theorem Rd.int {w:World} {ao:Option Addr} {k:IntKind} {l:List Int} (h:Rd w ao (l.map (Value.int k))) (i:Nat) (hi:i<l.length) :
  ∃ g o,ao=some ⟨g,o,none⟩∧w.cell? ⟨g,o+i,none⟩=some (.int k (l.getD i 0)):=by
 obtain ⟨g,o,rfl,_,hc⟩:=h (by intro e;simp at e;subst e;simp at hi);refine ⟨g,o,rfl,?_⟩;rw [hc i (by simpa using hi)];simp [List.getD,hi]
def ak (v:Value) (k:Nat):Prop:=v.ownBlock=some k
def Sl (w:World) (e size:Nat) (v:Value) (n:Nat) (xs:List Value):Prop:=
 xs.length=n*size∧((v=.slice none 0 0∧n=0) ∨
  ∃ g o cap cur,v=.slice (some ⟨g,o,none⟩) n cap∧aj w g cur e∧n≤cap∧cap≤maxLen∧o+cap*size≤cur.length∧(cur.drop o).take (n*size)=xs)
theorem Sl.nil (w:World) (e size:Nat):Sl w e size (.slice none 0 0) 0 []:=⟨by simp, .inl ⟨rfl,rfl⟩⟩
theorem Sl.own {w:World} {e size:Nat} {v:Value} {n:Nat} {xs:List Value} (h:Sl w e size v n xs) {k:Nat} (hk:ak v k):k<w.heap.size∧∃ cur,aj w k cur e:=by
 obtain ⟨_,⟨rfl,_⟩ | ⟨g,o,cap,cur,rfl,hb,_⟩⟩:=h
 ·simp [ak,Value.ownBlock] at hk
 ·simp [ak,Value.ownBlock] at hk;subst hk;exact ⟨hb.lt,_,hb⟩
theorem Sl.ab {w w':World} {e size:Nat} {v:Value} {n:Nat} {xs:List Value} {S:Nat→Prop} (h:Sl w e size v n xs) (k:aa S w w') (hn:∀ g,ak v g→¬ S g):Sl w' e size v n xs:=by
 refine ⟨h.1,?_⟩;rcases h.2 with h | ⟨g,o,cap,cur,rfl,hb,r⟩
 ·exact .inl h
 ·exact .inr ⟨g,o,cap,cur,rfl,k.aq hb (hn g rfl),r⟩
theorem Sl.rd {w:World} {e size:Nat} {v:Value} {n:Nat} {xs:List Value} (h:Sl w e size v n xs):∃ ao cap,v=.slice ao n cap∧Rd w ao xs∧n≤maxLen∧n≤cap:=by
 obtain ⟨hl,⟨rfl,rfl⟩ | ⟨g,o,cap,cur,rfl,hb,h1,h2,h3,h4⟩⟩:=h
 ·refine ⟨none,0,rfl,?_,Nat.zero_le _,Nat.le_refl _⟩;have:xs=[]:=by simpa using hl
  subst this;exact Rd.nil _ _
 ·exact ⟨_,cap,rfl,Rd.aq hb o xs (by rw [hl];exact h4),Nat.le_trans h1 h2,h1⟩
theorem Sl.len {w:World} {e size:Nat} {v:Value} {n:Nat} {xs:List Value} (h:Sl w e size v n xs):xs.length=n*size:=h.1
theorem eY (g o j:Nat):(⟨g,o,none⟩:Addr).add j=⟨g,o+j,none⟩:=by unfold Addr.add;split <;> simp_all
theorem rh {P:Program} (w:World) (t ty e:TypeId) (i:TypeInfo) (z:Value) (size bytes:Nat) (ht:P.underlying t=some (.slice e)) (hi:P.info? e=some i) (hz:i.zero=some z)
  (hsize:i.size=size) (hby:i.bytes=bytes) (hzs:z.cells.size=size) (hsz:0<size)
  (v:Value) (n:Nat) (xs:List Value) (hs:Sl w e size v n xs)
  (a:Addr) (m c:Nat) (news:List Value) (hl:news.length=m*size) (hnews:∀ j u,news[j]? = some u→w.cell? (a.add j)=some u) (h1:∀ u ∈ news,u.oneCell'=true)
  (h63:n+m≤maxLen) (hbytes:(n+m)*bytes≤140737488355328) :
  ∃ v' w',(Builtin.append_ #[t,t] ty #[v, .slice (some a) m c]).run P w=.ok v' w'∧Sl w' e size v' (n+m) (xs ++ news)∧aa (ak v) w w'∧(∀ k,ak v' k→ak v k∨w.heap.size≤k):=by
 subst hsize;subst hby
 obtain ⟨hxl,hv⟩:=hs;have hlen:(xs ++ news).length=(n+m)*i.size:=by rw [List.length_append,hxl,hl,Nat.add_mul]
 have h63':n+m≤9223372036854775807:=by simpa [maxLen] using h63
 have grown:∀ (aI:Nat) (S:Nat→Prop),
   Sl (w.drew.alloc (.cells (xs.toArray ++ news.toArray ++ Builtin.zeroCells z.cells (grownCap w (n+m) aI e-(n+m))) e)) e i.size (.slice (some ⟨w.heap.size,0,none⟩) (n+m) (grownCap w (n+m) aI e)) (n+m) (xs ++ news) ∧
   aa S w (w.drew.alloc (.cells (xs.toArray ++ news.toArray ++ Builtin.zeroCells z.cells (grownCap w (n+m) aI e-(n+m))) e)):=by
  intro aI S;have hge:=grownCap_ge w (n+m) aI e;have hcm:grownCap w (n+m) aI e≤maxLen:=grownCap_le_maxLen w (n+m) aI e h63;refine ⟨⟨hlen, .inr ⟨w.heap.size,0,_,_,rfl,aj.newAt _ rfl rfl,hge,hcm,?_,?_⟩⟩,((aa.refl _ _).drew).alloc _⟩
  ·simp only [Array.length_toList,Array.size_append,List.size_toArray,size_zeroCells,hzs,hxl,hl,←Nat.add_mul,Nat.zero_add];apply Nat.mul_le_mul_right;omega
  ·simp only [Array.toList_append,List.append_assoc,List.drop_zero];rw [←List.append_assoc,←hlen];exact List.take_left
 rcases hv with ⟨rfl,rfl⟩ | ⟨g,o,cap,cur,rfl,hb,hnc,hcm,hoc,hx⟩
 ·have hx:xs=[]:=List.eq_nil_of_length_eq_zero (by simpa using hxl);subst hx;by_cases hm:m=0
  ·subst hm;have hn:news=[]:=List.eq_nil_of_length_eq_zero (by simpa using hl);subst hn;refine ⟨.slice none 0 0,w,?_,Sl.nil _ _ _,aa.refl _ _,fun k hk=>.inl hk⟩;simp [Builtin.append_,run_underlying ht,sizeOf,typeInfo,hi,Builtin.lenOf,Builtin.firstCells,loadCells,loadCellsFrom]
  ·have hr:=run_append_nil (P:=P) w t ty e i z ht hi hz a m c news hl hnews (by omega) (by omega) (by have hb:=hbytes;simp only [Nat.zero_add] at hb;omega);have hgr:=grown 0 (ak (.slice none 0 0));simp only [Nat.zero_add,List.nil_append,Array.empty_append] at hgr ⊢;refine ⟨_,_,hr,hgr.1,hgr.2,fun k hk=>.inr ?_⟩;simp [ak,Value.ownBlock] at hk;omega
 ·by_cases hr:n+m≤cap
  ·have hf:=run_firstCells_some (P:=P) w i.size m a m c news hl hnews;have hfit:o+n*i.size+news.length≤cur.length:=by
    have:(n+m)*i.size≤cap*i.size:=Nat.mul_le_mul_right _ hr;rw [Nat.add_mul] at this;omega
   have hst:=run_storeCells_at P g (o+n*i.size) e news 0 cur.toArray w hb (by simpa using hfit) h1;simp only [Nat.add_zero] at hst;refine ⟨.slice (some ⟨g,o,none⟩) (n+m) cap,w.setRow g (cur.take (o+n*i.size) ++ news ++ cur.drop (o+n*i.size+news.length)).toArray,?_,?_,?_,?_⟩
   ·simp [Builtin.append_,run_underlying ht,sizeOf,typeInfo,hi,Builtin.lenOf,hr,hf,eY,hst]
   ·refine ⟨hlen, .inr ⟨g,o,cap,_,rfl,aj.setRow hb _,hr,hcm,?_,?_⟩⟩
    ·simp;omega
    ·have h1:(cur.take (o+n*i.size) ++ news ++ cur.drop (o+n*i.size+news.length)).drop o=(cur.drop o).take (n*i.size) ++ news ++ cur.drop (o+n*i.size+news.length):=by
      rw [List.append_assoc,List.drop_append_of_le_length (by simp;omega),List.drop_take,←List.append_assoc];congr 3;omega
     rw [h1,hx,←hlen,List.take_append_of_le_length (by simp),List.take_length]
   ·exact (aa.refl (ak (.slice (some ⟨g,o,none⟩) n cap)) w).setRow (g:=g) (.inl rfl) _
   ·intro k hk;exact .inl hk
  ·have holds:∀ j u,xs[j]? = some u→w.cell? ((⟨g,o,none⟩:Addr).add j)=some u:=by
    intro j u hu;have:=(List.getElem?_eq_some_iff.1 hu).1;rw [eY,hb.cell,←hu,←hx,List.getElem?_take,List.getElem?_drop,if_pos (by omega)]
   have hr:=run_append_grow (P:=P) w t ty e i z ht hi hz ⟨g,o,none⟩ n cap xs hxl holds a m c news hl hnews (by omega) (by omega) (growslice_fits (by omega) hbytes);have hgr:=grown cap (ak (.slice (some ⟨g,o,none⟩) n cap));refine ⟨_,_,hr,hgr.1,hgr.2,fun k hk=>.inr ?_⟩;simp [ak,Value.ownBlock] at hk;omega
theorem da {P:Program} {w:World} {ops:Array Oper} {rest:List Oper} {o:Oper} {a:Act} {Q:Exit→Act→World→Prop} (hgd:o.guard=none) (s x:Operand) (t:TypeId)
  (ho:o.op=.call { callee:=.builtin .append,args:=#[s,x],argTypes:=#[t,t] })
  (e:TypeId) (i:TypeInfo) (z:Value) (size bytes:Nat) (ht:P.underlying t=some (.slice e)) (hi:P.info? e=some i) (hz:i.zero=some z)
  (hsize:i.size=size) (hby:i.bytes=bytes) (hzs:z.cells.size=size) (hsz:0<size)
  (v:Value) (n:Nat) (xs:List Value) (hs:a.eval s=v) (hown:Sl w e size v n xs)
  (ad:Addr) (m c:Nat) (news:List Value) (hx:a.eval x=.slice (some ad) m c) (hl:news.length=m*size) (hnews:∀ j u,news[j]? = some u→w.cell? (ad.add j)=some u) (h1:∀ u ∈ news,u.oneCell'=true)
  (h63:n+m≤maxLen) (hbytes:(n+m)*bytes≤140737488355328)
  (h:∀ v' w',Sl w' e size v' (n+m) (xs ++ news)→aa (ak v) w w'→(∀ k,ak v' k→ak v k∨w.heap.size≤k)→wpList P ops Q rest (a.put o.dst v') w'):wpList P ops Q (o :: rest) a w:=by
 refine wpList_plain hgd fun _ hK=>?_;obtain ⟨v',w',hr,h2,h3,h4⟩:=rh (P:=P) w t o.type e i z size bytes ht hi hz hsize hby hzs hsz v n xs hown ad m c news hl hnews h1 h63 hbytes;unfold Oper.wp execOp;simp only [ho,resolve,invoke,builtin,Sem.run_bind,Sem.run_pure,Result.andThen_ok,List.map_toArray,List.map_cons,List.map_nil,hs,hx,hr];exact hK _ _ (h v' w' h2 h3 h4)
theorem bX (w:World) (T:TypeId) (a:Array Value):∀ (j:Nat) (u:Value),a.toList[j]? = some u→(w.alloc (.cells a T)).cell? ((⟨w.heap.size,0,none⟩:Addr).add j)=some u:=by
 intro j u h;rw [eY,(aj.newAt (w:=w) (T:=T) a rfl rfl).cell,Nat.zero_add];exact h
theorem sF {P:Program} (w:World) (t ty e:TypeId) (i:TypeInfo) (size:Nat) (ht:P.underlying t=some (.slice e)) (hi:P.info? e=some i) (hsize:i.size=size)
  (g o n cap:Nat) (cur:List Value) (hb:aj w g cur e) (a:Addr) (m c:Nat) (news:List Value) (hl:news.length=m*size) (hnews:∀ j u,news[j]? = some u→w.cell? (a.add j)=some u) (h1:∀ u ∈ news,u.oneCell'=true)
  (hr:n+m≤cap) (hoc:o+cap*size≤cur.length) :
  (Builtin.append_ #[t,t] ty #[.slice (some ⟨g,o,none⟩) n cap, .slice (some a) m c]).run P w=.ok (.slice (some ⟨g,o,none⟩) (n+m) cap) (w.setRow g (cur.take (o+n*size) ++ news ++ cur.drop (o+n*size+news.length)).toArray):=by
 subst hsize;have hf:=run_firstCells_some (P:=P) w i.size m a m c news hl hnews;have hfit:o+n*i.size+news.length≤cur.length:=by
  have:(n+m)*i.size≤cap*i.size:=Nat.mul_le_mul_right _ hr;rw [Nat.add_mul] at this;omega
 have hst:=run_storeCells_at P g (o+n*i.size) e news 0 cur.toArray w hb (by simpa using hfit) h1;simp only [Nat.add_zero] at hst;simp [Builtin.append_,run_underlying ht,sizeOf,typeInfo,hi,Builtin.lenOf,hr,hf,eY,hst]
theorem kQ {P:Program} (w:World) (t ty e:TypeId) (z:Value) (ht:P.underlying t=some (.slice e)) (hz:∀ w,(zeroValue e).run P w=.ok z w) (h1:∀ u ∈ z.cells,u.oneCell'=true) (hpos:0<z.cells.size)
  (g o n cap:Nat) (cur:List Value) (hb:aj w g cur e) (hfit:o+n*z.cells.size≤cur.length) :
  ∃ zs:List Value,zs.length=n*z.cells.size∧(Builtin.clear_ #[t] ty #[.slice (some ⟨g,o,none⟩) n cap]).run P w=.ok (.tuple #[]) (w.setRow g (cur.take o ++ zs ++ cur.drop (o+zs.length)).toArray):=by
 refine ⟨(Builtin.zeroCells z.cells n).toList,by simp [size_zeroCells],?_⟩;cases n with
 | zero=>
  have hz0:(Builtin.zeroCells z.cells 0).toList=[]:=by simp [Builtin.zeroCells]
  have:w.setRow g (cur.take o ++ [] ++ cur.drop (o+0)).toArray=w:=by
   have:=setRow_self w g _ e (0,0) hb;simpa using this
  rw [hz0];simp only [List.length_nil];rw [this];simp [Builtin.clear_,run_underlying ht]
 | succ n=>
  have hlen:(Builtin.zeroCells z.cells (n+1)).toList.length=(n+1)*z.cells.size:=by simp [size_zeroCells]
  have hst:=run_storeCells_at P g o e (Builtin.zeroCells z.cells (n+1)).toList 0 cur.toArray w hb (by simp only [Nat.add_zero,hlen,List.size_toArray];exact hfit) (by
   intro v hv;simp only [Builtin.zeroCells,Array.toList_map,List.mem_map] at hv;obtain ⟨i,_,rfl⟩:=hv;apply h1;have hm:i%z.cells.size<z.cells.size:=Nat.mod_lt _ hpos;rw [getElem!_pos z.cells _ hm]
   exact Array.getElem_mem hm)
  simp only [Nat.add_zero] at hst;simp [Builtin.clear_,run_underlying ht,hz,hst]
end
section
open Go.RowKit Go.ChangeShapes Go.WideShapes Go.Deep Go.Joins
theorem Rd.x5 {w:World} {a:Addr} {xs:List Value} (h:∀ j u,xs[j]? = some u→w.cell? (a.add j)=some u):Rd w (some a) xs:=by
 intro hx;have hl:0<xs.length:=by cases xs with | nil=>exact (hx rfl).elim | cons _ _=>simp
 obtain ⟨b,off,spot⟩:=a;have h0:=h 0 xs[0] (by simp [hl]);have hspot:spot=none:=by simpa [Addr.add] using World.cell?_spot h0
 subst hspot;refine ⟨b,off,rfl,World.block_lt_of_cell? _ _ h0,fun j hj=>?_⟩;have:=h j xs[j] (by simp [hj]);rw [eY] at this;rw [this];simp [hj]
theorem gd {n:Int} (h:(Lit.int .i64 n).wf=true):-9223372036854775808≤n∧n≤9223372036854775807:=by
 simp [Lit.wf,IntKind.min,IntKind.max,IntKind.bits,IntKind.signed] at h;omega
section
variable {H:Type} {enc:TypeId × Value→H} {P:Program} {w:World} {base:Nat} {spare:Nat→Bool} {held:Bool}
def zk (c:Value):Prop:=∃ n:Int,c=.int .i64 n∧-9223372036854775808≤n∧n≤9223372036854775807
def Flat (enc:TypeId × Value→H) (P:Program) (w:World) (base:Nat) (spare:Nat→Bool) (held:Bool) (e:TypeId):Prop:=
 ∀ fuel cs x,DataW.trod enc P w base spare held fuel e cs=some x→cs.length=P.cellsOf e∧∀ c ∈ cs,zk c
theorem cY {e:TypeId} (he:P.underlying e=some (.int .i64)) (hC:P.cellsOf e=1):Flat enc P w base spare held e:=by
 intro fuel cs x h;obtain ⟨n,rfl,_,hn⟩:=DataW.trod_int he h;refine ⟨by simp [hC],?_⟩;intro c hc;simp at hc;subst hc;exact ⟨n,rfl,gd hn⟩
def AS (P:Program) (e:TypeId) (fs:Array Field):Bool:=
 (List.range (P.cellsOf e)).all fun j=>fs.toList.any fun f=>decide (f.offset≤j) && decide (j<f.offset+P.cellsOf f.type)
theorem lV {e:TypeId} {fs:Array Field} (he:P.underlying e=some (.struct fs)) (hcov:AS P e fs=true)
  (hf:∀ (i:Nat) (f:Field),fs[i]? = some f→Flat enc P w base spare held f.type):Flat enc P w base spare held e:=by
 intro fuel cs x h;obtain ⟨ys,n,_,hy,hlen,hyl,hg⟩:=DataW.trod_struct he h;refine ⟨hlen,?_⟩;intro c hc;obtain ⟨j,hj,rfl⟩:=List.getElem_of_mem hc;have hcj:=List.all_eq_true.1 hcov j (List.mem_range.2 (by omega));obtain ⟨f,hfm,hfj⟩:=List.any_eq_true.1 hcj;simp only [Bool.and_eq_true,decide_eq_true_eq] at hfj;obtain ⟨i,hi,hif⟩:=List.getElem_of_mem hfm;have hfi:fs[i]? = some f:=by
  rw [←Array.getElem?_toList,Le hi,hif]
 have h1:=hg i f hfi;have hys:ys[i]? = some (ys[i]'(by rw [hyl];simpa using hi)):=Le _;rw [hys] at h1;have h2:=(hf i f hfi n _ _ h1).2;refine h2 _ ?_;rw [List.mem_iff_getElem?];refine ⟨j-f.offset,?_⟩;rw [List.getElem?_take,if_pos (by omega),List.getElem?_drop,show f.offset+(j-f.offset)=j by omega];simp [hj]
theorem Cb {t e:TypeId} {k:Nat} (ht:P.underlying t=some (.array k e)) (hC:P.cellsOf t=k*P.cellsOf e) (he:Flat enc P w base spare held e):Flat enc P w base spare held t:=by
 intro fuel cs x h;obtain ⟨ys,n,_,hy,hlen,hyl,hg⟩:=DataW.trod_array ht h;refine ⟨hlen,?_⟩;intro c hc;obtain ⟨j,hj,rfl⟩:=List.getElem_of_mem hc;rw [hlen,hC] at hj;have hpos:0<P.cellsOf e:=by
  apply Nat.pos_of_ne_zero;intro h0;rw [h0] at hj;simp at hj
 have hi:j/P.cellsOf e<k:=Nat.div_lt_of_lt_mul (by rwa [Nat.mul_comm] at hj);have h1:=hg _ hi;have hys:ys[j/P.cellsOf e]? = some (ys[j/P.cellsOf e]'(by omega)):=Le _;rw [hys] at h1;have h2:=(he n _ _ h1).2;refine h2 _ ?_;rw [List.mem_iff_getElem?];refine ⟨j%P.cellsOf e,?_⟩;rw [List.getElem?_take,if_pos (Nat.mod_lt _ hpos),List.getElem?_drop,Nat.mul_comm,Nat.div_add_mod];simp
theorem sG {r:Reach} {b0:Nat} {t e:TypeId} {C:Nat} {v:Value} {d:DataW H} {p:List MemPlace} (ht:P.underlying t=some (.slice e)) (hC:P.cellsOf e=C) (hpos:0<C) (he:Flat enc P w base spare held e)
  (hv:Value.okWide P w r b0 t v) (h:DataW.Trod enc P w base spare held t v d p) :
  ∃ (ao:Option Addr) (cap n:Nat) (xs:List Value),v=.slice ao n cap∧xs.length=n*C∧Rd w ao xs∧n≤maxLen∧∀ c ∈ xs,zk c:=by
 obtain ⟨a0,len0,cap0,rfl⟩:=okWide_slice ht hv;obtain ⟨fuel,hf⟩:=h;rcases open_slice ht hf with ⟨hcs,_⟩ | ⟨a,l,c,m,n,D,Pl,hcs,_,hl,hm,hmm,_,hi⟩
 ·simp [Value.cells] at hcs;obtain ⟨rfl,rfl,rfl⟩:=hcs;exact ⟨none,0,0,[],rfl,by simp,Rd.nil _ _,Nat.zero_le _,by simp⟩
 ·simp [Value.cells] at hcs;obtain ⟨rfl,rfl,rfl⟩:=hcs;have hle:len0≤m:=by rw [hmm];split <;> omega
  have key:∀ j,j<len0*C→∃ u,w.cell? (a.add j)=some u∧zk u:=by
   intro j hj;have hi':j/C<len0:=Nat.div_lt_of_lt_mul (by rwa [Nat.mul_comm] at hj);obtain ⟨cs',h1,h2⟩:=hi (j/C) (by omega);obtain ⟨hlen,hall⟩:=he _ _ _ h2;obtain ⟨_,hcl,hat⟩:=World.cells?_some h1;have hr:j%C<cs'.length:=by rw [hlen,hC];exact Nat.mod_lt _ hpos
   have:=hat (j%C) (by rw [hC];exact Nat.mod_lt _ hpos);rw [Go.Deep.add_add,hC,Nat.mul_comm,Nat.div_add_mod,Le hr] at this;exact ⟨_,this,hall _ (List.getElem_mem hr)⟩
  refine ⟨some a,cap0,len0,(List.range (len0*C)).map fun j=>(w.cell? (a.add j)).getD undef,rfl,by simp,?_,Nat.le_trans hl hm,?_⟩
  ·refine Rd.x5 ?_;intro j u hu;simp only [List.getElem?_map,Option.map_eq_some_iff] at hu;obtain ⟨j',hj',rfl⟩:=hu;have hjl:=(List.getElem?_eq_some_iff.1 hj').1;have:j=j':=by
    rw [Le hjl] at hj';simpa using hj'
   subst this;obtain ⟨u,hu,_⟩:=key j (by simpa using hjl);rw [hu];rfl
  ·intro c hc;simp only [List.mem_map,List.mem_range] at hc;obtain ⟨j,hj,rfl⟩:=hc;obtain ⟨u,hu,h64⟩:=key j hj;rw [hu];exact h64
theorem mA:∀ {xs:List Value},(∀ c ∈ xs,zk c)→∃ l:List Int,xs=l.map (Value.int .i64)∧∀ x ∈ l,-9223372036854775808≤x∧x≤9223372036854775807
 | [],_=>⟨[],rfl,by simp⟩
 | c :: xs,h=>by
  obtain ⟨n,rfl,hn⟩:=h c (by simp);obtain ⟨l,rfl,hl⟩:=mA (xs:=xs) (fun c hc=>h c (List.mem_cons_of_mem _ hc));exact ⟨n :: l,rfl,by intro x hx;rcases List.mem_cons.1 hx with rfl | hx;exact hn;exact hl x hx⟩
theorem CC {r:Reach} {b0:Nat} {t e:TypeId} {v:Value} {d:DataW H} {p:List MemPlace} (ht:P.underlying t=some (.slice e)) (he:P.underlying e=some (.int .i64)) (hC:P.cellsOf e=1)
  (hv:Value.okWide P w r b0 t v) (h:DataW.Trod enc P w base spare held t v d p) :
  ∃ (ao:Option Addr) (cap:Nat) (l:List Int),v=.slice ao l.length cap∧Rd w ao (l.map (Value.int .i64))∧l.length≤maxLen∧∀ x ∈ l,-9223372036854775808≤x∧x≤9223372036854775807:=by
 obtain ⟨ao,cap,n,xs,rfl,hl,hr,hm,h64⟩:=sG ht hC (by omega) (cY he hC) hv h;obtain ⟨l,rfl,hb⟩:=mA h64;simp at hl;subst hl;exact ⟨ao,cap,l,rfl,hr,hm,hb⟩
theorem CD {r:Reach} {b0:Nat} {t:TypeId} {f0 f1:Field} {v:Value} {d:DataW H} {p:List MemPlace} (hs:P.underlying t=some (.struct #[f0,f1])) (hone:oneCellFields P #[f0,f1]=true) (hC:P.cellsOf t=2)
  (h0:P.underlying f0.type=some (.int .i64)) (h1:P.underlying f1.type=some (.int .i64))
  (hv:Value.okWide P w r b0 t v) (h:DataW.Trod enc P w base spare held t v d p) :
  ∃ a:Int × Int,v=.agg #[.int .i64 a.1, .int .i64 a.2]∧(-9223372036854775808≤a.1∧a.1≤9223372036854775807)∧-9223372036854775808≤a.2∧a.2≤9223372036854775807:=by
 obtain ⟨c0,c1,y0,y1,m,rfl,_,_,hy0,hy1⟩:=open_agg2 hs hone hC hv h;obtain ⟨a,ea,_,wa⟩:=DataW.trod_int h0 hy0;obtain ⟨b,eb,_,wb⟩:=DataW.trod_int h1 hy1;simp at ea eb;subst ea;subst eb;exact ⟨(a,b),rfl,gd wa,gd wb⟩
end
end
section
open Go.RowKit Go.ChangeShapes Go.WideShapes Go.ChangeAt Go.Joins
section
variable {H:Type} {enc:TypeId × Value→H} {P:Program} {w:World} {base:Nat} {spare:Nat→Bool} {held:Bool}
theorem sH {r:Reach} {b0:Nat} {t e:TypeId} {C:Nat} {v:Value} {d:DataW H} {p:List MemPlace} (ht:P.underlying t=some (.slice e)) (hC:P.cellsOf e=C) (hpos:0<C) (he:Flat enc P w base spare held e)
  (hv:Value.okWide P w r b0 t v) (h:DataW.Trod enc P w base spare held t v d p) :
  ∃ (ao:Option Addr) (cap m:Nat) (l:List Int),v=.slice ao m cap∧Rd w ao (l.map (Value.int .i64))∧l.length=m*C∧m≤maxLen∧∀ x ∈ l,-9223372036854775808≤x∧x≤9223372036854775807:=by
 obtain ⟨ao,cap,n,xs,rfl,hl,hr,hm,h64⟩:=sG ht hC hpos he hv h;obtain ⟨l,rfl,hb⟩:=mA h64;exact ⟨ao,cap,n,l,rfl,hr,by simpa using hl,hm,hb⟩
theorem CF {r:Reach} {b n c:Nat} {t e:TypeId} {a:Addr} (ht:P.underlying t=some (.slice e)) (hv:Value.okWide P w r b t (.slice (some a) n c)):a.block<w.heap.size:=by
 simp only [Value.okWide,ht,Cell.okWide,Cell.ok] at hv;obtain ⟨_,_,_,_,row,cells,hs,_⟩:=hv;unfold World.shape? at hs;cases hb:w.heap[a.block]? with
 | none=>rw [hb] at hs;simp at hs
 | some o=>exact (Array.getElem?_eq_some_iff.1 hb).1
end
end
section
open Go.RowKit
section
variable {P:Program} {ops:Array Oper} {md:Region.Mode} {G:World→Prop}
def gUpon (P:Program) (o:Oper) (a:Act) (K:Act→World→Prop):Result Next→Prop
 | .ok (.value v) w'=>K (a.put o.dst v) w'
 | .ok .skip w'=>K (a.put o.dst undef) w'
 | .ok (.enter f args) w'=>Calls P f args w' fun
   | .returned v,w''=>K (a.put o.dst v) w''
   | _,_=>False
 | _=>False
def aw (P:Program) (o:Oper) (a:Act) (w:World) (K:Act→World→Prop):Prop:=gUpon P o a K ((execOp a.eval o).run P w)
def gOp (P:Program) (ops:Array Oper) (i:Nat) (K:Act→World→Prop) (a:Act) (w:World):Prop:=
 match ops[i]? with
 | none=>K a w
 | some o=>if Region.wanted o (yielded ops a.tmps)=true then aw P o a w K else K (a.put o.dst undef) w
theorem wJ {o:Oper} {a:Act} {w:World} {K K':Act→World→Prop} (h:∀ a w,K a w→K' a w) (hh:aw P o a w K):aw P o a w K':=by
 unfold aw at *;generalize (execOp a.eval o).run P w=r at *;cases r with
 | ok n w'=>
  cases n <;> simp only [gUpon] at hh ⊢
  case value u=>exact h _ _ hh
  case skip=>exact h _ _ hh
  case enter f args=>exact hh.mono fun e w'' hq=>by cases e <;> first | exact h _ _ hq | exact hq
 | halt x w'=>exact hh
theorem eI {i:Nat} {a:Act} {w:World} {K K':Act→World→Prop} (h:∀ a w,K a w→K' a w) (hh:gOp P ops i K a w):gOp P ops i K' a w:=by
 unfold gOp at *;split
 ·rename_i ho;simp only [ho] at hh;exact h _ _ hh
 ·rename_i o ho;simp only [ho] at hh;split
  ·rename_i hw;rw [if_pos hw] at hh;exact wJ h hh
  ·rename_i hw;rw [if_neg hw] at hh;exact h _ _ hh
theorem oR {i:Nat} {a:Act} {w:World} {K:Act→World→Prop} {Q':Exit→Act→World→Prop} (hh:gOp P ops i K a w):wpOp P ops Q' i K a w:=by
 unfold gOp at hh;unfold wpOp;split
 ·rename_i ho;simp only [ho] at hh;exact hh
 ·rename_i o ho;simp only [ho] at hh;split
  ·rename_i hw;rw [if_pos hw] at hh;left;unfold aw at hh;unfold Oper.wp;generalize (execOp a.eval o).run P w=r at *;cases r with
   | ok n w'=>
    cases n <;> simp only [gUpon] at hh <;> simp only [Oper.upon]
    case value u=>exact hh
    case skip=>exact hh
    case enter f args=>exact hh.mono fun e w'' hq=>by cases e <;> first | exact hq | exact hq.elim
   | halt x w'=>exact hh.elim
  ·rename_i hw;rw [if_neg hw] at hh;exact hh
def waitsT (md:Region.Mode) (ops:Array Oper):Nat→Nat→Nat→Bool
 | 0,_,_=>false
 | n+1,j,i=>match ops[j]? with
  | none=>false
  | some o=>o.after.any fun e=>Region.binds md e && (e.on == i || waitsT md ops n e.on i)
def ju (md:Region.Mode) (ops:Array Oper) (listed:Array Bool):Prop:=
 ∀ (j:Nat) (o:Oper),ops[j]? = some o→listed.getD j false=true→∀ e ∈ o.after,Region.binds md e=true→listed.getD e.on false=true
theorem ju.waits {listed:Array Bool} (h:ju md ops listed):∀ (n j i:Nat),(∃ o,ops[j]? = some o∧∀ e ∈ o.after,Region.binds md e=true→listed.getD e.on false=true)→waitsT md ops n j i=true→listed.getD i false=true
 | 0,_,_,_,hw=>by simp [waitsT] at hw
 | n+1,j,i,⟨o,ho,hall⟩,hw=>by
  simp only [waitsT,ho,Array.any_eq_true] at hw;obtain ⟨k,hk,hb⟩:=hw;simp only [Bool.and_eq_true,Bool.or_eq_true,beq_iff_eq] at hb;have he:=hall _ (Array.getElem_mem hk) hb.1;rcases hb.2 with e | e
  ·rw [←e];exact he
  ·refine h.waits n _ i ?_ e;cases hx:ops[(o.after[k]).on]? with
   | none=>exfalso;cases n <;> simp [waitsT,hx] at e
   | some ox=>exact ⟨ox,rfl,h _ ox hx he⟩
theorem ju.next {listed:Array Bool} (h:ju md ops listed) {i:Nat} (hi:i ∈ Region.ready md ops listed):ju md ops (listed.setIfInBounds i true):=by
 intro j o ho hl e he hb;by_cases hji:j=i
 ·subst hji;obtain ⟨_,o',ho',hall⟩:=mem_ready.1 hi;rw [ho] at ho';cases ho';exact getD_set_true (hall e he hb)
 ·rw [getD_set_ne false (Ne.symm hji)] at hl;exact getD_set_true (h j o ho hl e he hb)
def nJ (P:Program) (md:Region.Mode) (ops:Array Oper) (z:List Nat) (G:World→Prop) (Q:Act→World→Prop):Nat→Array Bool→Act→World→Prop
 | 0,listed,a,w=>Region.ready md ops listed=[]∧Q a w
 | f+1,listed,a,w=>
  (Region.ready md ops listed=[]→Q a w) ∧
  ∀ i ∈ Region.ready md ops listed,gOp P ops i (fun a' w'=>(z.contains i=false→G w')∧nJ P md ops z G Q f (listed.setIfInBounds i true) a' w') a w
theorem p8 {z:List Nat} {Q:Act→World→Prop} {Q':Exit→Act→World→Prop} (hQ:∀ a w,Q a w→Q' .normal a w):∀ (f:Nat) (listed:Array Bool) (a:Act) (w:World),
  nJ P md ops z G Q f listed a w→wpAny P md ops Q' f listed a w
 | 0,_,_,_,h=>⟨h.1,hQ _ _ h.2⟩
 | f+1,_,_,_,h=>⟨fun h0=>hQ _ _ (h.1 h0),fun i hi=>oR (eI (fun a w ⟨_,hk⟩=>p8 hQ f _ a w hk) (h.2 i hi))⟩
def bu (v:Value) (w:World) (r:Result Next):Prop:=r=.ok (.value v) w
theorem bu.mk (v:Value) (w:World):bu v w (.ok (.value v) w):=rfl
def eX (P:Program) (ops:Array Oper) (G:World→Prop) (o:Oper) (v:Value) (a:Act):Prop:=
 (Region.wanted o (yielded ops a.tmps)=true∧∀ w,G w→bu v w ((execOp a.eval o).run P w))∨(Region.wanted o (yielded ops a.tmps)=false∧v=undef)
theorem eX.gOp {i:Nat} {o:Oper} {v:Value} {a:Act} {w:World} (hi:ops[i]? = some o) (hy:eX P ops G o v a) (hw:G w) {K:Act→World→Prop} (h:K (a.put o.dst v) w):gOp P ops i K a w:=by
 unfold Go.Proofs.YtjifdalflepcoacGreat.gOp;simp only [hi];rcases hy with ⟨hwt,hv⟩ | ⟨hwt,rfl⟩
 ·rw [if_pos hwt];unfold aw;rw [show (execOp a.eval o).run P w=_ from hv w hw];exact h
 ·rw [if_neg (by simp [hwt])];exact h
theorem uK {j:Nat} {oi oj:Oper} {v:Value} (hj:ops[j]? = some oj) (hap:oi.apart ops oj=true)
  (hsi:∀ cs b,oi.op≠.select cs b) (hsj:∀ cs b,oj.op≠.select cs b) {K:Act→World→Prop} {a:Act} {w:World}
  (hy:eX P ops G oi v a) (h:gOp P ops j K (a.put oi.dst v) w) :
  gOp P ops j (fun a' w'=>eX P ops G oi v a'∧K (a'.put oi.dst v) w') a w:=by
 obtain ⟨h1,h2,h3⟩:=Oper.apart_spec hap;have ab:∀ u,eX P ops G oi v (a.put oj.dst u):=fun u=>by
  unfold eX at *;rw [execOp_put oi hsi a oj.dst u h3,wanted_put oi a oj.dst u h3];exact hy
 have com:∀ u,(a.put oi.dst v).put oj.dst u=(a.put oj.dst u).put oi.dst v:=fun u=>Act.put_comm a v u h2;unfold gOp at *;simp only [hj] at *;rw [wanted_put oj a oi.dst v h1] at h;split
 ·rename_i hw;rw [if_pos hw] at h;unfold aw at *;rw [execOp_put oj hsj a oi.dst v h1] at h;generalize (execOp a.eval oj).run P w=r at *;cases r with
  | ok n w'=>
   cases n <;> simp only [gUpon] at h ⊢
   case value u=>exact ⟨ab u,by rw [←com];exact h⟩
   case skip=>exact ⟨ab undef,by rw [←com];exact h⟩
   case enter f args=>
    refine h.mono fun e w'' hq=>?_;cases e with
    | returned u=>exact ⟨ab u,by rw [←com];exact hq⟩
    | panicked _=>exact hq
    | outgrown=>exact hq
  | halt x w'=>exact h
 ·rename_i hw;rw [if_neg hw] at h;exact ⟨ab undef,by rw [←com];exact h⟩
theorem sI {z:List Nat} {Q:Act→World→Prop} {i:Nat} {oi:Oper} {v:Value} (hi:ops[i]? = some oi) (hsel:∀ (j:Nat) (o:Oper) cs b,ops[j]? = some o→o.op≠.select cs b)
  (hz:∀ j,z.contains j=true→waitsT md ops ops.size j i=true) :
  ∀ (fuel:Nat) (listed:Array Bool) (a:Act) (w:World),G w→ju md ops listed →
   (∀ j oj,ops[j]? = some oj→j≠i→listed.getD j true=false→(∀ e ∈ oj.after,Region.binds md e=true→e.on≠i)→oi.apart ops oj=true) →
   i ∈ Region.ready md ops listed→eX P ops G oi v a →
   nJ P md ops z G Q fuel (listed.setIfInBounds i true) (a.put oi.dst v) w→nJ P md ops z G Q (fuel+1) listed a w:=by
 intro fuel
 induction fuel with
 | zero=>
  intro listed a w hG hS _ hr hy H;refine ⟨fun h=>(by rw [h] at hr;cases hr),fun j hj=>?_⟩;by_cases hji:j=i
  ·subst hji;exact hy.gOp hi hG ⟨fun _=>hG,H⟩
  ·have:=ready_mono hj hji;rw [H.1] at this;cases this
 | succ fuel ih=>
  intro listed a w hG hS hfree hr hy H;refine ⟨fun h=>(by rw [h] at hr;cases hr),fun j hj=>?_⟩;by_cases hji:j=i
  ·subst hji;exact hy.gOp hi hG ⟨fun _=>hG,H⟩
  ·have h1:=H.2 j (ready_mono hj hji);obtain ⟨hjun,oj,hoj,hall⟩:=mem_ready.1 hj;have hin:listed.getD i false=false:=by
    have h0:=(mem_ready.1 hr).1;rcases Nat.lt_or_ge i listed.size with h' | h'
    ·simp [h'] at h0 ⊢;exact h0
    ·simp [Array.getElem?_eq_none h'] at h0
   have hjz:z.contains j=false:=by
    cases hc:z.contains j
    ·rfl
    ·have:=hS.waits _ j i ⟨oj,hoj,hall⟩ (hz j hc);rw [hin] at this;cases this
   have hnot:∀ e ∈ oj.after,Region.binds md e=true→e.on≠i:=fun e he hb heq=>by
    have h1:=hall e he hb;rw [heq,hin] at h1;cases h1
   have h2:=uK hoj (hfree j oj hoj hji hjun hnot) (fun cs b=>hsel i oi cs b hi) (fun cs b=>hsel j oj cs b hoj) hy h1;have hfree':∀ k ok,ops[k]? = some ok→k≠i→(listed.setIfInBounds j true).getD k true=false →
     (∀ e ∈ ok.after,Region.binds md e=true→e.on≠i)→oi.apart ops ok=true:=fun k ok hk hki hun hno=>by
    refine hfree k ok hk hki ?_ hno;by_cases hjk:j=k
    ·subst hjk;exact hjun
    ·rw [getD_set_ne true hjk] at hun;exact hun
   refine eI (fun a' w' ⟨hy',hG',h3⟩=>?_) h2;refine ⟨fun _=>hG' hjz,ih (listed.setIfInBounds j true) a' w' (hG' hjz) (hS.next hj) hfree' (ready_mono hr (Ne.symm hji)) hy' ?_⟩;rw [Array.setIfInBounds_comm _ _ hji];exact h3
def sJ (ord:List (Nat × Nat)):List Nat:=(ord.filter fun p=>p.2 == 2).map (·.1)
def ordB (md:Region.Mode) (ops:Array Oper) (z:List Nat):List (Nat × Nat)→Array Bool→Bool
 | [],listed=>(Region.ready md ops listed).isEmpty
 | (i,k) :: r,listed=>
  (if k=0 then (Region.ready md ops listed).contains i && Region.free md ops listed i && z.all fun j=>waitsT md ops ops.size j i
  else Region.ready md ops listed == [i] && (k == 1 || z.contains i && r.all fun p=>p.2 != 0)) && ordB md ops z r (listed.setIfInBounds i true)
def ji (P:Program) (ops:Array Oper) (z:List Nat) (G:World→Prop) (Q:Act→World→Prop):List (Nat × Nat)→Act→World→Prop
 | [],a,w=>Q a w
 | (i,0) :: r,a,w=>∃ o v,ops[i]? = some o∧eX P ops G o v a∧ji P ops z G Q r (a.put o.dst v) w
 | (i,k+1) :: r,a,w=>gOp P ops i (fun a' w'=>(k=0→G w')∧ji P ops z G Q r a' w') a w
theorem ko {z:List Nat} {Q:Act→World→Prop} (hs:Region.noSelect ops=true):∀ (ord:List (Nat × Nat)) (listed:Array Bool) (a:Act) (w:World),ju md ops listed→(G w∨∀ p ∈ ord,p.2≠0) →
  ordB md ops z ord listed=true→ji P ops z G Q ord a w→nJ P md ops z G Q ord.length listed a w
 | [],_,_,_,_,_,hB,h=>⟨by simpa [ordB] using hB,h⟩
 | (i,0) :: r,listed,a,w,hS,hG,hB,h=>by
  have hG:G w:=by
   rcases hG with h | h
   ·exact h
   ·exact absurd rfl (h (i,0) (by simp))
  simp only [ordB,if_true,Bool.and_eq_true] at hB;obtain ⟨⟨⟨hr,hf⟩,hz⟩,hB'⟩:=hB;obtain ⟨o,v,ho,hy,hn⟩:=h;have hr':i ∈ Region.ready md ops listed:=by simpa using hr
  refine sI ho (Region.noSelect_spec hs) (fun j hj=>?_) r.length listed a w hG hS (Region.free_spec ho hf) hr' hy ?_
  ·have:=List.all_eq_true.1 hz j (by simpa using hj);exact this
  ·exact ko hs r _ _ w (hS.next hr') (.inl hG) hB' hn
 | (i,k+1) :: r,listed,a,w,hS,hG,hB,h=>by
  have h0:¬ (k+1=0):=by omega
  simp only [ordB,if_neg h0,Bool.and_eq_true] at hB;obtain ⟨⟨hr,hk⟩,hB'⟩:=hB;have hr1:Region.ready md ops listed=[i]:=by simpa using hr
  have hin:i ∈ Region.ready md ops listed:=by rw [hr1];simp
  refine ⟨(fun h0=>by rw [hr1] at h0;cases h0),fun j hj=>?_⟩;rw [hr1] at hj;obtain rfl:j=i:=by simpa using hj
  refine eI (fun a' w' ⟨hG',hn⟩=>?_) h;by_cases hk0:k=0
  ·exact ⟨fun _=>hG' hk0,ko hs r _ a' w' (hS.next hin) (.inl (hG' hk0)) hB' hn⟩
  ·have hk1:(k+1 == 1)=false:=by simpa using hk0
   simp only [hk1,Bool.false_or,Bool.and_eq_true] at hk;refine ⟨(fun hz=>by rw [hk.1] at hz;cases hz),ko hs r _ a' w' (hS.next hin) (.inr fun p hp=>?_) hB' hn⟩;have:=List.all_eq_true.1 hk.2 p hp;simpa using this
theorem ct {id:Nat} {Q:Exit→Act→World→Prop} {a:Act} {w:World} {l:List Oper} (ord:List (Nat × Nat)) (G:World→Prop) (hm:P.follows .mixedOrders=true)
  (hB:(Region.noSelect l.toArray && ord.length == l.toArray.size && ordB .any l.toArray (sJ ord) ord (Array.replicate l.toArray.size false))=true) (hG:G w.drew)
  (h:ji P l.toArray (sJ ord) G (fun a' w'=>Q .normal a' w') ord a w.drew):(Code.region id l.toArray true).wp P Q a w:=by
 simp only [Bool.and_eq_true,beq_iff_eq] at hB;obtain ⟨⟨hs,hl⟩,hB⟩:=hB;refine wp_region_any hm ?_;have hshut:ju .any l.toArray (Array.replicate l.toArray.size false):=by
  intro j o ho hx;have h0:(Array.replicate l.toArray.size false).getD j false=false:=by
   rw [Array.getD_eq_getD_getElem?,Array.getElem?_replicate];split <;> rfl
  rw [h0] at hx;cases hx
 have:=ko (z:=sJ ord) (md:=.any) hs ord _ a w.drew hshut (.inl hG) hB h;rw [hl] at this;exact p8 (fun _ _ h=>h) _ _ _ _ this
theorem bj {z:List Nat} {Q:Act→World→Prop} {i:Nat} {r:List (Nat × Nat)} {a:Act} {w:World} {o:Oper} (ho:ops[i]? = some o) (hw:Region.wanted o (yielded ops a.tmps)=true) (v:Value)
  (h:∀ w',G w'→bu v w' ((execOp a.eval o).run P w')) (hn:∀ K:Act→Prop,(∀ a',ji P ops z G Q r a' w→K a')→K (a.put o.dst v)):ji P ops z G Q ((i,0) :: r) a w:=
 ⟨o,v,ho, .inl ⟨hw,h⟩,hn _ (fun _ h=>h)⟩
theorem bx {z:List Nat} {Q:Act→World→Prop} {i:Nat} {r:List (Nat × Nat)} {a:Act} {w:World} {o:Oper} (ho:ops[i]? = some o) (hw:Region.wanted o (yielded ops a.tmps)=true)
  (h:∀ K:Act→World→Prop,(∀ a' w',G w'→ji P ops z G Q r a' w'→K a' w')→aw P o a w K):ji P ops z G Q ((i,1) :: r) a w:=by
 show gOp P ops i _ a w
 unfold gOp;simp only [ho,hw,if_true];exact h _ (fun a' w' hg hk=>⟨fun _=>hg,hk⟩)
theorem kr {z:List Nat} {Q:Act→World→Prop} {i:Nat} {r:List (Nat × Nat)} {a:Act} {w:World} {o:Oper} (ho:ops[i]? = some o) (hw:Region.wanted o (yielded ops a.tmps)=true)
  (h:∀ K:Act→World→Prop,(∀ a' w',ji P ops z G Q r a' w'→K a' w')→aw P o a w K):ji P ops z G Q ((i,2) :: r) a w:=by
 show gOp P ops i _ a w
 unfold gOp;simp only [ho,hw,if_true];exact h _ (fun a' w' hk=>⟨(fun h=>by cases h),hk⟩)
theorem dv {z:List Nat} {Q:Act→World→Prop} {a:Act} {w:World} (h:Q a w):ji P ops z G Q [] a w:=h
theorem dF {w:World} {o:Oper} {a:Act} {K:Act→World→Prop} (s x:Operand) (t:TypeId)
  (ho:o.op=.call { callee:=.builtin .append,args:=#[s,x],argTypes:=#[t,t] })
  (e:TypeId) (i:TypeInfo) (z:Value) (size bytes:Nat) (ht:P.underlying t=some (.slice e)) (hi:P.info? e=some i) (hz:i.zero=some z)
  (hsize:i.size=size) (hby:i.bytes=bytes) (hzs:z.cells.size=size) (hsz:0<size)
  (v:Value) (n:Nat) (xs:List Value) (hs:a.eval s=v) (hown:Sl w e size v n xs)
  (ad:Addr) (m c:Nat) (news:List Value) (hx:a.eval x=.slice (some ad) m c) (hl:news.length=m*size) (hnews:∀ j u,news[j]? = some u→w.cell? (ad.add j)=some u) (h1:∀ u ∈ news,u.oneCell'=true)
  (h63:n+m≤maxLen) (hbytes:(n+m)*bytes≤140737488355328)
  (h:∀ v' w',Sl w' e size v' (n+m) (xs ++ news)→aa (ak v) w w'→(∀ k,ak v' k→ak v k∨w.heap.size≤k)→K (a.put o.dst v') w'):aw P o a w K:=by
 obtain ⟨v',w',hr,h2,h3,h4⟩:=rh (P:=P) w t o.type e i z size bytes ht hi hz hsize hby hzs hsz v n xs hown ad m c news hl hnews h1 h63 hbytes;unfold aw execOp;simp only [ho,resolve,invoke,builtin,Sem.run_bind,Sem.run_pure,Result.andThen_ok,List.map_toArray,List.map_cons,List.map_nil,hs,hx,hr];exact h v' w' h2 h3 h4
theorem nD {w:World} {o:Oper} {a:Act} {K:Act→World→Prop} (s x:Operand) (t:TypeId)
  (ho:o.op=.call { callee:=.builtin .append,args:=#[s,x],argTypes:=#[t,t] })
  (e:TypeId) (i:TypeInfo) (size:Nat) (ht:P.underlying t=some (.slice e)) (hi:P.info? e=some i) (hsize:i.size=size)
  (g off n cap:Nat) (cur:List Value) (hs:a.eval s=.slice (some ⟨g,off,none⟩) n cap) (hb:aj w g cur e)
  (ad:Addr) (m c:Nat) (news:List Value) (hx:a.eval x=.slice (some ad) m c) (hl:news.length=m*size) (hnews:∀ j u,news[j]? = some u→w.cell? (ad.add j)=some u) (h1:∀ u ∈ news,u.oneCell'=true)
  (hr:n+m≤cap) (hoc:off+cap*size≤cur.length)
  (h:K (a.put o.dst (.slice (some ⟨g,off,none⟩) (n+m) cap)) (w.setRow g (cur.take (off+n*size) ++ news ++ cur.drop (off+n*size+news.length)).toArray)):aw P o a w K:=by
 have hr:=sF (P:=P) w t o.type e i size ht hi hsize g off n cap cur hb ad m c news hl hnews h1 hr hoc;unfold aw execOp;simp only [ho,resolve,invoke,builtin,Sem.run_bind,Sem.run_pure,Result.andThen_ok,List.map_toArray,List.map_cons,List.map_nil,hs,hx,hr];exact h
end
end
section
open Go.RowKit
inductive RO where
 | fin
 | pure (i:Nat) (r:RO)
 | free (i:Nat) (r:RO)
 | base (i:Nat) (r:RO)
 | run (i:Nat) (r:RO)
 | two (i:Nat) (r:RO) (j:Nat) (s:RO)
 | swi (z:List Nat) (r:RO)
namespace RO
def size:RO→Nat
 | fin=>0
 | pure _ r=>r.size+1
 | free _ r=>r.size+1
 | base _ r=>r.size+1
 | run _ r=>r.size+1
 | two _ r _ _=>r.size+1
 | swi _ r=>r.size
def gB:RO→Bool
 | fin=>true
 | pure _ _=>false
 | free _ r=>r.gB
 | base _ r=>r.gB
 | run _ r=>r.gB
 | two _ r _ s=>r.gB && s.gB
 | swi _ _=>true
end RO
section
variable {P:Program} {ops:Array Oper} {md:Region.Mode}
def roB (md:Region.Mode) (ops:Array Oper):RO→List Nat→Array Bool→Bool
 | .fin,_,listed=>(Region.ready md ops listed).isEmpty
 | .pure i r,z,listed=>(Region.ready md ops listed).contains i && Region.free md ops listed i && (z.all fun j=>waitsT md ops ops.size j i) && roB md ops r z (listed.setIfInBounds i true)
 | .free i r,z,listed=>(Region.ready md ops listed).contains i && Region.free md ops listed i && roB md ops r z (listed.setIfInBounds i true)
 | .base i r,z,listed=>(Region.ready md ops listed).contains i && Region.free md ops listed i && roB md ops r z (listed.setIfInBounds i true)
 | .run i r,z,listed=>Region.ready md ops listed == [i] && (!z.contains i || r.gB) && roB md ops r z (listed.setIfInBounds i true)
 | .two i r j s,z,listed=>Region.ready md ops listed == [i,j] && (!z.contains i || r.gB) && (!z.contains j || s.gB) && r.size == s.size && roB md ops r z (listed.setIfInBounds i true) && roB md ops s z (listed.setIfInBounds j true)
 | .swi z' r,z,listed=>((List.range ops.size).all fun k=>listed.getD k true || z.contains k) && roB md ops r z' listed
def gh (P:Program) (ops:Array Oper) (B:World→Prop) (Q:Act→World→Prop):RO→List Nat→(World→Prop)→Act→World→Prop
 | .fin,_,_,a,w=>Q a w
 | .pure i r,z,G,a,w=>∃ o v,ops[i]? = some o∧eX P ops G o v a∧gh P ops B Q r z G (a.put o.dst v) w
 | .free i r,z,G,a,w=>∃ o v,ops[i]? = some o∧eX P ops (fun _=>True) o v a∧gh P ops B Q r z G (a.put o.dst v) w
 | .base i r,z,G,a,w=>∃ o v,ops[i]? = some o∧eX P ops B o v a∧gh P ops B Q r z G (a.put o.dst v) w
 | .run i r,z,G,a,w=>gOp P ops i (fun a' w'=>(B w→B w')∧(z.contains i=false→G w→G w')∧gh P ops B Q r z G a' w') a w
 | .two i r j s,z,G,a,w=>gOp P ops i (fun a' w'=>(B w→B w')∧(z.contains i=false→G w→G w')∧gh P ops B Q r z G a' w') a w∧gOp P ops j (fun a' w'=>(B w→B w')∧(z.contains j=false→G w→G w')∧gh P ops B Q s z G a' w') a w
 | .swi z' r,_,_,a,w=>∃ G':World→Prop,G' w∧gh P ops B Q r z' G' a w
def wpAnyH (P:Program) (md:Region.Mode) (ops:Array Oper) (B:World→Prop) (z:List Nat) (G:World→Prop) (Q:Act→World→Prop):Nat→Array Bool→Act→World→Prop
 | 0,listed,a,w=>Region.ready md ops listed=[]∧Q a w
 | f+1,listed,a,w=>
  (Region.ready md ops listed=[]→Q a w) ∧
  ∀ i ∈ Region.ready md ops listed,gOp P ops i (fun a' w'=>(B w→B w')∧(z.contains i=false→G w→G w')∧wpAnyH P md ops B z G Q f (listed.setIfInBounds i true) a' w') a w
variable {B:World→Prop}
theorem mB {z:List Nat} {G:World→Prop} {Q:Act→World→Prop} {Q':Exit→Act→World→Prop} (hQ:∀ a w,Q a w→Q' .normal a w):∀ (f:Nat) (listed:Array Bool) (a:Act) (w:World),
  wpAnyH P md ops B z G Q f listed a w→wpAny P md ops Q' f listed a w
 | 0,_,_,_,h=>⟨h.1,hQ _ _ h.2⟩
 | f+1,_,_,_,h=>⟨fun h0=>hQ _ _ (h.1 h0),fun i hi=>oR (eI (fun a w ⟨_,_,hk⟩=>mB hQ f _ a w hk) (h.2 i hi))⟩
theorem x6 {listed:Array Bool} {i:Nat} (hi:i ∈ Region.ready md ops listed):i<ops.size∧listed.getD i true=false:=by
 obtain ⟨hun,oi,hoi,_⟩:=mem_ready.1 hi;refine ⟨?_,hun⟩;rcases Nat.lt_or_ge i ops.size with h | h
 ·exact h
 ·rw [Array.getElem?_eq_none h] at hoi;cases hoi
theorem p9 {z z':List Nat} {G G':World→Prop} {Q:Act→World→Prop}:∀ (fuel:Nat) (listed:Array Bool) (a:Act) (w:World),
  (∀ k,k<ops.size→listed.getD k true=false→z.contains k=true)→wpAnyH P md ops B z' G' Q fuel listed a w→wpAnyH P md ops B z G Q fuel listed a w
 | 0,_,_,_,_,h=>h
 | f+1,listed,a,w,hz,h=>⟨h.1,fun i hi=>eI (fun a' w' ⟨hb,_,hk⟩=>by
   obtain ⟨hil,hun⟩:=x6 hi;refine ⟨hb,fun hc=>?_,p9 f _ a' w' (fun k hk hl=>?_) hk⟩
   ·have:=hz i hil hun;rw [hc] at this;cases this
   ·by_cases hki:i=k
    ·subst hki;exact hz i hil hun
    ·rw [getD_set_ne true hki] at hl;exact hz k hk hl) (h.2 i hi)⟩
theorem wpAnyH_first {G Gy:World→Prop} {z:List Nat} {Q:Act→World→Prop} {i:Nat} {oi:Oper} {v:Value} (hi:ops[i]? = some oi) (hsel:∀ (j:Nat) (o:Oper) cs b,ops[j]? = some o→o.op≠.select cs b)
  (hz:(Gy=G∧∀ j,z.contains j=true→waitsT md ops ops.size j i=true)∨Gy=B∨∀ w,Gy w) :
  ∀ (fuel:Nat) (listed:Array Bool) (a:Act) (w:World),Gy w→ju md ops listed →
   (∀ j oj,ops[j]? = some oj→j≠i→listed.getD j true=false→(∀ e ∈ oj.after,Region.binds md e=true→e.on≠i)→oi.apart ops oj=true) →
   i ∈ Region.ready md ops listed→eX P ops Gy oi v a →
   wpAnyH P md ops B z G Q fuel (listed.setIfInBounds i true) (a.put oi.dst v) w→wpAnyH P md ops B z G Q (fuel+1) listed a w:=by
 intro fuel
 induction fuel with
 | zero=>
  intro listed a w hG hS _ hr hy H;refine ⟨fun h=>(by rw [h] at hr;cases hr),fun j hj=>?_⟩;by_cases hji:j=i
  ·subst hji;exact hy.gOp hi hG ⟨fun h=>h,fun _ h=>h,H⟩
  ·have:=ready_mono hj hji;rw [H.1] at this;cases this
 | succ fuel ih=>
  intro listed a w hG hS hfree hr hy H;refine ⟨fun h=>(by rw [h] at hr;cases hr),fun j hj=>?_⟩;by_cases hji:j=i
  ·subst hji;exact hy.gOp hi hG ⟨fun h=>h,fun _ h=>h,H⟩
  ·have h1:=H.2 j (ready_mono hj hji);obtain ⟨hjun,oj,hoj,hall⟩:=mem_ready.1 hj;have hin:listed.getD i false=false:=by
    have h0:=(mem_ready.1 hr).1;rcases Nat.lt_or_ge i listed.size with h' | h'
    ·simp [h'] at h0 ⊢;exact h0
    ·simp [Array.getElem?_eq_none h'] at h0
   have hnot:∀ e ∈ oj.after,Region.binds md e=true→e.on≠i:=fun e he hb heq=>by
    have h1:=hall e he hb;rw [heq,hin] at h1;cases h1
   have h2:=uK hoj (hfree j oj hoj hji hjun hnot) (fun cs b=>hsel i oi cs b hi) (fun cs b=>hsel j oj cs b hoj) hy h1;have hfree':∀ k ok,ops[k]? = some ok→k≠i→(listed.setIfInBounds j true).getD k true=false →
     (∀ e ∈ ok.after,Region.binds md e=true→e.on≠i)→oi.apart ops ok=true:=fun k ok hk hki hun hno=>by
    refine hfree k ok hk hki ?_ hno;by_cases hjk:j=k
    ·subst hjk;exact hjun
    ·rw [getD_set_ne true hjk] at hun;exact hun
   refine eI (fun a' w' ⟨hy',hB',hG',h3⟩=>?_) h2;refine ⟨hB',hG',ih (listed.setIfInBounds j true) a' w' ?_ (hS.next hj) hfree' (ready_mono hr (Ne.symm hji)) hy' ?_⟩
   ·rcases hz with ⟨rfl,hzz⟩ | rfl | h2
    ·refine hG' ?_ hG;cases hc:z.contains j
     ·rfl
     ·have:=hS.waits _ j i ⟨oj,hoj,hall⟩ (hzz j hc);rw [hin] at this;cases this
    ·exact hB' hG
    ·exact h2 w'
   ·rw [Array.setIfInBounds_comm _ _ hji];exact h3
theorem eC {Q:Act→World→Prop} (hs:Region.noSelect ops=true):∀ (t:RO) (z:List Nat) (G:World→Prop) (listed:Array Bool) (a:Act) (w:World),ju md ops listed→B w→(G w∨t.gB=true) →
  roB md ops t z listed=true→gh P ops B Q t z G a w→wpAnyH P md ops B z G Q t.size listed a w
 | .fin,_,_,_,_,_,_,_,_,hB,h=>⟨by simpa [roB] using hB,h⟩
 | .pure i r,z,G,listed,a,w,hS,hb,hG,hB,h=>by
  have hG:G w:=by
   rcases hG with h | h
   ·exact h
   ·simp [RO.gB] at h
  simp only [roB,Bool.and_eq_true] at hB;obtain ⟨⟨⟨hr,hf⟩,hz⟩,hB'⟩:=hB;obtain ⟨o,v,ho,hy,hn⟩:=h;have hr':i ∈ Region.ready md ops listed:=by simpa using hr
  refine wpAnyH_first ho (Region.noSelect_spec hs) (.inl ⟨rfl,fun j hj=>?_⟩) r.size listed a w hG hS (Region.free_spec ho hf) hr' hy ?_
  ·exact List.all_eq_true.1 hz j (by simpa using hj)
  ·exact eC hs r z G _ _ w (hS.next hr') hb (.inl hG) hB' hn
 | .free i r,z,G,listed,a,w,hS,hb,hG,hB,h=>by
  simp only [roB,Bool.and_eq_true] at hB;obtain ⟨⟨hr,hf⟩,hB'⟩:=hB;obtain ⟨o,v,ho,hy,hn⟩:=h;have hr':i ∈ Region.ready md ops listed:=by simpa using hr
  refine wpAnyH_first ho (Region.noSelect_spec hs) (.inr (.inr fun _=>trivial)) r.size listed a w trivial hS (Region.free_spec ho hf) hr' hy ?_;exact eC hs r z G _ _ w (hS.next hr') hb hG hB' hn
 | .base i r,z,G,listed,a,w,hS,hb,hG,hB,h=>by
  simp only [roB,Bool.and_eq_true] at hB;obtain ⟨⟨hr,hf⟩,hB'⟩:=hB;obtain ⟨o,v,ho,hy,hn⟩:=h;have hr':i ∈ Region.ready md ops listed:=by simpa using hr
  refine wpAnyH_first ho (Region.noSelect_spec hs) (.inr (.inl rfl)) r.size listed a w hb hS (Region.free_spec ho hf) hr' hy ?_;exact eC hs r z G _ _ w (hS.next hr') hb hG hB' hn
 | .run i r,z,G,listed,a,w,hS,hb,hG,hB,h=>by
  simp only [roB,Bool.and_eq_true] at hB;obtain ⟨⟨hr,hk⟩,hB'⟩:=hB;have hr1:Region.ready md ops listed=[i]:=by simpa using hr
  have hin:i ∈ Region.ready md ops listed:=by rw [hr1];simp
  refine ⟨(fun h0=>by rw [hr1] at h0;cases h0),fun j hj=>?_⟩;rw [hr1] at hj;obtain rfl:j=i:=by simpa using hj
  refine eI (fun a' w' ⟨hb',hG',hn⟩=>⟨hb',hG',eC hs r z G _ a' w' (hS.next hin) (hb' hb) ?_ hB' hn⟩) h;cases hc:z.contains j
  ·rcases hG with hG | hG
   ·exact .inl (hG' hc hG)
   ·exact .inr hG
  ·rw [hc] at hk;exact .inr (by simpa using hk)
 | .two i r k s,z,G,listed,a,w,hS,hb,hG,hB,h=>by
  simp only [roB,Bool.and_eq_true,beq_iff_eq] at hB;obtain ⟨⟨⟨⟨⟨hr,hki⟩,hkk⟩,hsz⟩,rI⟩,uL⟩:=hB;have hr1:Region.ready md ops listed=[i,k]:=by simpa using hr
  refine ⟨(fun h0=>by rw [hr1] at h0;cases h0),fun j hj=>?_⟩;have hin:j ∈ Region.ready md ops listed:=hj;rw [hr1] at hj;have hj:j=i∨j=k:=by simpa using hj
  rcases hj with rfl | rfl
  ·refine eI (fun a' w' ⟨hb',hG',hn⟩=>⟨hb',hG',eC hs r z G _ a' w' (hS.next hin) (hb' hb) ?_ rI hn⟩) h.1;cases hc:z.contains j
   ·rcases hG with hG | hG
    ·exact .inl (hG' hc hG)
    ·simp only [RO.gB,Bool.and_eq_true] at hG;exact .inr hG.1
   ·rw [hc] at hki;exact .inr (by simpa using hki)
  ·show gOp P ops j (fun a' w'=>(B w→B w')∧(z.contains j=false→G w→G w')∧wpAnyH P md ops B z G Q r.size (listed.setIfInBounds j true) a' w') a w
   rw [hsz];refine eI (fun a' w' ⟨hb',hG',hn⟩=>⟨hb',hG',eC hs s z G _ a' w' (hS.next hin) (hb' hb) ?_ uL hn⟩) h.2;cases hc:z.contains j
   ·rcases hG with hG | hG
    ·exact .inl (hG' hc hG)
    ·simp only [RO.gB,Bool.and_eq_true] at hG;exact .inr hG.2
   ·rw [hc] at hkk;exact .inr (by simpa using hkk)
 | .swi z' r,z,G,listed,a,w,hS,hb,hG,hB,h=>by
  simp only [roB,Bool.and_eq_true] at hB;obtain ⟨hz,hB'⟩:=hB;obtain ⟨G',hG',hn⟩:=h;refine p9 _ listed a w (fun k hk hl=>?_) (eC hs r z' G' listed a w hS hb (.inl hG') hB' hn);have:=List.all_eq_true.1 hz k (List.mem_range.2 hk);rw [hl] at this;simpa using this
structure cA (P:Program) (ops:Array Oper) (B:World→Prop) (Q:Act→World→Prop) (t:RO) (z:List Nat) (G:World→Prop) (a:Act) (w:World):Prop where
 raw:gh P ops B Q t z G a w
abbrev jv (P:Program) (ops:Array Oper) (Q:Act→World→Prop) (t:RO) (z:List Nat) (G:World→Prop) (a:Act) (w:World):Prop:=cA P ops (fun _=>True) Q t z G a w
theorem nG {id:Nat} {Q:Exit→Act→World→Prop} {a:Act} {w:World} {l:List Oper} (t:RO) (z:List Nat) (B G:World→Prop) (hm:P.follows .mixedOrders=true)
  (hB:(Region.noSelect l.toArray && t.size == l.toArray.size && roB .any l.toArray t z (Array.replicate l.toArray.size false))=true) (hb:B w.drew) (hG:G w.drew)
  (h:cA P l.toArray B (fun a' w'=>Q .normal a' w') t z G a w.drew):(Code.region id l.toArray true).wp P Q a w:=by
 simp only [Bool.and_eq_true,beq_iff_eq] at hB;obtain ⟨⟨hs,hl⟩,hB⟩:=hB;refine wp_region_any hm ?_;have hshut:ju .any l.toArray (Array.replicate l.toArray.size false):=by
  intro j o ho hx;have h0:(Array.replicate l.toArray.size false).getD j false=false:=by
   rw [Array.getD_eq_getD_getElem?,Array.getElem?_replicate];split <;> rfl
  rw [h0] at hx;cases hx
 have:=eC (md:=.any) hs t z G _ a w.drew hshut hb (.inl hG) hB h.raw;rw [hl] at this;exact mB (fun _ _ h=>h) _ _ _ _ this
theorem nK {id:Nat} {Q:Exit→Act→World→Prop} {a:Act} {w:World} {l:List Oper} (t:RO) (z:List Nat) (G:World→Prop) (hm:P.follows .mixedOrders=true)
  (hB:(Region.noSelect l.toArray && t.size == l.toArray.size && roB .any l.toArray t z (Array.replicate l.toArray.size false))=true) (hG:G w.drew)
  (h:jv P l.toArray (fun a' w'=>Q .normal a' w') t z G a w.drew):(Code.region id l.toArray true).wp P Q a w:=nG t z _ G hm hB trivial hG h
section
variable {z:List Nat} {G:World→Prop} {Q:Act→World→Prop} {i:Nat} {r:RO} {a:Act} {w:World} {o:Oper}
theorem jV (ho:ops[i]? = some o) (hw:Region.wanted o (yielded ops a.tmps)=true) (v:Value)
  (h:∀ w',G w'→bu v w' ((execOp a.eval o).run P w')) (hn:∀ K:Act→Prop,(∀ a',cA P ops B Q r z G a' w→K a')→K (a.put o.dst v)):cA P ops B Q (.pure i r) z G a w:=
 ⟨⟨o,v,ho, .inl ⟨hw,h⟩,hn (fun a'=>gh P ops B Q r z G a' w) (fun _ h=>h.raw)⟩⟩
theorem rJ (ho:ops[i]? = some o) (hw:Region.wanted o (yielded ops a.tmps)=true) (v:Value)
  (h:∀ w',B w'→bu v w' ((execOp a.eval o).run P w')) (hn:∀ K:Act→Prop,(∀ a',cA P ops B Q r z G a' w→K a')→K (a.put o.dst v)):cA P ops B Q (.base i r) z G a w:=
 ⟨⟨o,v,ho, .inl ⟨hw,h⟩,hn (fun a'=>gh P ops B Q r z G a' w) (fun _ h=>h.raw)⟩⟩
theorem gU (ho:ops[i]? = some o) (hw:Region.wanted o (yielded ops a.tmps)=true) (v:Value)
  (h:∀ w',bu v w' ((execOp a.eval o).run P w')) (hn:∀ K:Act→Prop,(∀ a',cA P ops B Q r z G a' w→K a')→K (a.put o.dst v)):cA P ops B Q (.free i r) z G a w:=
 ⟨⟨o,v,ho, .inl ⟨hw,fun w' _=>h w'⟩,hn (fun a'=>gh P ops B Q r z G a' w) (fun _ h=>h.raw)⟩⟩
theorem lD (ho:ops[i]? = some o) (hw:Region.wanted o (yielded ops a.tmps)=false)
  (hn:∀ K:Act→Prop,(∀ a',cA P ops B Q r z G a' w→K a')→K (a.put o.dst undef)):cA P ops B Q (.pure i r) z G a w:=
 ⟨⟨o,undef,ho, .inr ⟨hw,rfl⟩,hn (fun a'=>gh P ops B Q r z G a' w) (fun _ h=>h.raw)⟩⟩
theorem vB (ho:ops[i]? = some o) (hw:Region.wanted o (yielded ops a.tmps)=false)
  (hn:∀ K:Act→Prop,(∀ a',cA P ops B Q r z G a' w→K a')→K (a.put o.dst undef)):cA P ops B Q (.base i r) z G a w:=
 ⟨⟨o,undef,ho, .inr ⟨hw,rfl⟩,hn (fun a'=>gh P ops B Q r z G a' w) (fun _ h=>h.raw)⟩⟩
theorem ks (ho:ops[i]? = some o) (hw:Region.wanted o (yielded ops a.tmps)=false)
  (hn:∀ K:Act→Prop,(∀ a',cA P ops B Q r z G a' w→K a')→K (a.put o.dst undef)):cA P ops B Q (.free i r) z G a w:=
 ⟨⟨o,undef,ho, .inr ⟨hw,rfl⟩,hn (fun a'=>gh P ops B Q r z G a' w) (fun _ h=>h.raw)⟩⟩
theorem jw {K:Act→World→Prop} (ho:ops[i]? = some o) (hw:Region.wanted o (yielded ops a.tmps)=true) (h:aw P o a w K):gOp P ops i K a w:=by
 unfold gOp;simp only [ho,hw,if_true];exact h
theorem gV (ho:ops[i]? = some o) (hw:Region.wanted o (yielded ops a.tmps)=true)
  (h:∀ K:Act→World→Prop,(∀ a' w',(B w→B w')→(G w→G w')→cA P ops B Q r z G a' w'→K a' w')→aw P o a w K):cA P ops B Q (.run i r) z G a w:=
 ⟨jw ho hw (h _ (fun a' w' hb hg hk=>⟨hb,fun _=>hg,hk.raw⟩))⟩
theorem aM (ho:ops[i]? = some o) (hw:Region.wanted o (yielded ops a.tmps)=true)
  (h:∀ K:Act→World→Prop,(∀ a' w',(G w→G w')→jv P ops Q r z G a' w'→K a' w')→aw P o a w K):jv P ops Q (.run i r) z G a w:=
 gV ho hw fun K hK=>h K fun a' w' hg hk=>hK a' w' (fun h=>h) hg hk
theorem wK (ho:ops[i]? = some o) (hz:z.contains i=true) (hw:Region.wanted o (yielded ops a.tmps)=true)
  (h:∀ K:Act→World→Prop,(∀ a' w',(B w→B w')→cA P ops B Q r z G a' w'→K a' w')→aw P o a w K):cA P ops B Q (.run i r) z G a w:=
 ⟨jw ho hw (h _ (fun a' w' hb hk=>⟨hb,(fun hc=>by rw [hz] at hc;cases hc),hk.raw⟩))⟩
theorem aA (ho:ops[i]? = some o) (hz:z.contains i=true) (hw:Region.wanted o (yielded ops a.tmps)=true)
  (h:∀ K:Act→World→Prop,(∀ a' w',jv P ops Q r z G a' w'→K a' w')→aw P o a w K):jv P ops Q (.run i r) z G a w:=
 wK ho hz hw fun K hK=>h K fun a' w' hk=>hK a' w' (fun h=>h) hk
theorem kR {j:Nat} {s:RO} {o':Oper} (ho:ops[i]? = some o) (hw:Region.wanted o (yielded ops a.tmps)=true) (ho':ops[j]? = some o') (hw':Region.wanted o' (yielded ops a.tmps)=true)
  (h:∀ K:Act→World→Prop,(∀ a' w',(B w→B w')→(z.contains i=false→G w→G w')→cA P ops B Q r z G a' w'→K a' w')→aw P o a w K)
  (h':∀ K:Act→World→Prop,(∀ a' w',(B w→B w')→(z.contains j=false→G w→G w')→cA P ops B Q s z G a' w'→K a' w')→aw P o' a w K):cA P ops B Q (.two i r j s) z G a w:=
 ⟨⟨jw ho hw (h _ (fun a' w' hb hg hk=>⟨hb,hg,hk.raw⟩)),jw ho' hw' (h' _ (fun a' w' hb hg hk=>⟨hb,hg,hk.raw⟩))⟩⟩
theorem aB {z':List Nat} (G':World→Prop) (hG:G' w) (h:cA P ops B Q r z' G' a w):cA P ops B Q (.swi z' r) z G a w:=⟨⟨G',hG,h.raw⟩⟩
theorem av (h:Q a w):cA P ops B Q .fin z G a w:=⟨h⟩
def rowB (P:Program) (t:TypeId) (n:Nat):Bool:=(match P.underlying t with | some d=>d.isRow | none=>false) && (P.info? t).map (·.size) == some n
theorem jW {t:TypeId} {n:Nat} (h:rowB P t n=true):∃ d,P.underlying t=some d∧d.isRow=true∧(P.info? t).map (·.size)=some n:=by
 unfold rowB at h;simp only [Bool.and_eq_true,beq_iff_eq] at h;cases hd:P.underlying t with
 | none=>rw [hd] at h;cases h.1
 | some d=>rw [hd] at h;exact ⟨d,rfl,h.1,h.2⟩
theorem pn {b off:Nat} {v0 v1:Value} (h0:w.cell? ⟨b,off,none⟩=some v0) (h1:w.cell? ⟨b,off+1,none⟩=some v1):w.rangeAt b off [v0,v1]:=by
 intro j v hj
 match j with
 | 0=>simp at hj;subst hj;exact h0
 | 1=>simp at hj;subst hj;exact h1
 | j+2=>simp at hj
theorem qc {t:TypeId} {x:Operand} {b off:Nat} {v0 v1:Value} (ho:o.op=.load t x) (hr:rowB P t 2=true) (hx:a.eval x=.pointer (some ⟨b,off,none⟩))
  (h0:w.cell? ⟨b,off,none⟩=some v0) (h1:w.cell? ⟨b,off+1,none⟩=some v1):bu (.agg #[v0,v1]) w ((execOp a.eval o).run P w):=by
 obtain ⟨d,hu,hd,hi⟩:=jW hr;have:=run_loadAt_mid (P:=P) w b off t [v0,v1] d (pn h0 h1) hu hd hi;unfold bu execOp;simp only [ho,hx,Sem.run_bind,Sem.run_pure,Result.andThen_ok,this]
theorem ku {v:Value} (ho:ops[i]? = some o) (hw:Region.wanted o (yielded ops a.tmps)=true) (hn:∀ K:Act→Prop,(∀ a',cA P ops B Q r z G a' w→K a')→K (a.put o.dst v))
  (h:∀ w',bu v w' ((execOp a.eval o).run P w'):=by intro w';go_simp;exact bu.mk _ _):cA P ops B Q (.free i r) z G a w:=gU ho hw v h hn
theorem kv {v:Value} (ho:ops[i]? = some o) (hw:Region.wanted o (yielded ops a.tmps)=true) (hn:∀ K:Act→Prop,(∀ a',cA P ops B Q r z G a' w→K a')→K (a.put o.dst v))
  (h:∀ w',G w'→bu v w' ((execOp a.eval o).run P w'):=by intro w' hG;(repeat (have:=And.left hG;replace hG:=And.right hG));go_simp;exact bu.mk _ _):cA P ops B Q (.pure i r) z G a w:=jV ho hw v h hn
theorem vC {v:Value} (ho:ops[i]? = some o) (hw:Region.wanted o (yielded ops a.tmps)=true) (hn:∀ K:Act→Prop,(∀ a',cA P ops B Q r z G a' w→K a')→K (a.put o.dst v))
  (h:∀ w',B w'→bu v w' ((execOp a.eval o).run P w'):=by intro w' hG;(repeat (have:=And.left hG;replace hG:=And.right hG));go_simp;exact bu.mk _ _):cA P ops B Q (.base i r) z G a w:=rJ ho hw v h hn
theorem lE {v:Value} (ho:ops[i]? = some o) (hw:Region.wanted o (yielded ops a.tmps)=true) (hn:∀ K:Act→Prop,(∀ a',cA P ops B Q r z G a' w→K a')→K (a.put o.dst v))
  (h:∀ w',G w'→bu v w' ((execOp a.eval o).run P w'):=by intro w' hG;(repeat (have:=And.left hG;replace hG:=And.right hG));exact qc rfl (by decide +kernel) rfl (by assumption) (by assumption)):cA P ops B Q (.pure i r) z G a w:=jV ho hw v h hn
theorem vD {v:Value} (ho:ops[i]? = some o) (hw:Region.wanted o (yielded ops a.tmps)=true) (hn:∀ K:Act→Prop,(∀ a',cA P ops B Q r z G a' w→K a')→K (a.put o.dst v))
  (h:∀ w',B w'→bu v w' ((execOp a.eval o).run P w'):=by intro w' hG;(repeat (have:=And.left hG;replace hG:=And.right hG));exact qc rfl (by decide +kernel) rfl (by assumption) (by assumption)):cA P ops B Q (.base i r) z G a w:=rJ ho hw v h hn
theorem bZ {rest:List Oper} {Q:Exit→Act→World→Prop} (hgd:o.guard=none) (t:TypeId) (x:Operand) (ho:o.op=.load t x) (hr:rowB P t 2=true) (b off:Nat) (hx:a.eval x=.pointer (some ⟨b,off,none⟩)) (v0 v1:Value)
  (h0:w.cell? ⟨b,off,none⟩=some v0) (h1:w.cell? ⟨b,off+1,none⟩=some v1) (h:wpList P ops Q rest (a.put o.dst (.agg #[v0,v1])) w):wpList P ops Q (o :: rest) a w:=by
 obtain ⟨d,hu,hd,hi⟩:=jW hr;exact wpList_load_mid hgd t x ho b off hx [v0,v1] d (pn h0 h1) hu hd hi h
end
end
theorem Wz {p q:Prop} (k:q) (h:q→p:=by intro k;(first | refine ku rfl rfl fun K hK=>?_ | refine ks rfl rfl fun K hK=>?_ | refine lE rfl rfl fun K hK=>?_ | refine kv rfl rfl fun K hK=>?_ | refine lD rfl rfl fun K hK=>?_ | refine vC rfl rfl fun K hK=>?_ | refine vD rfl rfl fun K hK=>?_ | refine vB rfl rfl fun K hK=>?_);go_simp;refine hK _ ?_;clear hK K;exact k):p:=h k
theorem Rz {P:Program} {id:Nat} {Q:Exit→Act→World→Prop} {a:Act} {w:World} {l:List Oper} (t:RO) (z:List Nat) (G:World→Prop) (hG:G w.drew) (h:jv P l.toArray (fun a' w'=>Q .normal a' w') t z G a w.drew) (hm:P.follows .mixedOrders=true:=by kernel_rfl) (hB:(Region.noSelect l.toArray && t.size == l.toArray.size && roB .any l.toArray t z (Array.replicate l.toArray.size false))=true:=by kernel_rfl):(Code.region id l.toArray true).wp P Q a w:=nK t z G hm hB hG h
theorem CW {P:Program} {id:Nat} {Q:Exit→Act→World→Prop} {a:Act} {w:World} {l:List Oper} (t:RO) (z:List Nat) (B G:World→Prop) (hb:B w.drew) (hG:G w.drew) (h:cA P l.toArray B (fun a' w'=>Q .normal a' w') t z G a w.drew) (hm:P.follows .mixedOrders=true:=by kernel_rfl) (hB:(Region.noSelect l.toArray && t.size == l.toArray.size && roB .any l.toArray t z (Array.replicate l.toArray.size false))=true:=by kernel_rfl):(Code.region id l.toArray true).wp P Q a w:=nG t z B G hm hB hb hG h
def zm (G:World→Prop) (w:World):Prop:=G w
theorem Fa {w:World} {p:Addr} {v:Value} (h:w.cell? p=some v):zm (fun w'=>w'.cell? p=some v) w.drew:=h
theorem Fz {w:World} {p:Addr} {v:Value} {G:World→Prop} (h:w.cell? p=some v) (hg:zm G w.drew):zm (fun w'=>w'.cell? p=some v∧G w') w.drew:=⟨h,hg⟩
theorem a8 {P:Program} {id:Nat} {Q:Exit→Act→World→Prop} {a:Act} {w:World} {l:List Oper} (t:RO) (z:List Nat) {G:World→Prop} (hG:zm G w.drew) (h:jv P l.toArray (fun a' w'=>Q .normal a' w') t z G a w.drew) (hm:P.follows .mixedOrders=true:=by kernel_rfl) (hB:(Region.noSelect l.toArray && t.size == l.toArray.size && roB .any l.toArray t z (Array.replicate l.toArray.size false))=true:=by kernel_rfl):(Code.region id l.toArray true).wp P Q a w:=nK t z G hm hB hG h
end
section
open Go.RowKit
theorem x7 {P:Program} (w:World) (t ty e:TypeId) (i:TypeInfo) (z:Value) (size bytes:Nat) (ht:P.underlying t=some (.slice e)) (hi:P.info? e=some i) (hz:i.zero=some z)
  (hsize:i.size=size) (hby:i.bytes=bytes) (hzs:z.cells.size=size) (hsz:0<size)
  (v:Value) (n:Nat) (xs:List Value) (hs:Sl w e size v n xs)
  (ao:Option Addr) (m c:Nat) (news:List Value) (hl:news.length=m*size) (hrd:Rd w ao news) (h1:∀ u ∈ news,u.oneCell'=true)
  (h63:n+m≤maxLen) (hbytes:(n+m)*bytes≤140737488355328) :
  ∃ v' w',(Builtin.append_ #[t,t] ty #[v, .slice ao m c]).run P w=.ok v' w'∧Sl w' e size v' (n+m) (xs ++ news)∧aa (ak v) w w'∧(∀ k,ak v' k→ak v k∨w.heap.size≤k):=by
 cases ao with
 | some a=>
  refine rh w t ty e i z size bytes ht hi hz hsize hby hzs hsz v n xs hs a m c news hl ?_ h1 h63 hbytes;intro j u hu;have hj:=(List.getElem?_eq_some_iff.1 hu).1;obtain ⟨g,o,e,_,hc⟩:=hrd (by rintro rfl;simp at hj);cases e;rw [eY,hc j hj,hu]
 | none=>
  have hn:news=[]:=by
   by_cases h:news=[]
   ·exact h
   ·obtain ⟨g,o,e,_⟩:=hrd h;cases e
  subst hn;have hm:m=0:=by
   rcases Nat.mul_eq_zero.1 (show m*size=0 by simpa using hl.symm) with h | h
   ·exact h
   ·omega
  subst hm;refine ⟨v,w,?_,by simpa using hs,aa.refl _ _,fun k hk=>.inl hk⟩;subst hsize;obtain ⟨hxl,⟨rfl,rfl⟩ | ⟨g,o,cap,cur,rfl,hb,hnc,hcm,hoc,hx⟩⟩:=hs
  ·simp [Builtin.append_,run_underlying ht,sizeOf,typeInfo,hi,Builtin.lenOf,Builtin.firstCells]
  ·simp [Builtin.append_,run_underlying ht,sizeOf,typeInfo,hi,Builtin.lenOf,Builtin.firstCells,hnc,storeCells]
theorem lW {P:Program} {w:World} {ops:Array Oper} {rest:List Oper} {o:Oper} {a:Act} {Q:Exit→Act→World→Prop} (hgd:o.guard=none) (s x:Operand) (t:TypeId)
  (ho:o.op=.call { callee:=.builtin .append,args:=#[s,x],argTypes:=#[t,t] })
  (e:TypeId) (i:TypeInfo) (z:Value) (size bytes:Nat) (ht:P.underlying t=some (.slice e)) (hi:P.info? e=some i) (hz:i.zero=some z)
  (hsize:i.size=size) (hby:i.bytes=bytes) (hzs:z.cells.size=size) (hsz:0<size)
  (v:Value) (n:Nat) (xs:List Value) (hs:a.eval s=v) (hown:Sl w e size v n xs)
  (ao:Option Addr) (m c:Nat) (news:List Value) (hx:a.eval x=.slice ao m c) (hl:news.length=m*size) (hrd:Rd w ao news) (h1:∀ u ∈ news,u.oneCell'=true)
  (h63:n+m≤maxLen) (hbytes:(n+m)*bytes≤140737488355328)
  (h:∀ v' w',Sl w' e size v' (n+m) (xs ++ news)→aa (ak v) w w'→(∀ k,ak v' k→ak v k∨w.heap.size≤k)→wpList P ops Q rest (a.put o.dst v') w'):wpList P ops Q (o :: rest) a w:=by
 refine wpList_plain hgd fun _ hK=>?_;obtain ⟨v',w',hr,h2,h3,h4⟩:=x7 (P:=P) w t o.type e i z size bytes ht hi hz hsize hby hzs hsz v n xs hown ao m c news hl hrd h1 h63 hbytes;unfold Oper.wp execOp;simp only [ho,resolve,invoke,builtin,Sem.run_bind,Sem.run_pure,Result.andThen_ok,List.map_toArray,List.map_cons,List.map_nil,hs,hx,hr];exact hK _ _ (h v' w' h2 h3 h4)
end
section
open Go.RowKit
section
variable {P:Program} {w:World} {ops:Array Oper} {o:Oper} {a:Act}
theorem nL {t:TypeId} {x:Operand} {b off:Nat} {cs:List Value} (ho:o.op=.load t x) (hr:rowB P t cs.length=true) (hx:a.eval x=.pointer (some ⟨b,off,none⟩)) (h:w.rangeAt b off cs):bu (.agg cs.toArray) w ((execOp a.eval o).run P w):=by
 obtain ⟨d,hu,hd,hi⟩:=jW hr;have:=run_loadAt_mid (P:=P) w b off t cs d h hu hd hi;unfold bu execOp;simp only [ho,hx,Sem.run_bind,Sem.run_pure,Result.andThen_ok,this]
theorem bA {rest:List Oper} {Q:Exit→Act→World→Prop} (hgd:o.guard=none) (t:TypeId) (x:Operand) (ho:o.op=.load t x) (cs:List Value) (hr:rowB P t cs.length=true) (b off:Nat) (hx:a.eval x=.pointer (some ⟨b,off,none⟩))
  (h0:w.rangeAt b off cs) (h:wpList P ops Q rest (a.put o.dst (.agg cs.toArray)) w):wpList P ops Q (o :: rest) a w:=by
 obtain ⟨d,hu,hd,hi⟩:=jW hr;exact wpList_load_mid hgd t x ho b off hx cs d h0 hu hd hi h
theorem a7 {b off:Nat}:w.rangeAt b off []:=by intro j v hj;simp at hj
theorem ae {b off:Nat} {v:Value} {cs:List Value} (h:w.cell? ⟨b,off,none⟩=some v) (hr:w.rangeAt b (off+1) cs):w.rangeAt b off (v :: cs):=by
 intro j u hj;cases j with
 | zero=>simp at hj;subst hj;exact h
 | succ j=>simp at hj;rw [show off+(j+1)=off+1+j by omega];exact hr j u hj
end
end
section
open Go.RowKit
theorem pq (n:Int):bits .and .i64 n 3=n%4:=by
 have h3:(BitVec.ofInt 64 3).toNat=2 ^ 2-1:=by decide
 have key:(BitVec.ofInt 64 n &&& BitVec.ofInt 64 3).toNat=(n%((2 ^ 64:Nat):Int)).toNat%2 ^ 2:=by
  rw [BitVec.toNat_and,BitVec.toNat_ofInt,h3,Nat.and_two_pow_sub_one_eq_mod]
 show IntKind.i64.wrap ((BitVec.ofInt 64 n &&& BitVec.ofInt 64 3).toNat:Nat)=n%4
 rw [key,IntKind.wrap_i64];omega
theorem wL (n:Int):bits .and .i64 n 15=n%16:=by
 have h3:(BitVec.ofInt 64 15).toNat=2 ^ 4-1:=by decide
 have key:(BitVec.ofInt 64 n &&& BitVec.ofInt 64 15).toNat=(n%((2 ^ 64:Nat):Int)).toNat%2 ^ 4:=by
  rw [BitVec.toNat_and,BitVec.toNat_ofInt,h3,Nat.and_two_pow_sub_one_eq_mod]
 show IntKind.i64.wrap ((BitVec.ofInt 64 n &&& BitVec.ofInt 64 15).toNat:Nat)=n%16
 rw [key,IntKind.wrap_i64];omega
theorem zF (n:Int) (h1:-9223372036854775808≤n) (h2:n≤9223372036854775807):bits .or .i64 n 0=n:=by
 have key:(BitVec.ofInt 64 n ||| BitVec.ofInt 64 0).toNat=(n%((2 ^ 64:Nat):Int)).toNat:=by
  rw [show BitVec.ofInt 64 0=0#64 from by decide,BitVec.or_zero,BitVec.toNat_ofInt]
 show IntKind.i64.wrap ((BitVec.ofInt 64 n ||| BitVec.ofInt 64 0).toNat:Nat)=n
 rw [key,IntKind.wrap_i64];omega
theorem rK (n:Int) (h₀:0≤n) (h₁:n<2 ^ 63):IntKind.i64.wrap n=n:=by rw [IntKind.wrap_i64];omega
theorem uM (n:Int) (h1:0≤n) (h2:n<2305843009213693951):bits .or .i64 (n*4) 1=n*4+1:=
 bits_join .i64 63 (by decide) rK 2 (n*4) 1 (by omega) (by omega) (by omega) (by omega) (by omega) (by omega)
theorem kS (f k:Int) (h1:0≤f) (h2:f≤100) (h3:0≤k) (h4:k<16):bits .or .i64 (f*16) k=f*16+k:=
 bits_join .i64 63 (by decide) rK 4 (f*16) k (by omega) (by omega) (by omega) (by omega) (by omega) (by omega)
def cN:Int:=1152921504606846976
def fK (k n:Int):Int × Int:=
 if k=0 then if n=0 then (2,0) else (0,7)
 else if k=2 then if n=0 then (3,0) else (0,7)
 else if k=1 then if -cN≤n∧n<cN then (4*n,0) else (0,1)
 else if k=3 then if 0≤n∧n<cN then (4*n+1,0) else (0,1)
 else (0,2)
def fm (x:Int):Int × Int × Int:=
 if x%4=0 then if -cN≤x/4∧x/4<cN then (1,x/4,0) else (0,0,1)
 else if x%4=1 then if 0≤x/4∧x/4<cN then (3,x/4,0) else (0,0,1)
 else if x/4=0 then if x=2 then (0,0,0) else (2,0,0)
 else (0,0,7)
def bm (k f:Int):Bool:=((k == 1 || k == 3 || k == 4) && f == 2) || (k == 5 && f == 0) || (k == 2 && decide (0≤f) && decide (f≤12))
def jj (k f:Int):Int × Int:=if k<1∨5<k then (0,2) else if bm k f=true then (16*f+k,0) else (0,1)
def fq (h:Int):Int × Int × Int:=if bm (h%16) (h/16)=true then (h%16,h/16,0) else (0,0,7)
theorem bK {k f:Int} (h:bm k f=true):1≤k∧k≤5∧0≤f∧f≤12:=by
 simp [bm] at h;omega
theorem x8 {n:Int} (h:-1152921504606846976≤n∧n<1152921504606846976):fK 1 n=(4*n,0):=if_pos (c:=-cN≤n∧n<cN) h
theorem oS {n:Int} (h:¬ (-1152921504606846976≤n∧n<1152921504606846976)):fK 1 n=(0,1):=if_neg (c:=-cN≤n∧n<cN) h
theorem x9 {n:Int} (h:0≤n∧n<1152921504606846976):fK 3 n=(4*n+1,0):=if_pos (c:=0≤n∧n<cN) h
theorem oT {n:Int} (h:¬ (0≤n∧n<1152921504606846976)):fK 3 n=(0,1):=if_neg (c:=0≤n∧n<cN) h
theorem vE {k n:Int} (h0:k≠0) (h1:k≠1) (h2:k≠2) (h3:k≠3):fK k n=(0,2):=by
 unfold fK;rw [if_neg h0,if_neg h2,if_neg h1,if_neg h3]
theorem sK {x:Int} (h:x%4=0) (h1:-1152921504606846976≤x/4∧x/4<1152921504606846976):fm x=(1,x/4,0):=by
 unfold fm;rw [if_pos h,if_pos (show -cN≤x/4∧x/4<cN from h1)]
theorem oU {x:Int} (h:x%4=0) (h1:¬ (-1152921504606846976≤x/4∧x/4<1152921504606846976)):fm x=(0,0,1):=by
 unfold fm;rw [if_pos h,if_neg (show ¬ (-cN≤x/4∧x/4<cN) from h1)]
theorem yb {x:Int} (h:x%4=1) (h1:0≤x/4∧x/4<1152921504606846976):fm x=(3,x/4,0):=by
 unfold fm;rw [if_neg (by omega),if_pos h,if_pos (show 0≤x/4∧x/4<cN from h1)]
theorem oV {x:Int} (h:x%4=1) (h1:¬ (0≤x/4∧x/4<1152921504606846976)):fm x=(0,0,1):=by
 unfold fm;rw [if_neg (by omega),if_pos h,if_neg (show ¬ (0≤x/4∧x/4<cN) from h1)]
theorem wM {x:Int} (h0:x%4≠0) (h:x%4≠1) (h1:x/4≠0):fm x=(0,0,7):=by
 unfold fm;rw [if_neg h0,if_neg h,if_neg h1]
end
section
open Go.RowKit
theorem l9 {a b c d:Int} (h1:a=c) (h2:b=d):Ending.returned (.tuple #[.int .i64 a, .int .i64 b])=Ending.returned (.tuple #[.int .i64 c, .int .i64 d]):=by rw [h1,h2]
theorem sL (k n:Int) (w:World) (h1:-9223372036854775808≤n) (h2:n≤9223372036854775807) :
  Calls Tryz.prog 49 #[.agg #[.int .i64 k, .int .i64 n]] w fun e w'=>e=.returned (.tuple #[.int .i64 (fK k n).1, .int .i64 (fK k n).2])∧aa (fun _=>False) w w':=by
 by_cases k0:k=0
 ·subst k0;by_cases n0:n=0
  ·subst n0;go_enter Tryz.func49,Tryz.ntmps49
   go_wp2
   go_ret2;exact ⟨rfl,(aa.refl _ _).alloc _⟩
  ·have hz:(n != 0)=true:=by simpa using n0
   have he:fK 0 n=(0,7):=by simp [fK,n0]
   have HE:=Hz he;clear he n0;go_enter Tryz.func49,Tryz.ntmps49
   go_wp2
   go_ret2;exact ⟨by rw [HE.out];rfl,(aa.refl _ _).alloc _⟩
 by_cases k2:k=2
 ·subst k2;by_cases n0:n=0
  ·subst n0;go_enter Tryz.func49,Tryz.ntmps49
   go_wp2
   go_ret2;exact ⟨rfl,(aa.refl _ _).alloc _⟩
  ·have hz:(n != 0)=true:=by simpa using n0
   have he:fK 2 n=(0,7):=by simp [fK,n0]
   have HE:=Hz he;clear he n0;go_enter Tryz.func49,Tryz.ntmps49
   go_wp2
   go_ret2;exact ⟨by rw [HE.out];rfl,(aa.refl _ _).alloc _⟩
 by_cases k1:k=1
 ·subst k1;by_cases c1:n < -1152921504606846976
  ·have he:fK 1 n=(0,1):=oS (by omega);have HE:=Hz he;clear he;go_enter Tryz.func49,Tryz.ntmps49
   go_wp2
   go_ret2;exact ⟨by rw [HE.out];rfl,(aa.refl _ _).alloc _⟩
  by_cases c2:1152921504606846976≤n
  ·have he:fK 1 n=(0,1):=oS (by omega);have HE:=Hz he;clear he;go_enter Tryz.func49,Tryz.ntmps49
   go_wp2
   go_ret2;exact ⟨by rw [HE.out];rfl,(aa.refl _ _).alloc _⟩
  have he:fK 1 n=(4*n,0):=x8 (by omega);have HE:=Hz he;clear he;have hor:=zF (n*4) (by omega) (by omega);go_enter Tryz.func49,Tryz.ntmps49
  go_wp2
  go_ret2;exact ⟨by rw [HE.out];exact l9 (Int.mul_comm _ _) rfl,(aa.refl _ _).alloc _⟩
 by_cases k3:k=3
 ·subst k3;by_cases c1:n<0
  ·have he:fK 3 n=(0,1):=oT (by omega);have HE:=Hz he;clear he;go_enter Tryz.func49,Tryz.ntmps49
   go_wp2
   go_ret2;exact ⟨by rw [HE.out];rfl,(aa.refl _ _).alloc _⟩
  by_cases c2:1152921504606846976≤n
  ·have he:fK 3 n=(0,1):=oT (by omega);have HE:=Hz he;clear he;go_enter Tryz.func49,Tryz.ntmps49
   go_wp2
   go_ret2;exact ⟨by rw [HE.out];rfl,(aa.refl _ _).alloc _⟩
  have he:fK 3 n=(4*n+1,0):=x9 (by omega);have HE:=Hz he;clear he;have hor:=uM n (by omega) (by omega);go_enter Tryz.func49,Tryz.ntmps49
  go_wp2
  go_ret2;exact ⟨by rw [HE.out];exact l9 (by omega) rfl,(aa.refl _ _).alloc _⟩
 have e0:(k == 0)=false:=by simpa using k0
 have e1:(k == 1)=false:=by simpa using k1
 have e2:(k == 2)=false:=by simpa using k2
 have e3:(k == 3)=false:=by simpa using k3
 have he:fK k n=(0,2):=vE k0 k1 k2 k3;have HE:=Hz he;clear he k0 k1 k2 k3;go_enter Tryz.func49,Tryz.ntmps49
 go_wp2
 go_ret2;exact ⟨by rw [HE.out];rfl,(aa.refl _ _).alloc _⟩
theorem zn (x:Int) (w:World) (h1:0≤x) (h2:x<1152921504606846976) :
  Calls Tryz.prog 24 #[.int .i64 x] w fun e w'=>e=.returned (.int .i64 (4*x+1))∧w=w':=by
 have hor:=uM x (by omega) (by omega);go_enter Tryz.func24,Tryz.ntmps24
 go_wp2
 go_ret;exact ⟨cM (by omega),rfl⟩
theorem vF (w:World):Calls Tryz.prog 26 #[] w fun e w'=>e=.returned (.int .i64 2)∧w=w':=by
 go_enter Tryz.func26,Tryz.ntmps26
 go_wp2
 go_ret;exact ⟨rfl,rfl⟩
theorem sM (w:World):Calls Tryz.prog 128 #[] w fun e w'=>e=.returned (.int .i64 3)∧w=w':=by
 go_enter Tryz.func128,Tryz.ntmps128
 go_wp2
 go_ret;exact ⟨rfl,rfl⟩
theorem dz (x:Int) (w:World) (h:x%4=1) :
  Calls Tryz.prog 114 #[.int .i64 x] w fun e w'=>e=.returned (.tuple #[.int .i64 (x/4), .bool true])∧w=w':=by
 have ha:bits .and .i64 x 3=1:=by rw [pq,h]
 clear h;go_enter Tryz.func114,Tryz.ntmps114
 go_wp2
 go_ret2;exact ⟨rfl,rfl⟩
theorem lF (x:Int) (w:World) (h:x%4≠1) :
  Calls Tryz.prog 114 #[.int .i64 x] w fun e w'=>e=.returned (.tuple #[.int .i64 0, .bool false])∧w=w':=by
 have ha:(bits .and .i64 x 3 != 1)=true:=by rw [pq];simpa using h
 clear h;go_enter Tryz.func114,Tryz.ntmps114
 go_wp2
 go_ret2;exact ⟨rfl,rfl⟩
theorem jx {k n c:Int} {y:Int × Int × Int} (h:y=(k,n,c)) :
  Ending.returned (.tuple #[.agg #[.int .i64 k, .int .i64 n], .int .i64 c])=Ending.returned (.tuple #[.agg #[.int .i64 y.1, .int .i64 y.2.1], .int .i64 y.2.2]):=by subst h;rfl
theorem yc (x:Int) (w:World) (h1:-9223372036854775808≤x) (h2:x≤9223372036854775807) :
  Calls Tryz.prog 129 #[.int .i64 x] w fun e w'=>e=.returned (.tuple #[.agg #[.int .i64 (fm x).1, .int .i64 (fm x).2.1], .int .i64 (fm x).2.2])∧aa (fun _=>False) w w':=by
 have hm:=Hz (pq x);by_cases m0:x%4=0
 ·have ha:bits .and .i64 x 3=0:=by rw [hm.out,m0]
  by_cases c1:x/4 < -1152921504606846976
  ·have HE:=Hz (oU m0 (by omega));clear m0;go_enter Tryz.func129,Tryz.ntmps129
   go_wp2
   exact bodyPost_ret (v:=.tuple #[.agg #[.int .i64 0, .int .i64 0], .int .i64 1]) (by simp [results,Tryz.results129,go_sem]) rfl ⟨jx HE.out,(((aa.refl _ _).alloc _))⟩
  by_cases c2:1152921504606846976≤x/4
  ·have HE:=Hz (oU m0 (by omega));clear m0;go_enter Tryz.func129,Tryz.ntmps129
   go_wp2
   exact bodyPost_ret (v:=.tuple #[.agg #[.int .i64 0, .int .i64 0], .int .i64 1]) (by simp [results,Tryz.results129,go_sem]) rfl ⟨jx HE.out,(((aa.refl _ _).alloc _))⟩
  have HE:=Hz (sK m0 (by omega));clear m0;go_enter Tryz.func129,Tryz.ntmps129
  go_wp2
  exact bodyPost_ret (v:=.tuple #[.agg #[.int .i64 1, .int .i64 (x/4)], .int .i64 0]) (by simp [results,Tryz.results129,go_sem]) rfl ⟨jx HE.out,(((aa.refl _ _).alloc _))⟩
 by_cases m1:x%4=1
 ·have ha:bits .and .i64 x 3=1:=by rw [hm.out,m1]
  by_cases c1:x/4<0
  ·have HE:=Hz (oV m1 (by omega));clear m1;go_enter Tryz.func129,Tryz.ntmps129
   go_wp2
   exact bodyPost_ret (v:=.tuple #[.agg #[.int .i64 0, .int .i64 0], .int .i64 1]) (by simp [results,Tryz.results129,go_sem]) rfl ⟨jx HE.out,(((aa.refl _ _).alloc _))⟩
  by_cases c2:1152921504606846976≤x/4
  ·have HE:=Hz (oV m1 (by omega));clear m1;go_enter Tryz.func129,Tryz.ntmps129
   go_wp2
   exact bodyPost_ret (v:=.tuple #[.agg #[.int .i64 0, .int .i64 0], .int .i64 1]) (by simp [results,Tryz.results129,go_sem]) rfl ⟨jx HE.out,(((aa.refl _ _).alloc _))⟩
  have HE:=Hz (yb m1 (by omega));clear m1;go_enter Tryz.func129,Tryz.ntmps129
  go_wp2
  exact bodyPost_ret (v:=.tuple #[.agg #[.int .i64 3, .int .i64 (x/4)], .int .i64 0]) (by simp [results,Tryz.results129,go_sem]) rfl ⟨jx HE.out,(((aa.refl _ _).alloc _))⟩
 have ha0:(bits .and .i64 x 3 == 0)=false:=by rw [hm.out];simpa using m0
 have ha1:(bits .and .i64 x 3 == 1)=false:=by rw [hm.out];simpa using m1
 by_cases c1:x/4=0
 ·have h23:x=2∨x=3:=by omega
  clear m0 m1 ha0 ha1 c1 hm;rcases h23 with rfl | rfl
  ·go_enter Tryz.func129,Tryz.ntmps129
   go_wp2
   exact bodyPost_ret (v:=.tuple #[.agg #[.int .i64 0, .int .i64 0], .int .i64 0]) (by simp [results,Tryz.results129,go_sem]) rfl ⟨rfl,(((aa.refl _ _).alloc _))⟩
  ·go_enter Tryz.func129,Tryz.ntmps129
   go_wp2
   exact bodyPost_ret (v:=.tuple #[.agg #[.int .i64 2, .int .i64 0], .int .i64 0]) (by simp [results,Tryz.results129,go_sem]) rfl ⟨rfl,(((aa.refl _ _).alloc _))⟩
 ·have hz:(x/4 != 0)=true:=by simpa using c1
  have HE:=Hz (wM m0 m1 c1);clear m0 m1 c1;go_enter Tryz.func129,Tryz.ntmps129
  go_wp2
  exact bodyPost_ret (v:=.tuple #[.agg #[.int .i64 0, .int .i64 0], .int .i64 7]) (by simp [results,Tryz.results129,go_sem]) rfl ⟨jx HE.out,(((aa.refl _ _).alloc _))⟩
end
section
open Go.RowKit
theorem qd {k f:Int} (h:k<1∨5<k):jj k f=(0,2):=if_pos h
theorem jy {k f:Int} (h:1≤k∧k≤5) (hf:bm k f=false):jj k f=(0,1):=by
 unfold jj;rw [if_neg (by omega),if_neg (by simp [hf])]
theorem iV {k f:Int} (h:1≤k∧k≤5) (hf:bm k f=true):jj k f=(16*f+k,0):=by
 unfold jj;rw [if_neg (by omega),if_pos hf]
theorem ri {k f:Int} (hk:k=1∨k=3∨k=4):bm k f=(f == 2):=by
 rcases hk with rfl | rfl | rfl <;> simp [bm]
theorem zG {f:Int}:bm 5 f=(f == 0):=by simp [bm]
theorem nM {f:Int}:bm 2 f=(decide (0≤f) && decide (f≤12)):=by simp [bm]
theorem nN (k f:Int) (w:World) (h1:-9223372036854775808≤f) (h2:f≤9223372036854775807) :
  Calls Tryz.prog 138 #[.int .i64 k, .int .i64 f] w fun e w'=>e=.returned (.tuple #[.int .i64 (jj k f).1, .int .i64 (jj k f).2])∧w=w':=by
 by_cases c1:k<1
 ·have HE:=Hz (qd (f:=f) (.inl c1));go_enter Tryz.func138,Tryz.ntmps138
  go_wp2
  go_ret2;exact ⟨by rw [HE.out];rfl,rfl⟩
 by_cases c2:5<k
 ·have HE:=Hz (qd (f:=f) (.inr c2));go_enter Tryz.func138,Tryz.ntmps138
  go_wp2
  go_ret2;exact ⟨by rw [HE.out];rfl,rfl⟩
 have hk:k=1∨k=2∨k=3∨k=4∨k=5:=by omega
 clear c1 c2;rcases hk with rfl | rfl | rfl | rfl | rfl
 ·by_cases c:f=2
  ·subst c;have hor:=kS 2 1 (by omega) (by omega) (by omega) (by omega);have HE:=Hz (iV (k:=1) (f:=2) (by omega) (by decide));go_enter Tryz.func138,Tryz.ntmps138
   go_wp2
   go_ret2;exact ⟨by rw [HE.out];rfl,rfl⟩
  ·have hne:(f != 2)=true:=by simpa using c
   have HE:=Hz (jy (k:=1) (f:=f) (by omega) (by rw [ri (by omega)];simpa using c));clear c;go_enter Tryz.func138,Tryz.ntmps138
   go_wp2
   go_ret2;exact ⟨by rw [HE.out];rfl,rfl⟩
 ·by_cases c1:f<0
  ·have HE:=Hz (jy (k:=2) (f:=f) (by omega) (by rw [nM];simp;omega));go_enter Tryz.func138,Tryz.ntmps138
   go_wp2
   go_ret2;exact ⟨by rw [HE.out];rfl,rfl⟩
  by_cases c2:12<f
  ·have HE:=Hz (jy (k:=2) (f:=f) (by omega) (by rw [nM];simp;omega));go_enter Tryz.func138,Tryz.ntmps138
   go_wp2
   go_ret2;exact ⟨by rw [HE.out];rfl,rfl⟩
  have hor:=kS f 2 (by omega) (by omega) (by omega) (by omega);have HE:=Hz (iV (k:=2) (f:=f) (by omega) (by rw [nM];simp;omega));go_enter Tryz.func138,Tryz.ntmps138
  go_wp2
  go_ret2;exact ⟨by rw [HE.out];exact l9 (by omega) rfl,rfl⟩
 ·by_cases c:f=2
  ·subst c;have hor:=kS 2 3 (by omega) (by omega) (by omega) (by omega);have HE:=Hz (iV (k:=3) (f:=2) (by omega) (by decide));go_enter Tryz.func138,Tryz.ntmps138
   go_wp2
   go_ret2;exact ⟨by rw [HE.out];rfl,rfl⟩
  ·have hne:(f != 2)=true:=by simpa using c
   have HE:=Hz (jy (k:=3) (f:=f) (by omega) (by rw [ri (by omega)];simpa using c));clear c;go_enter Tryz.func138,Tryz.ntmps138
   go_wp2
   go_ret2;exact ⟨by rw [HE.out];rfl,rfl⟩
 ·by_cases c:f=2
  ·subst c;have hor:=kS 2 4 (by omega) (by omega) (by omega) (by omega);have HE:=Hz (iV (k:=4) (f:=2) (by omega) (by decide));go_enter Tryz.func138,Tryz.ntmps138
   go_wp2
   go_ret2;exact ⟨by rw [HE.out];rfl,rfl⟩
  ·have hne:(f != 2)=true:=by simpa using c
   have HE:=Hz (jy (k:=4) (f:=f) (by omega) (by rw [ri (by omega)];simpa using c));clear c;go_enter Tryz.func138,Tryz.ntmps138
   go_wp2
   go_ret2;exact ⟨by rw [HE.out];rfl,rfl⟩
 ·by_cases c:f=0
  ·subst c;have hor:=kS 0 5 (by omega) (by omega) (by omega) (by omega);have HE:=Hz (iV (k:=5) (f:=0) (by omega) (by decide));go_enter Tryz.func138,Tryz.ntmps138
   go_wp2
   go_ret2;exact ⟨by rw [HE.out];rfl,rfl⟩
  ·have hne:(f != 0)=true:=by simpa using c
   have HE:=Hz (jy (k:=5) (f:=f) (by omega) (by rw [zG];simpa using c));clear c;go_enter Tryz.func138,Tryz.ntmps138
   go_wp2
   go_ret2;exact ⟨by rw [HE.out];rfl,rfl⟩
theorem lG {a b c:Int} {y:Int × Int × Int} (h:y=(a,b,c)) :
  Ending.returned (.tuple #[.int .i64 a, .int .i64 b, .int .i64 c])=Ending.returned (.tuple #[.int .i64 y.1, .int .i64 y.2.1, .int .i64 y.2.2]):=by subst h;rfl
theorem rL {h:Int} (hf:bm (h%16) (h/16)=false):fq h=(0,0,7):=by unfold fq;rw [if_neg (by simp [hf])]
theorem vG {h:Int} (hf:bm (h%16) (h/16)=true):fq h=(h%16,h/16,0):=by unfold fq;rw [if_pos hf]
theorem qe {h:Int} (c:h<0∨207<h):fq h=(0,0,7):=by
 apply rL;cases hf:bm (h%16) (h/16)
 ·rfl
 ·have:=bK hf;omega
theorem qg {k f:Int} (h:bm k f=false):(jj k f).1=0∧((jj k f).2 != 0)=true:=by
 unfold jj;split
 ·exact ⟨rfl,rfl⟩
 ·rw [if_neg (by simp [h])];exact ⟨rfl,rfl⟩
theorem qh {k f:Int} (h:bm k f=true):jj k f=(16*f+k,0):=iV ⟨(bK h).1,(bK h).2.1⟩ h
theorem zH (h:Int) (w:World) (h1:-9223372036854775808≤h) (h2:h≤9223372036854775807) :
  Calls Tryz.prog 137 #[.int .i64 h] w fun e w'=>e=.returned (.tuple #[.int .i64 (fq h).1, .int .i64 (fq h).2.1, .int .i64 (fq h).2.2])∧w=w':=by
 by_cases c1:h<0
 ·have HE:=Hz (qe (.inl c1));go_enter Tryz.func137,Tryz.ntmps137;go_wp2_with fail
  go_ret3
  exact ⟨lG HE.out,rfl⟩
 by_cases c2:207<h
 ·have HE:=Hz (qe (.inr c2));go_enter Tryz.func137,Tryz.ntmps137;go_wp2_with fail
  go_ret3
  exact ⟨lG HE.out,rfl⟩
 have ha:=wL h;cases hf:bm (h%16) (h/16)
 ·have HE:=Hz (rL hf);have hc:=(qg hf).2;have HF:=Hz hf;clear hf;go_enter Tryz.func137,Tryz.ntmps137;go_wp2_with fail;refine (nN (h%16) (h/16) _ (by omega) (by omega)).mono ?_;rintro e w' ⟨rfl,rfl⟩;go_wp2_with fail
  go_ret3
  exact ⟨lG HE.out,rfl⟩
 ·have HE:=Hz (vG hf);have HC:=Hz (qh hf);have HF:=Hz hf;clear hf;go_enter Tryz.func137,Tryz.ntmps137;go_wp2_with fail;refine (nN (h%16) (h/16) _ (by omega) (by omega)).mono ?_;rintro e w' ⟨rfl,rfl⟩;rw [HC.out];go_wp2_with fail
  go_ret3
  exact ⟨lG HE.out,rfl⟩
end
section
def a9 (x:Int):Prop:=-9223372036854775808≤x∧x≤9223372036854775807
structure Ar where
 ws:List Int
 nur:Nat
 yng:Nat
 grn:Nat
structure Ar.ok (A:Ar):Prop where
 h1:A.yng≤A.nur
 h2:A.nur≤A.grn
 h3:A.grn≤A.ws.length
 h4:A.ws.length≤1280
 hw:∀ x ∈ A.ws,a9 x
def Ar.az (A:Ar) (i:Int):Bool:=decide (0≤i) && decide (i<A.yng)
def Ar.aI (A:Ar) (i:Int):Bool:=decide ((A.nur:Int)≤i) && decide (i<A.grn)
def Ar.aL (A:Ar) (i:Int):Bool:=A.az i || A.aI i
def Ar.load (A:Ar) (i:Int):Int:=if A.aL i then A.ws.getD i.toNat 0 else 0
def Ar.store (A:Ar) (i x:Int):Ar:=if A.aL i then { A with ws:=A.ws.set i.toNat x } else A
def Ar.oI (A:Ar) (n:Int):Int × Ar:=if 0≤n∧n≤(A.nur:Int)-A.yng then (A.yng, { A with yng:=A.yng+n.toNat }) else (-1,A)
def Ar.oJ (A:Ar) (n:Int):Int × Ar:=if 0≤n∧n≤(A.ws.length:Int)-A.grn then (A.grn, { A with grn:=A.grn+n.toNat }) else (-1,A)
def lay (l:List Int) (i:Nat) (m:List Int):List Int:=l.take i ++ m ++ l.drop (i+m.length)
theorem dQ {l m:List Int} {i:Nat} (h:i+m.length≤l.length):(lay l i m).length=l.length:=by
 unfold lay;simp only [List.length_append,List.length_take,List.length_drop];omega
theorem rj {l m:List Int} {i j:Nat} (h:i+m.length≤l.length):(lay l i m)[j]? = if i≤j∧j<i+m.length then m[j-i]? else l[j]? := by
 unfold lay;by_cases h1:j<i
 ·rw [List.append_assoc,List.getElem?_append_left (by simp;omega),List.getElem?_take,if_pos h1,if_neg (by omega)]
 ·by_cases h2:j<i+m.length
  ·rw [List.append_assoc,List.getElem?_append_right (by simp;omega),List.length_take,List.getElem?_append_left (by omega),if_pos ⟨by omega,h2⟩];congr 1;omega
  ·rw [List.getElem?_append_right (by simp;omega),if_neg (by omega),List.getElem?_drop,List.length_append,List.length_take];congr 1;omega
theorem jz {l m:List Int} {i j:Nat} (h:i+m.length≤l.length):(lay l i m).getD j 0=if i≤j∧j<i+m.length then m.getD (j-i) 0 else l.getD j 0:=by
 simp only [Ld,rj h];split <;> rfl
theorem oK {l m:List Int} {i:Nat} {x:Int} (h:x ∈ lay l i m):x ∈ l∨x ∈ m:=by
 unfold lay at h;simp only [List.mem_append] at h;rcases h with (h | h) | h
 ·exact .inl (List.mem_of_mem_take h)
 ·exact .inr h
 ·exact .inl (List.mem_of_mem_drop h)
def ft (k f:Int):List Int:=(16*f+k) :: List.replicate f.toNat 2
def Ar.make (A:Ar) (k f:Int):Int × Ar:=
 if bm k f=true∧1+f≤(A.nur:Int)-A.yng then (A.yng, { A with yng:=A.yng+(1+f).toNat,ws:=lay A.ws A.yng (ft k f) }) else (-1,A)
theorem Ar.uN {A:Ar} {k f:Int} (h:¬ (bm k f=true∧1+f≤(A.nur:Int)-A.yng)):A.make k f=(-1,A):=if_neg h
theorem Ar.pt {A:Ar} {k f:Int} (h:bm k f=true∧1+f≤(A.nur:Int)-A.yng):A.make k f=((A.yng:Int), { A with yng:=A.yng+(1+f).toNat,ws:=lay A.ws A.yng (ft k f) }):=if_pos h
def Ar.ai (A:Ar) (i:Int):Int × Int × Int:=fq (A.load i)
def Ar.whole (A:Ar) (i n:Int):Bool:=(A.az i && A.az (i+n)) || (A.aI i && A.aI (i+n))
def Ar.copy (A:Ar) (i:Int):Int × Ar:=
 let n:=(A.ai i).2.1
 if (A.ai i).2.2=0∧A.whole i n=true∧1+n≤(A.ws.length:Int)-A.grn then
  (A.grn, { A with grn:=A.grn+(1+n).toNat,ws:=lay A.ws A.grn ((A.ws.drop i.toNat).take (1+n).toNat) })
 else (-1,A)
theorem Ar.zI {A:Ar} {i:Int} (h:¬ ((A.ai i).2.2=0∧A.whole i (A.ai i).2.1=true∧1+(A.ai i).2.1≤(A.ws.length:Int)-A.grn)):A.copy i=(-1,A):=if_neg h
theorem Ar.sN {A:Ar} {i:Int} (h:(A.ai i).2.2=0∧A.whole i (A.ai i).2.1=true∧1+(A.ai i).2.1≤(A.ws.length:Int)-A.grn) :
  A.copy i=((A.grn:Int), { A with grn:=A.grn+(1+(A.ai i).2.1).toNat,ws:=lay A.ws A.grn ((A.ws.drop i.toNat).take (1+(A.ai i).2.1).toNat) }):=if_pos h
def Ar.clear (A:Ar):Ar:={ A with yng:=0 }
def Ar.cut (A:Ar) (n:Nat):Ar:={ A with grn:=A.nur+n }
theorem Ar.ok.mC {A:Ar} (h:A.ok) {i:Int} (hy:A.az i=true):0≤i∧i<A.ws.length:=by
 have:=h.h1;have:=h.h2;have:=h.h3;simp [Ar.az] at hy;omega
theorem Ar.ok.qi {A:Ar} (h:A.ok) {i:Int} (hy:A.aI i=true):0≤i∧i<A.ws.length:=by
 have:=h.h3;simp [Ar.aI] at hy;omega
theorem Ar.ok.jk {A:Ar} (h:A.ok) {i:Int} (hy:A.aL i=true):0≤i∧i<A.ws.length:=by
 unfold Ar.aL at hy;rw [Bool.or_eq_true] at hy;rcases hy with hy | hy
 ·exact h.mC hy
 ·exact h.qi hy
theorem Ar.ok.load {A:Ar} (h:A.ok) (i:Int):a9 (A.load i):=by
 unfold Ar.load;split
 ·rename_i hu;have:=h.jk hu;have hi:i.toNat<A.ws.length:=by omega
  rw [Ld,Le hi];exact h.hw _ (List.getElem_mem hi)
 ·unfold a9;omega
theorem Ar.ok.store {A:Ar} (h:A.ok) (i x:Int) (hx:a9 x):(A.store i x).ok:=by
 unfold Ar.store;split
 ·refine ⟨h.h1,h.h2,by simpa using h.h3,by simpa using h.h4,fun y hy=>?_⟩;rcases List.mem_or_eq_of_mem_set hy with h1 | rfl
  ·exact h.hw y h1
  ·exact hx
 ·exact h
theorem Ar.nO {A:Ar} {i:Int} (h:(A.ai i).2.2=0):A.aL i=true:=by
 cases hu:A.aL i
 ·have:A.load i=0:=by unfold Ar.load;rw [hu];simp
  unfold Ar.ai at h;rw [this] at h;exact absurd h (by decide)
 ·rfl
theorem Ar.aO (A:Ar) (i:Int):0≤(A.ai i).2.1∧(A.ai i).2.1≤12:=by
 unfold Ar.ai fq;split
 ·rename_i h;have:=bK h;exact ⟨this.2.2.1,this.2.2.2⟩
 ·decide
theorem j9 {k f:Int} (h:0≤f):(ft k f).length=(1+f).toNat:=by
 unfold ft;simp;omega
theorem Ar.ok.make {A:Ar} (h:A.ok) (k f:Int):(A.make k f).2.ok:=by
 unfold Ar.make;split
 ·rename_i hc;have hf:=bK hc.1;have hl:=j9 (k:=k) hf.2.2.1;have:=h.h1;have:=h.h2;have:=h.h3;have:=h.h4;have hlay:(lay A.ws A.yng (ft k f)).length=A.ws.length:=dQ (by omega);refine ⟨?_,h.h2,?_,?_,fun x hx=>?_⟩
  ·show A.yng+(1+f).toNat≤A.nur;omega
  ·show A.grn≤(lay _ _ _).length;rw [hlay];exact h.h3
  ·show (lay _ _ _).length≤1280;rw [hlay];exact h.h4
  ·rcases oK hx with h1 | h1
   ·exact h.hw x h1
   ·unfold ft at h1;simp only [List.mem_cons,List.mem_replicate] at h1;unfold a9;rcases h1 with h1 | h1 <;> omega
 ·exact h
theorem Ar.kx {A:Ar} (h:A.ok) {i n:Int} (hn:0≤n) (hw:A.whole i n=true):0≤i∧i+n<A.ws.length:=by
 unfold Ar.whole at hw;simp only [Bool.or_eq_true,Bool.and_eq_true] at hw;rcases hw with ⟨h1,h2⟩ | ⟨h1,h2⟩
 ·exact ⟨(h.mC h1).1,(h.mC h2).2⟩
 ·exact ⟨(h.qi h1).1,(h.qi h2).2⟩
theorem Ar.ok.copy {A:Ar} (h:A.ok) (i:Int):(A.copy i).2.ok:=by
 unfold Ar.copy;dsimp only;split
 ·rename_i hc;have hf:=A.aO i;have hs:=Ar.kx h hf.1 hc.2.1;have:=h.h1;have:=h.h2;have:=h.h3;have:=h.h4;have hl:((A.ws.drop i.toNat).take (1+(A.ai i).2.1).toNat).length=(1+(A.ai i).2.1).toNat:=by simp;omega
  have hlay:(lay A.ws A.grn ((A.ws.drop i.toNat).take (1+(A.ai i).2.1).toNat)).length=A.ws.length:=dQ (by omega);refine ⟨h.h1,?_,?_,?_,fun x hx=>?_⟩
  ·show A.nur≤A.grn+_;omega
  ·show A.grn+_≤(lay _ _ _).length;rw [hlay];omega
  ·show (lay _ _ _).length≤1280;rw [hlay];exact h.h4
  ·rcases oK hx with h1 | h1
   ·exact h.hw x h1
   ·exact h.hw x (List.mem_of_mem_drop (List.mem_of_mem_take h1))
 ·exact h
theorem Ar.ok.clear {A:Ar} (h:A.ok):A.clear.ok:=⟨Nat.zero_le _,h.h2,h.h3,h.h4,h.hw⟩
theorem Ar.ok.cut {A:Ar} (h:A.ok) {n:Nat} (hn:A.nur+n≤A.ws.length):(A.cut n).ok:=⟨h.h1,Nat.le_add_right _ _,hn,h.h4,h.hw⟩
def Ar.fits (n o:Int):Bool:=decide (16≤n) && decide (n≤256) && decide (0≤o) && decide (o≤1024)
def Ar.new (n o:Int):Ar:=⟨List.replicate (n+o).toNat 0,n.toNat,0,n.toNat⟩
theorem Ar.jX {n o:Int} (h:Ar.fits n o=true):(Ar.new n o).ok:=by
 simp [Ar.fits] at h;refine ⟨Nat.zero_le _,Nat.le_refl _,?_,?_,fun x hx=>?_⟩
 ·simp [Ar.new];omega
 ·simp [Ar.new];omega
 ·simp [Ar.new] at hx;unfold a9;omega
def Ar.list (A:Ar):Nat→Int→Int→List Int
 | 0,_,_=>[]
 | n+1,at_,e_=>if at_<e_ then (if (A.ai at_).2.2=0 then at_ :: A.list n (at_+1+(A.ai at_).2.1) e_ else []) else []
theorem Ar.gW (A:Ar):∀ (n:Nat) (i j:Int),(A.list n i j).length≤n
 | 0,_,_=>Nat.le_refl _
 | n+1,i,j=>by
  unfold Ar.list;split
  ·split
   ·simp;exact A.gW n _ _
   ·exact Nat.zero_le _
  ·exact Nat.zero_le _
theorem Ar.rM {A:Ar} {n:Nat} {i j:Int} (h:i<j) (hc:(A.ai i).2.2=0):A.list (n+1) i j=i :: A.list n (i+1+(A.ai i).2.1) j:=by
 rw [Ar.list,if_pos h,if_pos hc]
theorem Ar.px {A:Ar} {n:Nat} {i j:Int} (h:¬ (i<j∧(A.ai i).2.2=0)):A.list n i j=[]:=by
 cases n with
 | zero=>rfl
 | succ n=>
  rw [Ar.list];by_cases h1:i<j
  ·rw [if_pos h1,if_neg (fun h2=>h ⟨h1,h2⟩)]
  ·rw [if_neg h1]
def Ar.aN (A:Ar):List Int × List Int:=(A.list 1300 0 A.yng,A.list 1300 A.nur A.grn)
end
section
open Go.RowKit
structure bC (w:World) (p g:Nat) (A:Ar):Prop where
 hp:aj w p [.slice (some ⟨g,0,none⟩) A.ws.length A.ws.length, .int .i64 A.nur, .int .i64 A.yng, .int .i64 A.grn] 141
 hg:aj w g (A.ws.map (Value.int .i64)) 2
 ok:A.ok
theorem bC.ne {w:World} {p g:Nat} {A:Ar} (h:bC w p g A):p≠g:=h.hp.ne h.hg (by decide)
theorem bC.ab {w w':World} {p g:Nat} {A:Ar} {S:Nat→Prop} (h:bC w p g A) (k:aa S w w') (h1:¬ S p) (h2:¬ S g):bC w' p g A:=
 ⟨k.aq h.hp h1,k.aq h.hg h2,h.ok⟩
theorem bC.cells {w:World} {p g:Nat} {A:Ar} (h:bC w p g A) :
  w.cell? ⟨p,0,none⟩=some (.slice (some ⟨g,0,none⟩) A.ws.length A.ws.length)∧w.cell? ⟨p,1,none⟩=some (.int .i64 A.nur)∧w.cell? ⟨p,2,none⟩=some (.int .i64 A.yng)∧w.cell? ⟨p,3,none⟩=some (.int .i64 A.grn):=
 ⟨h.hp.cell 0,h.hp.cell 1,h.hp.cell 2,h.hp.cell 3⟩
theorem bC.word {w:World} {p g:Nat} {A:Ar} (h:bC w p g A) (i:Nat) (hi:i<A.ws.length):w.cell? ⟨g,i,none⟩=some (.int .i64 (A.ws.getD i 0)):=by
 rw [h.hg.cell i,List.getElem?_map,Le hi];simp [List.getD,hi]
structure aT (w:World) (p g:Nat) (w':World) (A:Ar):Prop where
 at_:bC w' p g A
 k:aa (fun b=>b=p∨b=g) w w'
section
variable {p g:Nat} {A:Ar}
theorem cO (i:Int) (w:World) (h:bC w p g A) :
  Calls Tryz.prog 84 #[.pointer (some ⟨p,0,none⟩), .int .i64 i] w fun e w'=>e=.returned (.bool (A.az i))∧w=w':=by
 obtain ⟨c0,c1,c2,c3⟩:=h.cells;have pl:=h.hp.lt;have HY:Hid (A.az i=(decide (0≤i) && decide (i<A.yng))):=rfl;clear h c0 c1 c3;by_cases hi:0≤i
 ·have hd:decide (0≤i)=true:=by simpa using hi
  have HX:=Hz (show A.az i=decide (i<(A.yng:Int)) by rw [HY.out,hd];rfl);clear HY;go_enter Tryz.func84,Tryz.ntmps84;go_wp2_with fail;go_ret;exact ⟨db HX.out.symm,rfl⟩
 ·have hd:decide (0≤i)=false:=by simpa using hi
  have HX:=Hz (show A.az i=false by rw [HY.out,hd];rfl);clear HY;go_enter Tryz.func84,Tryz.ntmps84;go_wp2_with fail;go_ret;exact ⟨db HX.out.symm,rfl⟩
theorem iG (i:Int) (w:World) (h:bC w p g A) :
  Calls Tryz.prog 85 #[.pointer (some ⟨p,0,none⟩), .int .i64 i] w fun e w'=>e=.returned (.bool (A.aI i))∧w=w':=by
 obtain ⟨c0,c1,c2,c3⟩:=h.cells;have pl:=h.hp.lt;have HY:Hid (A.aI i=(decide ((A.nur:Int)≤i) && decide (i<A.grn))):=rfl;clear h c0 c2;by_cases hi:(A.nur:Int)≤i
 ·have hd:decide ((A.nur:Int)≤i)=true:=by simpa using hi
  have HX:=Hz (show A.aI i=decide (i<(A.grn:Int)) by rw [HY.out,hd];rfl);clear HY;go_enter Tryz.func85,Tryz.ntmps85;go_wp2_with fail;go_ret;exact ⟨db HX.out.symm,rfl⟩
 ·have hd:decide ((A.nur:Int)≤i)=false:=by simpa using hi
  have HX:=Hz (show A.aI i=false by rw [HY.out,hd];rfl);clear HY;go_enter Tryz.func85,Tryz.ntmps85;go_wp2_with fail;go_ret;exact ⟨db HX.out.symm,rfl⟩
theorem kT (w:World) (h:bC w p g A) :
  Calls Tryz.prog 21 #[.pointer (some ⟨p,0,none⟩)] w fun e w'=>e=.returned (.tuple #[.int .i64 A.yng, .int .i64 ((A.grn-A.nur:Nat):Int)])∧aa (fun _=>False) w w':=by
 obtain ⟨c0,c1,c2,c3⟩:=h.cells;have pl:=h.hp.lt;have o1:=h.ok.h1;have o2:=h.ok.h2;have o3:=h.ok.h3;have o4:=h.ok.h4;have hs:IntKind.i64.wrap ((A.grn:Int)-A.nur)=(A.grn:Int)-A.nur:=IntWalk.i64_in _ (by omega);go_enter Tryz.func21,Tryz.ntmps21;go_wp2_with fail;refine a8 (.free 0 (.free 1 (.free 2 (.free 4 (.free 5 (.free 6 (.free 8 (.free 9 (.free 10 (.pure 3 (.free 13 (.pure 7 (.pure 11 (.free 12 (.free 14 (.fin)))))))))))))))) [] (Fz c1 (Fz c2 (Fa c3))) ?_
 iterate 15 refine Wz ?_
 refine av ?_;go_wp2_with fail;go_ret2;exact ⟨l9 rfl (by omega),(aa.refl _ _).drew⟩
theorem jY (w:World) (h:bC w p g A) :
  Calls Tryz.prog 52 #[.pointer (some ⟨p,0,none⟩)] w fun e w'=>e=.returned (.tuple #[.int .i64 ((A.nur-A.yng:Nat):Int), .int .i64 ((A.ws.length-A.grn:Nat):Int)])∧aa (fun _=>False) w w':=by
 obtain ⟨c0,c1,c2,c3⟩:=h.cells;have pl:=h.hp.lt;have o1:=h.ok.h1;have o2:=h.ok.h2;have o3:=h.ok.h3;have o4:=h.ok.h4;have hs:IntKind.i64.wrap ((A.nur:Int)-A.yng)=(A.nur:Int)-A.yng:=IntWalk.i64_in _ (by omega);have hs2:IntKind.i64.wrap ((A.ws.length:Int)-A.grn)=(A.ws.length:Int)-A.grn:=IntWalk.i64_in _ (by omega);go_enter Tryz.func52,Tryz.ntmps52;go_wp2_with fail;refine a8 (.free 0 (.free 1 (.free 2 (.free 4 (.free 5 (.free 6 (.free 9 (.free 10 (.free 11 (.free 14 (.free 15 (.free 16 (.pure 3 (.pure 7 (.free 8 (.free 19 (.pure 12 (.free 13 (.pure 17 (.free 18 (.free 20 (.fin)))))))))))))))))))))) [] (Fz c0 (Fz c1 (Fz c2 (Fa c3)))) ?_
 iterate 21 refine Wz ?_
 refine av ?_;go_wp2_with fail;go_ret2;exact ⟨l9 (by omega) (by omega),(aa.refl _ _).drew⟩
theorem eM (i:Int) (w:World) (h:bC w p g A) :
  Calls Tryz.prog 86 #[.pointer (some ⟨p,0,none⟩), .int .i64 i] w fun e w'=>e=.returned (.int .i64 (A.load i))∧w=w':=by
 have H:=Hz h;obtain ⟨c0,-,-,-⟩:=h.cells;have pl:=h.hp.lt;have hok:=h.ok;cases hy:A.az i
 ·cases ho:A.aI i
  ·have HX:=Hz (show A.load i=0 by unfold Ar.load Ar.aL;rw [hy,ho];rfl);clear h c0;go_enter Tryz.func86,Tryz.ntmps86;go_wp2_with fail;refine (cO i _ H.out).mono ?_;rintro e w1 ⟨rfl,rfl⟩;rw [hy];go_wp2_with fail;refine (iG i _ H.out).mono ?_;rintro e w1 ⟨rfl,rfl⟩;rw [ho];go_wp2_with fail;go_ret;exact ⟨cM HX.out.symm,rfl⟩
  ·have hlt:=h.ok.qi ho;have HX:=Hz (show A.load i=A.ws.getD i.toNat 0 by unfold Ar.load Ar.aL;rw [hy,ho];rfl);obtain ⟨n,rfl⟩:∃ n:Nat,i=n:=⟨i.toNat,by omega⟩;have c4:=h.word n (by omega);have hlt2:(n:Int)<A.ws.length:=hlt.2;clear h hlt;go_enter Tryz.func86,Tryz.ntmps86;go_wp2_with fail;refine (cO n _ H.out).mono ?_;rintro e w1 ⟨rfl,rfl⟩;rw [hy];go_wp2_with fail;refine (iG n _ H.out).mono ?_;rintro e w1 ⟨rfl,rfl⟩;rw [ho];go_wp2_with fail;go_ret;exact ⟨cM (by rw [HX.out];simp),rfl⟩
 ·have hlt:=h.ok.mC hy;have HX:=Hz (show A.load i=A.ws.getD i.toNat 0 by unfold Ar.load Ar.aL;rw [hy];rfl);obtain ⟨n,rfl⟩:∃ n:Nat,i=n:=⟨i.toNat,by omega⟩;have c4:=h.word n (by omega);have hlt2:(n:Int)<A.ws.length:=hlt.2;clear h hlt;go_enter Tryz.func86,Tryz.ntmps86;go_wp2_with fail;refine (cO n _ H.out).mono ?_;rintro e w1 ⟨rfl,rfl⟩;rw [hy];go_wp2_with fail;go_ret;exact ⟨cM (by rw [HX.out];simp),rfl⟩
theorem bC.set {w:World} (h:bC w p g A) {n:Nat} (x:Int) (hx:a9 x) (hu:A.aL n=true):aT w p g (w.setCell ⟨g,n,none⟩ (.int .i64 x)) (A.store n x):=by
 have hs:A.store n x={ A with ws:=A.ws.set n x }:=by unfold Ar.store;rw [hu];simp
 refine ⟨⟨?_,?_,h.ok.store _ _ hx⟩,(aa.refl _ _).setCell (.inl (.inr rfl)) _⟩
 ·have:=h.hp.dO (a:=⟨g,n,none⟩) h.ne (.int .i64 x);rw [hs];simpa using this
 ·have:=h.hg.aG n (.int .i64 x);rw [hs,List.map_set];exact this
theorem gI (i x:Int) (w:World) (h:bC w p g A) (hx:a9 x) :
  Calls Tryz.prog 23 #[.pointer (some ⟨p,0,none⟩), .int .i64 i, .int .i64 x] w fun e w'=>e=.returned (.bool (A.aL i))∧aT w p g w' (A.store i x):=by
 have H:=Hz h;obtain ⟨c0,-,-,-⟩:=h.cells;have pl:=h.hp.lt;have HX:=Hz hx;clear hx;cases hu:A.aL i
 ·have hyo:=hu;unfold Ar.aL at hyo;rw [Bool.or_eq_false_iff] at hyo;obtain ⟨hy,ho⟩:=hyo;have HE:=Hz (show A.store i x=A by unfold Ar.store;rw [hu];rfl);clear h hu;go_enter Tryz.func23,Tryz.ntmps23;go_wp2_with fail;refine (cO i _ H.out).mono ?_;rintro e w1 ⟨rfl,rfl⟩;rw [hy];go_wp2_with fail;refine (iG i _ H.out).mono ?_;rintro e w1 ⟨rfl,rfl⟩;rw [ho];go_wp2_with fail;go_ret;exact ⟨rfl,by rw [HE.out];exact H.out,aa.refl _ _⟩
 ·have hlt:=h.ok.jk hu;have HU:=Hz hu;obtain ⟨n,rfl⟩:∃ n:Nat,i=n:=⟨i.toNat,by omega⟩;have c4:=h.word n (by omega);have f4:=h.hg.free n;have hlt2:(n:Int)<A.ws.length:=hlt.2;clear h hlt;cases hy:A.az n
  ·have ho:A.aI n=true:=by
    unfold Ar.aL at hu;rw [hy] at hu;simpa using hu
   clear hu;go_enter Tryz.func23,Tryz.ntmps23;go_wp2_with fail;refine (cO n _ H.out).mono ?_;rintro e w1 ⟨rfl,rfl⟩;rw [hy];go_wp2_with fail;refine (iG n _ H.out).mono ?_;rintro e w1 ⟨rfl,rfl⟩;rw [ho];go_wp2_with fail;go_ret;exact ⟨rfl,H.out.set x HX.out HU.out⟩
  ·clear hu;go_enter Tryz.func23,Tryz.ntmps23;go_wp2_with fail;refine (cO n _ H.out).mono ?_;rintro e w1 ⟨rfl,rfl⟩;rw [hy];go_wp2_with fail;go_ret;exact ⟨rfl,H.out.set x HX.out HU.out⟩
theorem gJ (i:Int) (w:World) (h:bC w p g A) :
  Calls Tryz.prog 79 #[.pointer (some ⟨p,0,none⟩), .int .i64 i] w fun e w'=>e=.returned (.tuple #[.int .i64 (A.ai i).1, .int .i64 (A.ai i).2.1, .int .i64 (A.ai i).2.2])∧w=w':=by
 go_enter Tryz.func79,Tryz.ntmps79;go_wp2_with fail;refine (eM i _ h).mono ?_;rintro e w1 ⟨rfl,rfl⟩;have hr:=h.ok.load i;go_wp2_with fail;refine (zH (A.load i) _ hr.1 hr.2).mono ?_;rintro e w1 ⟨rfl,rfl⟩;go_wp2_with fail
 go_ret3
 exact ⟨rfl,rfl⟩
theorem sO (w:World) (h:bC w p g A) :
  Calls Tryz.prog 64 #[.pointer (some ⟨p,0,none⟩)] w fun e w'=>e=.returned (.tuple #[])∧aT w p g w' A.clear:=by
 have H:=Hz h;obtain ⟨-,-,c2,-⟩:=h.cells;have f2:=h.hp.free 2;have pl:=h.hp.lt;clear h;go_enter Tryz.func64,Tryz.ntmps64;go_wp2_with fail;go_end0;refine ⟨rfl,⟨?_,?_,H.out.ok.clear⟩,(aa.refl _ _).setCell (.inl (.inl rfl)) _⟩
 ·simpa [Ar.clear] using H.out.hp.aG 2 (.int .i64 0)
 ·exact H.out.hg.dO (a:=⟨p,2,none⟩) (Ne.symm H.out.ne) _
theorem AU (n:Nat) (w:World) (h:bC w p g A) (hn:A.nur+n≤A.ws.length) :
  Calls Tryz.prog 81 #[.pointer (some ⟨p,0,none⟩), .int .i64 n] w fun e w'=>e=.returned (.tuple #[])∧aT w p g w' (A.cut n):=by
 have H:=Hz h;obtain ⟨-,c1,-,c3⟩:=h.cells;have f3:=h.hp.free 3;have pl:=h.hp.lt;have o4:=h.ok.h4;clear h;go_enter Tryz.func81,Tryz.ntmps81;go_wp2_with fail;go_end0;refine ⟨rfl,⟨?_,?_,H.out.ok.cut hn⟩,(aa.refl _ _).setCell (.inl (.inl rfl)) _⟩
 ·simpa [Ar.cut] using H.out.hp.aG 3 (.int .i64 ((A.nur:Int)+n))
 ·exact H.out.hg.dO (a:=⟨p,3,none⟩) (Ne.symm H.out.ne) _
end
end
section
open Go.RowKit
theorem nP {P:Program} {w:World} {o:Oper} {a:Act} {K:Act→World→Prop} (d s:Operand) (t:TypeId)
  (ho:o.op=.call { callee:=.builtin .copy,args:=#[d,s],argTypes:=#[t,t] })
  (e:TypeId) (hu:P.underlying t=some (.slice e)) (hsz:(P.info? e).map (·.size)=some 1)
  (g off dLen dCap:Nat) (ad:Addr) (sLen sCap:Nat) (hd:a.eval d=.slice (some ⟨g,off,none⟩) dLen dCap) (hs:a.eval s=.slice (some ad) sLen sCap)
  (cur:List Value) (hb:aj w g cur e) (cs:List Value) (hn:cs.length=Nat.min sLen dLen)
  (hsrc:∀ j v,cs[j]? = some v→w.cell? (ad.add j)=some v) (hfit:off+cs.length≤cur.length) (h1:∀ v ∈ cs,v.oneCell'=true)
  (h:K (a.put o.dst (goInt cs.length)) (w.setRow g (cur.take off ++ cs ++ cur.drop (off+cs.length)).toArray)):aw P o a w K:=by
 have hrun:=run_copy_row (P:=P) w t t o.type e g off dLen dCap ad sLen sCap cur.toArray e cs hu hsz hb hn hsrc (by simpa using hfit) h1;unfold aw execOp;simp only [ho,resolve,invoke,builtin,Sem.run_bind,Sem.run_pure,Result.andThen_ok,List.map_toArray,List.map_cons,List.map_nil,hd,hs,hrun];exact h
theorem uO {l m:List Int} {i:Nat} (f:Int→Value):(lay l i m).map f=(l.map f).take i ++ m.map f ++ (l.map f).drop (i+(m.map f).length):=by
 unfold lay;simp [List.map_take,List.map_drop]
theorem zJ {l:List Int} {i j:Nat} {h:Int} (hl:i+1+j<l.length):(lay l i (h :: List.replicate j 2)).set (i+1+j) 2=lay l i (h :: List.replicate (j+1) 2):=by
 apply List.ext_getElem?;intro k;have e1:(h :: List.replicate j (2:Int)).length=j+1:=by simp
 have e2:(h :: List.replicate (j+1) (2:Int)).length=j+2:=by simp
 have hl1:(lay l i (h :: List.replicate j 2)).length=l.length:=dQ (by rw [e1];omega);rw [List.getElem?_set,rj (by rw [e1];omega),rj (by rw [e2];omega),e1,e2,hl1];by_cases hk:i+1+j=k
 ·subst hk;rw [if_pos rfl,if_pos hl,if_pos (by omega)];rw [show i+1+j-i=j+1 by omega,aC,List.getElem?_replicate,if_pos (by omega)]
 ·rw [if_neg hk];by_cases h2:i≤k∧k<i+(j+1)
  ·rw [if_pos h2,if_pos (by omega)];obtain ⟨m,rfl⟩:∃ m,k=i+m:=⟨k-i,by omega⟩;rw [show i+m-i=m by omega];cases m with
   | zero=>rfl
   | succ m=>rw [aC,aC,List.getElem?_replicate,List.getElem?_replicate,if_pos (by omega),if_pos (by omega)]
  ·rw [if_neg h2,if_neg (by omega)]
theorem zK {l:List Int} {i:Nat} {h:Int} (hl:i<l.length):l.set i h=lay l i [h]:=by
 unfold lay;rw [List.set_eq_take_append_cons_drop,if_pos hl];simp
theorem aa.self {S:Nat→Prop} {w w':World} (h:aa (fun _=>False) w w'):aa S w w':=h.mono fun _ _ h=>h.elim
section
variable {p g:Nat} {A:Ar}
theorem aT.refl {w w':World} (h:bC w p g A) (k:aa (fun _=>False) w w'):aT w p g w' A:=⟨h.ab k (fun h=>h) (fun h=>h),k.self⟩
theorem aT.trans {w w1 w2:World} {B C:Ar} (h:aT w p g w1 B) (k:aT w1 p g w2 C):aT w p g w2 C:=⟨k.at_,h.k.trans k.k⟩
theorem uP (n:Int) (w:World) (h:bC w p g A) (h0:0≤n) (h1:n≤1000) :
  Calls Tryz.prog 139 #[.pointer (some ⟨p,0,none⟩), .int .i64 n, .bool false] w fun e w'=>e=.returned (.int .i64 (A.oI n).1)∧aT w p g w' (A.oI n).2:=by
 have H:=Hz h;have o1:=h.ok.h1;have o2:=h.ok.h2;have o3:=h.ok.h3;have o4:=h.ok.h4;have hn:decide ((0:Int)≤n)=true:=by simpa using h0
 clear h;by_cases hc:n≤((A.nur-A.yng:Nat):Int)
 ·have hcb:decide (n≤((A.nur-A.yng:Nat):Int))=true:=by simpa using hc
  have HE:=Hz (show A.oI n=((A.yng:Int), { A with yng:=A.yng+n.toNat }) from if_pos ⟨h0,by omega⟩);go_enter Tryz.func139,Tryz.ntmps139;go_wp2_with fail;refine (jY _ H.out).mono ?_;rintro e w1 ⟨rfl,hk⟩;have H1:=Hz (H.out.ab hk (fun h=>h) (fun h=>h));have HK:=Hz hk;obtain ⟨-,-,c2,-⟩:=H1.out.cells;have f2:=H1.out.hp.free 2;have pl:=H1.out.hp.lt;clear hk;go_wp2_with fail;go_ret;refine ⟨by rw [HE.out];exact cM (by dsimp only;try omega),?_⟩;rw [HE.out];refine ⟨⟨?_,?_,?_⟩,(HK.out.self).setCell (p:=⟨p,2,none⟩) (.inl (.inl rfl)) _⟩
  ·have:=H1.out.hp.aG 2 (.int .i64 ((A.yng:Int)+n));have e:((A.yng:Int)+n)=((A.yng+n.toNat:Nat):Int):=by omega
   rw [e] at this ⊢;simpa using this
  ·exact H1.out.hg.dO (a:=⟨p,2,none⟩) (Ne.symm H.out.ne) _
  ·exact ⟨by show A.yng+n.toNat≤A.nur;omega,o2,o3,o4,H.out.ok.hw⟩
 ·have hcb:decide (n≤((A.nur-A.yng:Nat):Int))=false:=by simpa using hc
  have HE:=Hz (show A.oI n=(-1,A) from if_neg (by omega));go_enter Tryz.func139,Tryz.ntmps139;go_wp2_with fail;refine (jY _ H.out).mono ?_;rintro e w1 ⟨rfl,hk⟩;go_wp2_with fail;go_ret;refine ⟨by rw [HE.out];rfl,?_⟩;rw [HE.out];exact aT.refl H.out hk
theorem uQ (n:Int) (w:World) (h:bC w p g A) (h0:0≤n) (h1:n≤1000) :
  Calls Tryz.prog 139 #[.pointer (some ⟨p,0,none⟩), .int .i64 n, .bool true] w fun e w'=>e=.returned (.int .i64 (A.oJ n).1)∧aT w p g w' (A.oJ n).2:=by
 have H:=Hz h;have o1:=h.ok.h1;have o2:=h.ok.h2;have o3:=h.ok.h3;have o4:=h.ok.h4;have hn:decide ((0:Int)≤n)=true:=by simpa using h0
 clear h;by_cases hc:n≤((A.ws.length-A.grn:Nat):Int)
 ·have hcb:decide (n≤((A.ws.length-A.grn:Nat):Int))=true:=by simpa using hc
  have HE:=Hz (show A.oJ n=((A.grn:Int), { A with grn:=A.grn+n.toNat }) from if_pos ⟨h0,by omega⟩);go_enter Tryz.func139,Tryz.ntmps139;go_wp2_with fail;refine (jY _ H.out).mono ?_;rintro e w1 ⟨rfl,hk⟩;have H1:=Hz (H.out.ab hk (fun h=>h) (fun h=>h));have HK:=Hz hk;obtain ⟨-,-,-,c2⟩:=H1.out.cells;have f2:=H1.out.hp.free 3;have pl:=H1.out.hp.lt;clear hk;go_wp2_with fail;go_ret;refine ⟨by rw [HE.out];exact cM (by dsimp only;try omega),?_⟩;rw [HE.out];refine ⟨⟨?_,?_,?_⟩,(HK.out.self).setCell (p:=⟨p,3,none⟩) (.inl (.inl rfl)) _⟩
  ·have:=H1.out.hp.aG 3 (.int .i64 ((A.grn:Int)+n));have e:((A.grn:Int)+n)=((A.grn+n.toNat:Nat):Int):=by omega
   rw [e] at this ⊢;simpa using this
  ·exact H1.out.hg.dO (a:=⟨p,3,none⟩) (Ne.symm H.out.ne) _
  ·exact ⟨o1,by show A.nur≤A.grn+n.toNat;omega,by show A.grn+n.toNat≤A.ws.length;omega,o4,H.out.ok.hw⟩
 ·have hcb:decide (n≤((A.ws.length-A.grn:Nat):Int))=false:=by simpa using hc
  have HE:=Hz (show A.oJ n=(-1,A) from if_neg (by omega));go_enter Tryz.func139,Tryz.ntmps139;go_wp2_with fail;refine (jY _ H.out).mono ?_;rintro e w1 ⟨rfl,hk⟩;go_wp2_with fail;go_ret;refine ⟨by rw [HE.out];rfl,?_⟩;rw [HE.out];exact aT.refl H.out hk
theorem AV (k f:Int) (w:World) (h:bC w p g A) (hf:a9 f) :
  Calls Tryz.prog 83 #[.pointer (some ⟨p,0,none⟩), .int .i64 k, .int .i64 f, .bool false] w fun e w'=>e=.returned (.int .i64 (A.make k f).1)∧aT w p g w' (A.make k f).2:=by
 have H:=Hz h;have o1:=h.ok.h1;have o2:=h.ok.h2;have o3:=h.ok.h3;have o4:=h.ok.h4;have HOK:=Hz (h.ok.make k f);have HF:=Hz hf;clear h hf;cases hfit:bm k f
 ·have HE:=Hz (Ar.uN (A:=A) (k:=k) (f:=f) (by rw [hfit];simp));have hcode:=(qg hfit).2;clear hfit;go_enter Tryz.func83,Tryz.ntmps83;go_wp2_with fail;refine (nN k f _ HF.out.1 HF.out.2).mono ?_;rintro e w1 ⟨rfl,rfl⟩;go_wp2_with fail;go_ret;rw [HE.out];exact ⟨rfl,aT.refl H.out (aa.refl _ _)⟩
 ·have hs:=bK hfit;obtain ⟨n,rfl⟩:∃ n:Nat,f=n:=⟨f.toNat,by omega⟩;have hn:n≤12:=by omega
  have HH:=Hz (qh hfit);by_cases hroom:1+(n:Int)≤(A.nur:Int)-A.yng
  ·have HE:=Hz (show A.make k n=((A.yng:Int), { A with yng:=A.yng+(1+(n:Int)).toNat,ws:=lay A.ws A.yng (ft k n) }) from if_pos ⟨hfit,hroom⟩);have HT:=Hz (show A.oI (1+(n:Int))=((A.yng:Int), { A with yng:=A.yng+(1+(n:Int)).toNat }) from if_pos ⟨by omega,hroom⟩);have hk1:=hs.1;have hk2:=hs.2.1;clear hfit hs;go_enter Tryz.func83,Tryz.ntmps83;go_wp2_with fail;refine (nN k n _ HF.out.1 HF.out.2).mono ?_;rintro e w1 ⟨rfl,rfl⟩;rw [HH.out];go_wp2_with fail;refine (uP (1+(n:Int)) _ H.out (by omega) (by omega)).mono ?_;rintro e w2 ⟨rfl,hto⟩;rw [HT.out] at hto ⊢;dsimp only at hto ⊢;have HTO:=Hz hto;obtain ⟨c0,-,-,-⟩:=hto.at_.cells;have pl:=hto.at_.hp.lt;have gl:=hto.at_.hg.lt;have c4:=hto.at_.word A.yng (by dsimp only;omega);have f4:=hto.at_.hg.free A.yng;dsimp only at c0 c4;have hlt:(A.yng:Int)<A.ws.length:=by omega
   clear hto;go_wp2_with fail;have hb0:=HTO.out.at_.hg.aG A.yng (.int .i64 (16*(n:Int)+k));have hp0:=HTO.out.at_.hp.dO (a:=⟨g,A.yng,none⟩) H.out.ne (.int .i64 (16*(n:Int)+k));have hk0:=HTO.out.k.setCell (p:=⟨g,A.yng,none⟩) (.inl (.inr rfl)) (.int .i64 (16*(n:Int)+k));dsimp only at hb0 hp0;rw [←List.map_set,zK (by omega)] at hb0;generalize w2.setCell ⟨g,A.yng,none⟩ (.int .i64 (16*(n:Int)+k))=w3 at *;have HB0:=Hz hb0;have HP0:=Hz hp0;have HK0:=Hz hk0;clear hb0 hp0 hk0 c0 c4 f4 HTO;go_loopw [36] (fun i wr=>∃ j:Nat,j≤n∧i=.int .i64 j∧aj wr g ((lay A.ws A.yng ((16*(n:Int)+k) :: List.replicate j 2)).map (Value.int .i64)) 2∧aa (fun b=>b=g) w3 wr) (fun i _=>n-(intOf i).toNat)
   case atStart=>exact ⟨0,Nat.zero_le _,rfl,HB0.out,aa.refl _ _⟩
   case round=>
    obtain ⟨j,hj,rfl,hb,hk⟩:=hrel;have HB:=Hz hb;have HK:=Hz hk;have hpr:=hk.aq HP0.out H.out.ne;have c0:=hpr.cell 0;have pl:=hpr.lt;have gl:=hb.lt;simp only [Lz] at c0;have HPR:=Hz hpr;by_cases hlt2:j<n
    ·have f4:=hb.free (A.yng+1+j);have c4:∃ v,wr.cell? ⟨g,A.yng+1+j,none⟩=some v:=by
      have hl:(lay A.ws A.yng ((16*(n:Int)+k) :: List.replicate j 2)).length=A.ws.length:=dQ (by simp;omega);rw [hb.cell,List.getElem?_map,Le (by rw [hl];omega)];exact ⟨_,rfl⟩
     obtain ⟨v4,c4⟩:=c4;have hix:(A.yng:Int)+1+j<A.ws.length:=by omega
     have hw1:IntKind.i64.wrap ((A.yng:Int)+1)=(A.yng:Int)+1:=IntWalk.i64_in _ (by omega);have hw2:IntKind.i64.wrap ((A.yng:Int)+1+j)=(A.yng:Int)+1+j:=IntWalk.i64_in _ (by omega);have hw3:((A.yng:Int)+1+j).toNat=A.yng+1+j:=by omega
     have hw4:(0:Int)≤(A.yng:Int)+1+j:=by omega
     clear hb hk hpr;go_wp2_with fail;refine a8 (.free 0 (.free 1 (.free 2 (.free 4 (.free 5 (.free 6 (.free 7 (.pure 3 (.run 8 (.free 9 (.run 10 (.swi [] (.fin))))))))))))) [10] (Fa c0) ?_
     iterate 8 refine Wz ?_
     refine aM rfl rfl (fun K hK=>?_);unfold aw;go_simp;refine (vF _).mono ?_;rintro e w5 ⟨rfl,rfl⟩;refine hK _ _ (fun hg=>c0) ?_;clear hK K;refine Wz ?_;refine aA rfl rfl rfl (fun K hK=>?_);unfold aw;go_simp;refine hK _ _ ?_;clear hK K;refine aB (fun _=>True) trivial (av ?_);clear hw1 hw2 hw3 hw4;have hset:=zJ (l:=A.ws) (i:=A.yng) (j:=j) (h:=16*(n:Int)+k) (by omega);have bH:aj (wr.setCell ⟨g,A.yng+1+j,none⟩ (.int .i64 2)) g ((lay A.ws A.yng ((16*(n:Int)+k) :: List.replicate (j+1) 2)).map (Value.int .i64)) 2:=by
      rw [←hset,List.map_set];exact HB.out.aG _ _
     have HB2:=Hz bH;have HK2:=Hz (HK.out.setCell (p:=⟨g,A.yng+1+j,none⟩) (.inl rfl) (.int .i64 2));clear hset bH c0 c4 f4;go_wp2_with fail;go_roundw
     case rel=>exact ⟨j+1,by omega,by go_num,HB2.out.drew,HK2.out.drew⟩
     case measure=>simp [intOf];omega
    ·obtain rfl:j=n:=by omega
     clear hb hk hpr;go_wp2_with fail;go_ret;have hok:=HOK.out;rw [HE.out] at hok ⊢;have hl:(lay A.ws A.yng (ft k j)).length=A.ws.length:=dQ (by rw [j9 (by omega)];omega);refine ⟨rfl,⟨?_,HB.out,hok⟩,HK0.out.trans (HK.out.mono fun _ _ h=>.inr h)⟩;have:=HPR.out;dsimp only;rw [hl];exact this
  ·have HE:=Hz (Ar.uN (A:=A) (k:=k) (f:=n) (fun h=>hroom h.2));have HT:=Hz (show A.oI (1+(n:Int))=(-1,A) from if_neg (fun h=>hroom h.2));clear hfit hs hroom;go_enter Tryz.func83,Tryz.ntmps83;go_wp2_with fail;refine (nN k n _ HF.out.1 HF.out.2).mono ?_;rintro e w1 ⟨rfl,rfl⟩;rw [HH.out];go_wp2_with fail;refine (uP (1+(n:Int)) _ H.out (by omega) (by omega)).mono ?_;rintro e w2 ⟨rfl,hto⟩;rw [HT.out] at hto ⊢;dsimp only at hto ⊢;go_wp2_with fail;go_ret;rw [HE.out];exact ⟨rfl,hto⟩
theorem AW (k f:Int) (w:World) (h:bC w p g A) (hf:a9 f) :
  Calls Tryz.prog 22 #[.pointer (some ⟨p,0,none⟩), .int .i64 k, .int .i64 f] w fun e w'=>e=.returned (.int .i64 (A.make k f).1)∧aT w p g w' (A.make k f).2:=by
 go_enter Tryz.func22,Tryz.ntmps22;go_wp2_with fail;refine (AV k f _ h hf).mono ?_;rintro e w1 ⟨rfl,hto⟩;go_wp2_with fail;go_ret;exact ⟨rfl,hto⟩
end
end
section
open Go.RowKit
theorem kU {l:List Int}:∀ u ∈ l.map (Value.int .i64),u.oneCell'=true:=by
 intro u hu;simp only [List.mem_map] at hu;obtain ⟨x,-,rfl⟩:=hu;rfl
section
variable {p g:Nat} {A:Ar}
theorem zL (i:Int) (w:World) (h:bC w p g A) :
  Calls Tryz.prog 120 #[.pointer (some ⟨p,0,none⟩), .int .i64 i] w fun e w'=>e=.returned (.int .i64 (A.copy i).1)∧aT w p g w' (A.copy i).2:=by
 have H:=Hz h;have o1:=h.ok.h1;have o2:=h.ok.h2;have o3:=h.ok.h3;have o4:=h.ok.h4;have HOK:=Hz (h.ok.copy i);have hfl:=A.aO i;have HU:=Hz (A.nO (i:=i));have HUL:=Hz (h.ok.jk (i:=i));have HNO:=Hz (Ar.zI (A:=A) (i:=i));have HYES:=Hz (Ar.sN (A:=A) (i:=i));have HWS:=Hz (Ar.kx h.ok (i:=i) (n:=(A.ai i).2.1) hfl.1);clear h;obtain ⟨⟨k,n,c⟩,hT⟩:∃ t,A.ai i=t:=⟨_,rfl⟩;rw [hT] at hfl HU HNO HYES HWS;dsimp only at hfl HU HNO HYES HWS;have HT:=Hz hT;clear hT;obtain ⟨n,rfl⟩:∃ q:Nat,n=q:=⟨n.toNat,by omega⟩;have hn:n≤12:=by omega
 clear hfl;go_enter Tryz.func120,Tryz.ntmps120;go_wp2_with fail;refine (gJ i _ H.out).mono ?_;rintro e w1 ⟨rfl,rfl⟩;rw [HT.out];dsimp only;by_cases hc:c=0
 ·subst hc;have hu:=HUL.out (HU.out rfl);obtain ⟨m,rfl⟩:∃ m:Nat,i=m:=⟨i.toNat,by omega⟩;have hm:m<1280:=by omega
  have HW:Hid (A.whole m n=((A.az m && A.az ((m:Int)+n)) || (A.aI m && A.aI ((m:Int)+n)))):=rfl;have HYO:Hid (A.az m=true→A.aI m=false):=fun h=>by
   simp [Ar.az] at h;simp [Ar.aI];omega
  clear hu;go_upto_region 2 with fail
  go_cut [42] (fun v wx=>v=.bool (!A.whole m n)∧wx=w)
  case first=>
   cases hy:A.az m
   ·cases ho:A.aI m
    ·have HX:=Hz (show A.whole m n=false by rw [HW.out,hy,ho];rfl);go_wp2_with fail;refine (cO m _ H.out).mono ?_;rintro e w1 ⟨rfl,rfl⟩;rw [hy];go_wp2_with fail;refine (iG m _ H.out).mono ?_;rintro e w1 ⟨rfl,rfl⟩;rw [ho];go_wp2_with fail
     go_meet
     exact ⟨by rw [HX.out];rfl,rfl⟩
    ·have HX:=Hz (show A.whole m n=A.aI ((m:Int)+n) by rw [HW.out,hy,ho];simp);go_wp2_with fail;refine (cO m _ H.out).mono ?_;rintro e w1 ⟨rfl,rfl⟩;rw [hy];go_wp2_with fail;refine (iG m _ H.out).mono ?_;rintro e w1 ⟨rfl,rfl⟩;rw [ho];go_wp2_with fail;refine (iG ((m:Int)+n) _ H.out).mono ?_;rintro e w1 ⟨rfl,rfl⟩;rw [←HX.out];go_wp2_with fail
     go_meet
     exact ⟨rfl,rfl⟩
   ·have ho:=HYO.out hy;cases hy2:A.az ((m:Int)+n)
    ·have HX:=Hz (show A.whole m n=false by rw [HW.out,hy,hy2,ho];simp);go_wp2_with fail;refine (cO m _ H.out).mono ?_;rintro e w1 ⟨rfl,rfl⟩;rw [hy];go_wp2_with fail;refine (cO ((m:Int)+n) _ H.out).mono ?_;rintro e w1 ⟨rfl,rfl⟩;rw [hy2];go_wp2_with fail;refine (iG m _ H.out).mono ?_;rintro e w1 ⟨rfl,rfl⟩;rw [ho];go_wp2_with fail
     go_meet
     exact ⟨by rw [HX.out];rfl,rfl⟩
    ·have HX:=Hz (show A.whole m n=true by rw [HW.out,hy,hy2];simp);go_wp2_with fail;refine (cO m _ H.out).mono ?_;rintro e w1 ⟨rfl,rfl⟩;rw [hy];go_wp2_with fail;refine (cO ((m:Int)+n) _ H.out).mono ?_;rintro e w1 ⟨rfl,rfl⟩;rw [hy2];go_wp2_with fail
     go_meet
     exact ⟨by rw [HX.out];rfl,rfl⟩
  case rest=>
   obtain ⟨rfl,rfl⟩:=hcut;cases hw:A.whole m n
   ·have HE:=Hz (HNO.out (by rw [hw];simp));go_wp2_with fail;go_ret;exact ⟨by rw [HE.out];rfl,by rw [HE.out];exact aT.refl H.out (aa.refl _ _)⟩
   ·have hws:=HWS.out hw;by_cases hroom:1+(n:Int)≤(A.ws.length:Int)-A.grn
    ·have HE:=Hz (HYES.out ⟨rfl,hw,hroom⟩);have HTK:=Hz (show A.oJ (1+(n:Int))=((A.grn:Int), { A with grn:=A.grn+(1+(n:Int)).toNat }) from if_pos ⟨by omega,hroom⟩);go_wp2_with fail;refine (uQ (1+(n:Int)) _ H.out (by omega) (by omega)).mono ?_;rintro e w2 ⟨rfl,hto⟩;rw [HTK.out] at hto ⊢;dsimp only at hto ⊢;have HTO:=Hz hto;obtain ⟨c0,-,-,-⟩:=hto.at_.cells;have pl:=hto.at_.hp.lt;have gl:=hto.at_.hg.lt;dsimp only at c0;clear hto;have hw1:IntKind.i64.wrap ((A.grn:Int)+1)=(A.grn:Int)+1:=IntWalk.i64_in _ (by omega);have hw2:IntKind.i64.wrap ((A.grn:Int)+1+n)=(A.grn:Int)+1+n:=IntWalk.i64_in _ (by omega);have hw3:IntKind.i64.wrap ((m:Int)+1)=(m:Int)+1:=IntWalk.i64_in _ (by omega);have hw4:IntKind.i64.wrap ((m:Int)+1+n)=(m:Int)+1+n:=IntWalk.i64_in _ (by omega);have b1:(A.grn:Int)≤(A.grn:Int)+1+n:=by omega
     have b2:(A.grn:Int)+1+n≤(A.ws.length:Int):=by omega
     have b3:(m:Int)≤(m:Int)+1+n:=by omega
     have b4:(m:Int)+1+n≤(A.ws.length:Int):=by omega
     have b5:(0:Int)≤(A.grn:Int)+1+n:=by omega
     have b6:(0:Int)≤(m:Int)+1+n:=by omega
     have b7:((A.grn:Int)+1+n).toNat=A.grn+1+n:=by omega
     have b8:((m:Int)+1+n).toNat=m+1+n:=by omega
     have q1:¬ A.ws.length=A.grn:=by omega
     have q2:¬ A.ws.length=m:=by omega
     go_wp2_with fail;refine a8 (.free 0 (.free 1 (.free 2 (.free 4 (.free 5 (.free 6 (.free 7 (.free 8 (.free 10 (.free 11 (.free 12 (.free 14 (.free 15 (.free 16 (.free 17 (.free 18 (.pure 3 (.free 9 (.pure 13 (.free 19 (.run 20 (.swi [] (.fin))))))))))))))))))))))) [20] (Fa c0) ?_
     iterate 20 refine Wz ?_
     clear hw1 hw2 hw3 hw4 b1 b2 b3 b4 b5 b6 b7 b8;have hcl:(((A.ws.drop m).take (1+n)).map (Value.int .i64)).length=1+n:=by simp;omega
     have hfit:A.grn+(1+n)≤A.ws.length:=by omega
     have HCL:=Hz hcl;clear hcl;refine aA rfl rfl rfl (fun K hK=>?_);refine nP (.tmp 58) (.tmp 68) 50 rfl 2 Tryz.underlying50 (by kernel_rfl) g A.grn _ _ ⟨g,m,none⟩ _ _ (by rfl) (by rfl) (A.ws.map (Value.int .i64)) HTO.out.at_.hg.drew (((A.ws.drop m).take (1+n)).map (Value.int .i64)) ?hn ?hsrc ?hfit kU ?_
     case hn=>rw [HCL.out];show 1+n=min _ _;omega
     case hsrc=>
      intro j v hj;have hlt:=(List.getElem?_eq_some_iff.1 hj).1;rw [HCL.out] at hlt;have hg:=HTO.out.at_.hg.cell (m+j);dsimp only at hg;rw [eY]
      show w2.cell? ⟨g,m+j,none⟩=some v
      rw [hg,←hj];simp only [List.getElem?_map,List.getElem?_take,List.getElem?_drop,if_pos hlt]
     case hfit=>rw [HCL.out];simpa using hfit
     refine hK _ _ ?_;clear hK K;have hb5:aj (w2.drew.setRow g ((A.ws.map (Value.int .i64)).take A.grn ++ ((A.ws.drop m).take (1+n)).map (Value.int .i64) ++ (A.ws.map (Value.int .i64)).drop (A.grn+(((A.ws.drop m).take (1+n)).map (Value.int .i64)).length)).toArray) g ((lay A.ws A.grn ((A.ws.drop m).take (1+n))).map (Value.int .i64)) 2:=by
      rw [uO];exact aj.setRow (w:=w2.drew) HTO.out.at_.hg.drew _
     have hp5:=HTO.out.at_.hp.drew.lU H.out.ne ((A.ws.map (Value.int .i64)).take A.grn ++ ((A.ws.drop m).take (1+n)).map (Value.int .i64) ++ (A.ws.map (Value.int .i64)).drop (A.grn+(((A.ws.drop m).take (1+n)).map (Value.int .i64)).length)).toArray;have hk5:=(HTO.out.k.drew).setRow (g:=g) (.inl (.inr rfl)) ((A.ws.map (Value.int .i64)).take A.grn ++ ((A.ws.drop m).take (1+n)).map (Value.int .i64) ++ (A.ws.map (Value.int .i64)).drop (A.grn+(((A.ws.drop m).take (1+n)).map (Value.int .i64)).length)).toArray;dsimp only at hp5;generalize w2.drew.setRow g _=w5 at *;have HB5:=Hz hb5;have HP5:=Hz hp5;have HK5:=Hz hk5;clear hb5 hp5 hk5;refine aB (fun _=>True) trivial (av ?_);go_wp2_with fail;go_ret;have hok:=HOK.out;rw [HE.out] at hok ⊢;have ho2:lay A.ws A.grn ((A.ws.drop ((m:Int)).toNat).take (1+(n:Int)).toNat)=lay A.ws A.grn ((A.ws.drop m).take (1+n)):=by
      rw [show ((m:Int)).toNat=m by omega,show (1+(n:Int)).toNat=1+n by omega]
     have hl:(lay A.ws A.grn ((A.ws.drop m).take (1+n))).length=A.ws.length:=dQ (by have:=HCL.out;simp only [List.length_map] at this;omega);refine ⟨rfl,⟨?_,?_,hok⟩,HK5.out⟩
     ·dsimp only;rw [ho2,hl];exact HP5.out
     ·dsimp only;rw [ho2];exact HB5.out
    ·have HE:=Hz (HNO.out (fun h=>hroom h.2.2));have HTK:=Hz (show A.oJ (1+(n:Int))=(-1,A) from if_neg (fun h=>hroom h.2));go_wp2_with fail;refine (uQ (1+(n:Int)) _ H.out (by omega) (by omega)).mono ?_;rintro e w2 ⟨rfl,hto⟩;rw [HTK.out] at hto ⊢;dsimp only at hto ⊢;go_wp2_with fail;go_ret;exact ⟨by rw [HE.out];rfl,by rw [HE.out];exact hto⟩
 ·have HE:=Hz (HNO.out (fun h=>hc h.1));have hcb:(c != 0)=true:=by simpa using hc
  clear hc;go_wp2_with fail;go_ret;exact ⟨by rw [HE.out];rfl,by rw [HE.out];exact aT.refl H.out (aa.refl _ _)⟩
end
end
section
open Go.RowKit
theorem py:(Tryz.prog.info? 2).map (fun i=>(i.zero,i.size,i.bytes))=some (some (.int .i64 0),1,8):=by kernel_rfl
theorem iK:(Tryz.prog.info? 3).map (fun i=>(i.zero,i.size,i.bytes))=some (some (.int .i64 0),1,8):=by kernel_rfl
theorem ck {k:Nat} (h:ak (.slice none 0 0) k):False:=by simp [ak,Value.ownBlock] at h
def oL (T:TypeId) (w:World) (e:Ending) (w':World) (l:List Int):Prop:=
 ∃ ao cap,e=.returned (.slice ao l.length cap)∧Sl w' T 1 (.slice ao l.length cap) l.length (l.map (Value.int .i64))∧aa (fun _=>False) w w'∧∀ k,ak (.slice ao l.length cap) k→w.heap.size≤k
theorem yd (a:Addr) (cap:Nat) (l:List Int) (w:World) (h:Rd w (some a) (l.map (Value.int .i64))) (hl:l.length≤1000000) :
  Calls Tryz.prog 131 #[.slice (some a) l.length cap] w fun e w'=>oL 2 w e w' l:=by
 obtain ⟨i0,hi,hz0,hz1,hz2⟩:=info_parts py;have Hi:=Hz hi;have Hz0:=Hz hz0;have Hz1:=Hz hz1;have Hz2:=Hz hz2;clear hi hz0 hz1 hz2;have hne:=fun (wx:World)=>Lib.run_eql_slice_nil (P:=Tryz.prog) wx 50 2 (some a) l.length cap 0 0 Tryz.underlying50;go_enter Tryz.func131,Tryz.ntmps131;go_wp2_with (at_builtin;refine lW rfl (.tmp 5) (.tmp 6) 50 rfl 2 i0 (.int .i64 0) 1 8 Tryz.underlying50 Hi.out Hz0.out Hz1.out Hz2.out rfl (by decide) _ 0 [] rfl ⟨rfl, .inr ⟨w.heap.size,0,0,[],rfl,aj.newAt _ rfl rfl,Nat.le_refl _,Nat.zero_le _,by simp,by simp⟩⟩ (some a) l.length cap (l.map (Value.int .i64)) rfl (by simp) (h.ab ((Kz w).alloc _) (fun _ _ _ h=>h)) kU (by unfold maxLen;omega) (by omega) ?_);intro v2 w2 hs2 hk2 ho2;go_wp2_with fail;go_ret;obtain ⟨ao,c2,rfl,_,_,_⟩:=hs2.rd;refine ⟨ao,c2,rfl,hs2,((Kz w).alloc _).then hk2 (fun j hj=>by simp [ak,Value.ownBlock] at hj;exact .inr (by omega)),fun j hj=>?_⟩;rcases ho2 j hj with h | h
 ·simp [ak,Value.ownBlock] at h;omega
 ·first | omega | (simp at h;omega)
def ye (w:World) (n o:Int) (e:Ending) (w':World):Prop:=
 ∃ p g,e=.returned (.tuple #[.pointer (some ⟨p,0,none⟩), .agg #[.int .i64 0, .int .i64 0]])∧bC w' p g (Ar.new n o)∧aa (fun _=>False) w w'∧w.heap.size≤p∧w.heap.size≤g
section
variable {p g:Nat} {A:Ar}
theorem zM (w:World) (h:bC w p g A) :
  Calls Tryz.prog 66 #[.pointer (some ⟨p,0,none⟩)] w fun e w'=>oL 2 w e w' A.ws:=by
 have H:=Hz h;obtain ⟨c0,-,-,-⟩:=h.cells;have pl:=h.hp.lt;have o4:=h.ok.h4;clear h;go_enter Tryz.func66,Tryz.ntmps66;go_wp2_with fail;refine (yd ⟨g,0,none⟩ A.ws.length A.ws _ (Rd.aq H.out.hg 0 _ (by simp only [List.drop_zero,List.take_length])) (by omega)).mono ?_;rintro e w1 ⟨ao,cap,rfl,hs,hk,ho⟩;go_wp2_with fail;go_ret;exact ⟨ao,cap,rfl,hs,hk,ho⟩
theorem zN (n o:Int) (w:World) (h:Ar.fits n o=false) :
  Calls Tryz.prog 111 #[.int .i64 n, .int .i64 o] w fun e w'=>e=.returned (.tuple #[.pointer none, .agg #[.int .i64 1, .int .i64 (-1)]])∧aa (fun _=>False) w w':=by
 have hc:n<16∨256<n∨o<0∨1024<o:=by
  by_cases h1:16≤n
  ·by_cases h2:n≤256
   ·by_cases h3:0≤o
    ·by_cases h4:o≤1024
     ·simp [Ar.fits,h1,h2,h3,h4] at h
     ·omega
    ·omega
   ·omega
  ·omega
 clear h;by_cases c1:n<16
 ·have d1:decide (n<16)=true:=by simpa using c1
  go_enter Tryz.func111,Tryz.ntmps111;go_wp2_with fail;exact bodyPost_ret (v:=.tuple #[.pointer none, .agg #[.int .i64 1, .int .i64 (-1)]]) (by simp [results,Tryz.results111,go_sem]) rfl ⟨rfl,((aa.refl _ _).alloc _)⟩
 have d1:decide (n<16)=false:=by simpa using c1
 by_cases c2:256<n
 ·have d2:decide (256<n)=true:=by simpa using c2
  go_enter Tryz.func111,Tryz.ntmps111;go_wp2_with fail;exact bodyPost_ret (v:=.tuple #[.pointer none, .agg #[.int .i64 1, .int .i64 (-1)]]) (by simp [results,Tryz.results111,go_sem]) rfl ⟨rfl,((aa.refl _ _).alloc _)⟩
 have d2:decide (256<n)=false:=by simpa using c2
 by_cases c3:o<0
 ·have d3:decide (o<0)=true:=by simpa using c3
  go_enter Tryz.func111,Tryz.ntmps111;go_wp2_with fail;exact bodyPost_ret (v:=.tuple #[.pointer none, .agg #[.int .i64 1, .int .i64 (-1)]]) (by simp [results,Tryz.results111,go_sem]) rfl ⟨rfl,((aa.refl _ _).alloc _)⟩
 have d3:decide (o<0)=false:=by simpa using c3
 have d4:decide (1024<o)=true:=by simp;omega
 go_enter Tryz.func111,Tryz.ntmps111;go_wp2_with fail;exact bodyPost_ret (v:=.tuple #[.pointer none, .agg #[.int .i64 1, .int .i64 (-1)]]) (by simp [results,Tryz.results111,go_sem]) rfl ⟨rfl,((aa.refl _ _).alloc _)⟩
theorem yf (n o:Int) (w:World) (h:Ar.fits n o=true) :
  Calls Tryz.prog 111 #[.int .i64 n, .int .i64 o] w fun e w'=>ye w n o e w':=by
 have HOK:=Hz (Ar.jX h);simp [Ar.fits] at h;obtain ⟨⟨⟨h1,h2⟩,h3⟩,h4⟩:=h;obtain ⟨a,rfl⟩:∃ a:Nat,n=a:=⟨n.toNat,by omega⟩;obtain ⟨b,rfl⟩:∃ b:Nat,o=b:=⟨o.toNat,by omega⟩;have d1:decide ((a:Int)<16)=false:=by simp;omega
 have d2:decide (256<(a:Int))=false:=by simp;omega
 have d3:decide ((b:Int)<0)=false:=by simp
 have d4:decide (1024<(b:Int))=false:=by simp;omega
 obtain ⟨i0,hi,hz0,hz1,hz2⟩:=info_parts py;have hmk:=fun (wx:World)=>dP (P:=Tryz.prog) wx 50 2 i0 (.int .i64 0) Tryz.underlying50 hi hz0 rfl hz1 (a+b) (by rw [hz2];omega) (by omega);have hcast:((a+b:Nat):Int)=(a:Int)+(b:Int):=by omega
 simp only [hcast] at hmk;have HNEW:=Hz (show Ar.new a b=⟨List.replicate (a+b) 0,a,0,a⟩ by unfold Ar.new;congr 1);clear hi hz0 hz1 hz2 hcast;go_enter Tryz.func111,Tryz.ntmps111;go_wp2_with fail;refine bodyPost_ret (v:=.tuple #[.pointer (some ⟨w.heap.size+2,0,none⟩), .agg #[.int .i64 0, .int .i64 0]]) (by simp [results,Tryz.results111,go_sem]) rfl ⟨w.heap.size+2,w.heap.size+1,rfl,?_,(((aa.refl _ _).alloc _).alloc _).alloc _,by omega,by omega⟩;have hok:=HOK.out;rw [HNEW.out] at hok ⊢;refine ⟨?_,?_,hok⟩
 ·refine aj.newAt _ (by simp) ?_;simp
 ·refine (aj.newAt _ (by simp) ?_).alloc _;simp
def vH (w:World) (b p:Nat):Prop:=aj w b [.pointer (some ⟨p,0,none⟩)] 47
theorem wN (b:Nat) (i j:Int) (w:World) (h:bC w p g A) (hb:vH w b p) (hi:0≤i) (hi2:i≤1280) (hj:j≤1280) :
  Calls Tryz.prog 118 #[.int .i64 i, .int .i64 j, .pointer (some ⟨b,0,none⟩)] w fun e w'=>oL 3 w e w' (A.list 1300 i j):=by
 have H:=Hz h;have HB:=Hz hb;have bl:=hb.lt;obtain ⟨i0,hi0,hz0,hz1,hz2⟩:=info_parts iK;have Hi:=Hz hi0;have Hz0:=Hz hz0;have Hz1:=Hz hz1;have Hz2:=Hz hz2;clear hi0 hz0 hz1 hz2;clear h hb;go_enter Tryz.func118,Tryz.ntmps118;go_wp2_with fail;go_loopw [6,7] (fun v k wr=>∃ (n:Nat) (c:Int) (done:List Int),k=.int .i64 c∧0≤c∧c≤1300∧done ++ A.list n c j=A.list 1300 i j∧(j-c).toNat<n∧done.length+(j-c).toNat≤1300∧Sl wr 3 1 v done.length (done.map (Value.int .i64))∧aa (fun _=>False) w wr∧∀ b,ak v b→w.heap.size≤b) (fun _ k _=>(j-intOf k).toNat)
 case atStart=>
  exact ⟨1300,i,[],rfl,hi,by omega,rfl,by omega,by simp;omega,Sl.nil _ _ _,aa.refl _ _,fun b hb=>(ck hb).elim⟩
 case round=>
  obtain ⟨n,c,done,rfl,hc0,hc1,hd,hn,hl,hs,hk,ho⟩:=hrel;have HD:=Hz hd;have HS:=Hz hs;have HK:=Hz hk;have HO:=Hz ho;have b0:=(hk.aq HB.out (fun h=>h)).cell 0;have bl2:=(hk.aq HB.out (fun h=>h)).lt;simp only [Lz] at b0;clear hd hs hk ho;obtain ⟨ao,cap,rfl,-,-,-⟩:=HS.out.rd;by_cases hlt:c<j
  ·have hfl:=A.aO c;obtain ⟨⟨k,m,e⟩,hT⟩:∃ t,A.ai c=t:=⟨_,rfl⟩;rw [hT] at hfl;dsimp only at hfl;have HT:=Hz hT;clear hT;go_wp2_with fail;refine (gJ c _ (H.out.ab HK.out (fun h=>h) (fun h=>h))).mono ?_;rintro e w1 ⟨rfl,rfl⟩;rw [HT.out];dsimp only;by_cases he:e=0
   ·subst he;obtain ⟨n,rfl⟩:∃ q,n=q+1:=⟨n-1,by omega⟩;have HST:=Hz (Ar.rM (n:=n) hlt (by rw [HT.out]));go_wp2_with (at_builtin;refine da rfl (.tmp 25) (.tmp 27) 83 rfl 3 i0 (.int .i64 0) 1 8 Tryz.underlying83 Hi.out Hz0.out Hz1.out Hz2.out rfl (by decide) _ done.length (done.map (Value.int .i64)) rfl (HS.out.ab ((Kz wr).alloc _) (fun _ _ h=>h)) ⟨wr.heap.size,0,none⟩ 1 1 [.int .i64 c] rfl rfl (bX wr 3 #[.int .i64 c]) (by intro u hu;simp at hu;subst hu;rfl) (by unfold maxLen;omega) (by omega) ?_);intro v2 w2 hs2 hk2 ho2;have HK2:=Hz ((HK.out.alloc (.cells #[.int .i64 c] 3)).then hk2 (fun b hb=>.inr (HO.out b hb)));have HO2:Hid (∀ b,ak v2 b→w.heap.size≤b):=fun b hb=>by
     rcases ho2 b hb with h | h
     ·exact HO.out b h
     ·have:=HK.out.size;first | omega | (simp at h;omega)
    have HS2:=Hz hs2;clear hs2 hk2 ho2 b0 bl2;go_wp2_with fail;go_roundw
    case rel=>exact ⟨n,c+1+m,done ++ [c],int_eq (by omega),by omega,by omega,by rw [←HD.out,HST.out,HT.out];simp,by omega,by simp;omega,by simpa using HS2.out,HK2.out,HO2.out⟩
    case measure=>simp [intOf];omega
   ·have heb:(e != 0)=true:=by simpa using he
    have HE:=Hz (Ar.px (n:=n) (j:=j) (fun h=>he (by have:=h.2;rw [HT.out] at this;exact this)));clear he;go_wp2_with fail;go_ret;have hd:=HD.out;rw [HE.out,List.append_nil] at hd;rw [←hd];exact ⟨ao,cap,rfl,HS.out,HK.out,HO.out⟩
  ·have HE:=Hz (Ar.px (A:=A) (n:=n) (i:=c) (j:=j) (fun h=>hlt h.1));go_wp2_with fail;go_ret;have hd:=HD.out;rw [HE.out,List.append_nil] at hd;rw [←hd];exact ⟨ao,cap,rfl,HS.out,HK.out,HO.out⟩
theorem Cc (args:Array Value) (w:World):(callFunc 118 args).run Tryz.prog w=.ok (.enter 118 args) w:=by kernel_rfl
def rN (A:Ar) (w:World) (e:Ending) (w':World):Prop:=
 ∃ ao ac bo bc,e=.returned (.tuple #[.slice ao A.aN.1.length ac, .slice bo A.aN.2.length bc])∧Sl w' 3 1 (.slice ao A.aN.1.length ac) A.aN.1.length (A.aN.1.map (Value.int .i64)) ∧
  Sl w' 3 1 (.slice bo A.aN.2.length bc) A.aN.2.length (A.aN.2.map (Value.int .i64))∧aa (fun _=>False) w w'∧(∀ k,ak (.slice ao A.aN.1.length ac) k→w.heap.size≤k)∧∀ k,ak (.slice bo A.aN.2.length bc) k→w.heap.size≤k
theorem pz (w:World) (h:bC w p g A) :
  Calls Tryz.prog 54 #[.pointer (some ⟨p,0,none⟩)] w fun e w'=>rN A w e w':=by
 have o1:=h.ok.h1;have o2:=h.ok.h2;have o3:=h.ok.h3;have o4:=h.ok.h4;have HLA:Hid (A.aN=(A.list 1300 0 A.yng,A.list 1300 A.nur A.grn)):=rfl;have ea:=Cc;have hka:=(Kz w).alloc (.cells #[.pointer (some ⟨p,0,none⟩)] 47);have h1:=h.ab hka (fun h=>h) (fun h=>h);have hb:vH (w.alloc (.cells #[.pointer (some ⟨p,0,none⟩)] 47)) w.heap.size p:=aj.newAt _ rfl rfl;have H1:=Hz h1;have HB:=Hz hb;have HKA:=Hz hka;clear h h1 hb hka;go_enter Tryz.func54,Tryz.ntmps54;go_wp2_with fail;obtain ⟨-,c1,c2,c3⟩:=H1.out.cells;have b0:=HB.out.cell 0;have bl:=HB.out.lt;have pl:=H1.out.hp.lt;simp only [Lz] at b0;generalize w.alloc (.cells #[.pointer (some ⟨p,0,none⟩)] 47)=w1 at *;refine a8 (.free 0 (.free 6 (.pure 1 (.free 2 (.free 3 (.pure 4 (.pure 7 (.free 8 (.free 9 (.pure 10 (.pure 11 (.free 12 (.free 13 (.pure 14 (.run 5 (.run 15 (.swi [] (.free 16 (.free 17 (.fin)))))))))))))))))))) [15,16,17] (Fz c1 (Fz c2 (Fz c3 (Fa b0)))) ?_
 iterate 14 refine Wz ?_
 refine aM rfl rfl (fun K hK=>?_);unfold aw;go_simp;refine (wN w.heap.size 0 A.yng _ (H1.out.ab (Kz w1).drew (fun h=>h) (fun h=>h)) HB.out.drew (by omega) (by omega) (by omega)).mono ?_;rintro e w2 ⟨ao,ac,rfl,hs2,hk2,ho2⟩;have hkd:=(Kz w1).drew.trans hk2;have H2:=Hz (H1.out.ab hkd (fun h=>h) (fun h=>h));have HB2:=Hz (show vH w2 w.heap.size p from hkd.aq HB.out (fun h=>h));have HS2:=Hz hs2;have HKD:=Hz hkd;have HO2:Hid (∀ k,ak (.slice ao (A.list 1300 0 A.yng).length ac) k→w.heap.size≤k):=fun k hk=>by have h1:=ho2 k hk;have h2:=HKA.out.size;exact Nat.le_trans h2 h1
 refine hK _ _ (fun _=>?gg) ?_
 case gg=>obtain ⟨-,c1,c2,c3⟩:=H2.out.cells;exact ⟨c1,c2,c3,HB2.out.cell 0⟩
 clear hK K hs2 hkd hk2 ho2;refine aA rfl rfl rfl (fun K hK=>?_);unfold aw;go_simp;refine (wN w.heap.size A.nur A.grn _ H2.out HB2.out (by omega) (by omega) (by omega)).mono ?_;rintro e w3 ⟨bo,bc,rfl,hs3,hk3,ho3⟩;have HS3:=Hz hs3;have HS23:=Hz (HS2.out.ab hk3 (fun _ _ h=>h));have HKE:=Hz ((HKA.out.trans HKD.out).trans hk3);have HO3:Hid (∀ k,ak (.slice bo (A.list 1300 A.nur A.grn).length bc) k→w.heap.size≤k):=fun k hk=>by have h1:=ho3 k hk;have h2:=HKA.out.size;have h3:=HKD.out.size;exact Nat.le_trans (Nat.le_trans h2 h3) h1
 refine hK _ _ ?_;clear hK K hs3 hk3 ho3 c1 c2 c3 b0;refine aB (fun _=>True) trivial ?_
 iterate 2 refine Wz ?_
 refine av ?_;go_wp2_with fail;go_ret2;unfold rN;rw [HLA.out];exact ⟨ao,ac,bo,bc,rfl,HS23.out,HS3.out,HKE.out,HO2.out,HO3.out⟩
end
end
section
open Go.RowKit
def Ar.move (A:Ar) (dst fr n:Nat):Ar:={ A with ws:=lay A.ws dst ((A.ws.drop fr).take n) }
theorem Ar.ok.move {A:Ar} (h:A.ok) {dst fr n:Nat} (h1:dst+n≤A.ws.length) (h2:fr+n≤A.ws.length):(A.move dst fr n).ok:=by
 have hl:(lay A.ws dst ((A.ws.drop fr).take n)).length=A.ws.length:=dQ (by simp;omega);refine ⟨h.h1,h.h2,?_,?_,fun x hx=>?_⟩
 ·show A.grn≤(lay _ _ _).length;rw [hl];exact h.h3
 ·show (lay _ _ _).length≤1280;rw [hl];exact h.h4
 ·rcases oK hx with h1 | h1
  ·exact h.hw x h1
  ·exact h.hw x (List.mem_of_mem_drop (List.mem_of_mem_take h1))
section
variable {p g:Nat} {A:Ar}
theorem AX (dst fr n:Nat) (w:World) (h:bC w p g A) (h1:dst+n≤A.ws.length) (h2:fr+n≤A.ws.length) (h3:dst<A.ws.length) (h4:fr<A.ws.length) :
  Calls Tryz.prog 80 #[.pointer (some ⟨p,0,none⟩), .int .i64 dst, .int .i64 fr, .int .i64 n] w fun e w'=>e=.returned (.tuple #[])∧aT w p g w' (A.move dst fr n):=by
 have H:=Hz h;have o4:=h.ok.h4;have HOK:=Hz (h.ok.move h1 h2);obtain ⟨c0,-,-,-⟩:=h.cells;have pl:=h.hp.lt;have gl:=h.hg.lt;clear h;have hw1:IntKind.i64.wrap ((dst:Int)+n)=(dst:Int)+n:=IntWalk.i64_in _ (by omega);have hw2:IntKind.i64.wrap ((fr:Int)+n)=(fr:Int)+n:=IntWalk.i64_in _ (by omega);have b1:(dst:Int)≤(dst:Int)+n:=by omega
 have b2:(dst:Int)+n≤(A.ws.length:Int):=by omega
 have b3:(fr:Int)≤(fr:Int)+n:=by omega
 have b4:(fr:Int)+n≤(A.ws.length:Int):=by omega
 have b5:(0:Int)≤(dst:Int)+n:=by omega
 have b6:(0:Int)≤(fr:Int)+n:=by omega
 have b7:((dst:Int)+n).toNat=dst+n:=by omega
 have b8:((fr:Int)+n).toNat=fr+n:=by omega
 have q1:¬ A.ws.length=dst:=by omega
 have q2:¬ A.ws.length=fr:=by omega
 go_enter Tryz.func80,Tryz.ntmps80;refine a8 (.free 0 (.free 1 (.free 2 (.free 4 (.free 5 (.free 6 (.free 7 (.free 9 (.free 10 (.free 11 (.free 13 (.free 14 (.free 15 (.free 16 (.pure 3 (.free 8 (.pure 12 (.free 17 (.run 18 (.swi [] (.fin))))))))))))))))))))) [18] (Fa c0) ?_
 iterate 18 refine Wz ?_
 clear hw1 hw2 b1 b2 b3 b4 b5 b6 b7 b8;have hcl:(((A.ws.drop fr).take n).map (Value.int .i64)).length=n:=by simp;omega
 have HCL:=Hz hcl;clear hcl;refine aA rfl rfl rfl (fun K hK=>?_);refine nP (.tmp 16) (.tmp 25) 50 rfl 2 Tryz.underlying50 (by kernel_rfl) g dst _ _ ⟨g,fr,none⟩ _ _ (by rfl) (by rfl) (A.ws.map (Value.int .i64)) H.out.hg.drew (((A.ws.drop fr).take n).map (Value.int .i64)) ?hn ?hsrc ?hfit kU ?_
 case hn=>rw [HCL.out];show n=min _ _;omega
 case hsrc=>
  intro j v hj;have hlt:=(List.getElem?_eq_some_iff.1 hj).1;rw [HCL.out] at hlt;rw [eY]
  show w.cell? ⟨g,fr+j,none⟩=some v
  rw [H.out.hg.cell (fr+j),←hj];simp only [List.getElem?_map,List.getElem?_take,List.getElem?_drop,if_pos hlt]
 case hfit=>rw [HCL.out];simpa using h1
 refine hK _ _ ?_;clear hK K;have hb5:aj (w.drew.setRow g ((A.ws.map (Value.int .i64)).take dst ++ ((A.ws.drop fr).take n).map (Value.int .i64) ++ (A.ws.map (Value.int .i64)).drop (dst+(((A.ws.drop fr).take n).map (Value.int .i64)).length)).toArray) g ((lay A.ws dst ((A.ws.drop fr).take n)).map (Value.int .i64)) 2:=by
  rw [uO];exact aj.setRow (w:=w.drew) H.out.hg.drew _
 have hp5:=H.out.hp.drew.lU H.out.ne ((A.ws.map (Value.int .i64)).take dst ++ ((A.ws.drop fr).take n).map (Value.int .i64) ++ (A.ws.map (Value.int .i64)).drop (dst+(((A.ws.drop fr).take n).map (Value.int .i64)).length)).toArray;have hk5:=((aa.refl (fun b=>b=p∨b=g) w).drew).setRow (g:=g) (.inl (.inr rfl)) ((A.ws.map (Value.int .i64)).take dst ++ ((A.ws.drop fr).take n).map (Value.int .i64) ++ (A.ws.map (Value.int .i64)).drop (dst+(((A.ws.drop fr).take n).map (Value.int .i64)).length)).toArray;generalize w.drew.setRow g _=w5 at *;have HB5:=Hz hb5;have HP5:=Hz hp5;have HK5:=Hz hk5;clear hb5 hp5 hk5;refine aB (fun _=>True) trivial (av ?_);go_wp2_with fail;go_end0;have hl:(lay A.ws dst ((A.ws.drop fr).take n)).length=A.ws.length:=dQ (by have:=HCL.out;simp only [List.length_map] at this;omega);refine ⟨rfl,⟨?_,HB5.out,HOK.out⟩,HK5.out⟩
 show aj w5 p [.slice (some ⟨g,0,none⟩) (lay A.ws dst ((A.ws.drop fr).take n)).length (lay A.ws dst ((A.ws.drop fr).take n)).length,_,_,_] _
 rw [hl];exact HP5.out
theorem sP (w:World) (h:bC w p g A) :
  Calls Tryz.prog 53 #[.pointer (some ⟨p,0,none⟩)] w fun e w'=>e=.returned (.tuple #[.int .i64 0, .int .i64 A.nur])∧aa (fun _=>False) w w':=by
 obtain ⟨-,c1,-,-⟩:=h.cells;have pl:=h.hp.lt;go_enter Tryz.func53,Tryz.ntmps53;go_wp2_with fail;refine a8 (.free 0 (.free 1 (.free 2 (.free 4 (.pure 3 (.free 5 (.fin))))))) [] (Fa c1) ?_
 iterate 6 refine Wz ?_
 refine av ?_;go_wp2_with fail;go_ret2;exact ⟨rfl,(aa.refl _ _).drew⟩
end
end
section
def b9 (base:Int) (n:Nat) (at_:Int):Int:=if base≤at_∧(at_-base)/8<n then (at_-base)/8 else -1
def gR (base:Int) (l:List Bool) (at_:Int):List Bool:=if 0≤b9 base l.length at_ then l.set (b9 base l.length at_).toNat true else l
theorem gX (base:Int) (l:List Bool) (at_:Int):(gR base l at_).length=l.length:=by unfold gR;split <;> simp
def de (base:Int) (l:List Bool) (at_:Int):Bool:=decide (0≤b9 base l.length at_) && l.getD (b9 base l.length at_).toNat false
theorem rO {base:Int} {n:Nat} {at_:Int} (h:0≤b9 base n at_):(b9 base n at_).toNat<n:=by
 unfold b9 at *;split at h
 ·rename_i c;rw [if_pos c];omega
 ·omega
def gC (words:Int):Nat:=((max words 0+7)/8).toNat
end
section
open Go.RowKit
structure cP (w:World) (p q:Nat) (base:Int) (l:List Bool):Prop where
 hp:aj w p [.int .i64 base, .slice (some ⟨q,0,none⟩) l.length l.length] 168
 hq:aj w q (l.map Value.bool) 4
theorem cP.ne {w:World} {p q:Nat} {base:Int} {l:List Bool} (h:cP w p q base l):p≠q:=h.hp.ne h.hq (by decide)
theorem cP.ab {w w':World} {p q:Nat} {base:Int} {l:List Bool} {S:Nat→Prop} (h:cP w p q base l) (k:aa S w w') (h1:¬ S p) (h2:¬ S q):cP w' p q base l:=
 ⟨k.aq h.hp h1,k.aq h.hq h2⟩
theorem wO (p q:Nat) (base at_:Int) (l:List Bool) (w:World) (h:cP w p q base l)
  (hb:0≤base) (bH:base≤1000000) (ha:-9223372036854775808≤at_) (ha2:at_≤9223372036854775807) (hl:l.length≤1000000) :
  Calls Tryz.prog 122 #[.pointer (some ⟨p,0,none⟩), .int .i64 at_] w fun e w'=>e=.returned (.int .i64 (b9 base l.length at_))∧w=w':=by
 have h0:w.cell? ⟨p,0,none⟩=some (.int .i64 base):=h.hp.cell 0;have h1:w.cell? ⟨p,1,none⟩=some (.slice (some ⟨q,0,none⟩) l.length l.length):=h.hp.cell 1;clear h;generalize hn:l.length=n at *;clear hn;by_cases c1:base≤at_
 ·by_cases c2:(at_-base)/8<n
  ·have hv:b9 base n at_=(at_-base)/8:=by simp [b9,c1,c2]
   rw [hv];clear hv;go_enter Tryz.func122,Tryz.ntmps122
   go_wp2
   go_ret;exact ⟨rfl,rfl⟩
  ·have hv:b9 base n at_=-1:=by simp [b9,c2]
   rw [hv];clear hv;go_enter Tryz.func122,Tryz.ntmps122
   go_wp2
   go_ret;exact ⟨rfl,rfl⟩
 ·have hv:b9 base n at_=-1:=by simp [b9,c1]
  rw [hv];clear hv;go_enter Tryz.func122,Tryz.ntmps122
  go_wp2
  go_ret;exact ⟨rfl,rfl⟩
theorem wP (p q:Nat) (base at_:Int) (l:List Bool) (w:World) (h:cP w p q base l)
  (hb:0≤base) (bH:base≤1000000) (ha:-9223372036854775808≤at_) (ha2:at_≤9223372036854775807) (hl:l.length≤1000000) :
  Calls Tryz.prog 115 #[.pointer (some ⟨p,0,none⟩), .int .i64 at_] w fun e w'=>e=.returned (.bool (decide (0≤b9 base l.length at_))) ∧
   cP w' p q base (gR base l at_)∧aa (·=q) w w':=by
 have H:=wO p q base at_ l w h hb bH ha ha2 hl;have h1:w.cell? ⟨p,1,none⟩=some (.slice (some ⟨q,0,none⟩) l.length l.length):=h.hp.cell 1;have HM:Hid (gR base l at_=if 0≤b9 base l.length at_ then l.set (b9 base l.length at_).toNat true else l):=rfl;have HL:0≤b9 base l.length at_→(b9 base l.length at_).toNat<l.length:=rO;have hup:b9 base l.length at_≤1000000:=by unfold b9;split <;> omega
 generalize gR base l at_=l' at *;generalize b9 base l.length at_=k at *;have HH:=Hz H;clear H;have HC:=Hz h;clear h;by_cases c:0≤k
 ·obtain ⟨k,rfl⟩:=Int.eq_ofNat_of_zero_le c;have hk:=HL c;simp only [Int.toNat_natCast] at hk HM;have hq:w.cell? ⟨q,k,none⟩=some (.bool (l.getD k false)):=by rw [HC.out.hq.cell];simp [List.getD,hk]
  have hf:w.frozen? ⟨q,k,none⟩=false:=HC.out.hq.free _;go_enter Tryz.func115,Tryz.ntmps115;go_wp2_with (go_at_call 122;refine HH.out.mono ?_;rintro e w' ⟨rfl,rfl⟩);go_ret;have hm:=HM.out;simp at hm;subst hm;refine ⟨rfl,⟨?_,?_⟩,(aa.refl (·=q) w).setCell (p:=⟨q,k,none⟩) (.inl rfl) _⟩
  ·simpa using HC.out.hp.dO (a:=⟨q,k,none⟩) HC.out.ne (.bool true)
  ·simpa [List.map_set] using HC.out.hq.aG k (.bool true)
 ·have hd:decide (0≤k)=false:=by simpa using c
  go_enter Tryz.func115,Tryz.ntmps115;go_wp2_with (go_at_call 122;refine HH.out.mono ?_;rintro e w' ⟨rfl,rfl⟩);go_ret;have hm:=HM.out;rw [if_neg (by omega)] at hm;subst hm;exact ⟨AR (by show Value.bool false=_;rw [hd]),HC.out,aa.refl _ _⟩
theorem zO (p q:Nat) (base at_:Int) (l:List Bool) (w:World) (h:cP w p q base l)
  (hb:0≤base) (bH:base≤1000000) (ha:-9223372036854775808≤at_) (ha2:at_≤9223372036854775807) (hl:l.length≤1000000) :
  Calls Tryz.prog 57 #[.pointer (some ⟨p,0,none⟩), .int .i64 at_] w fun e w'=>e=.returned (.bool (de base l at_))∧w=w':=by
 have H:=wO p q base at_ l w h hb bH ha ha2 hl;have h1:w.cell? ⟨p,1,none⟩=some (.slice (some ⟨q,0,none⟩) l.length l.length):=h.hp.cell 1;have HM:Hid (de base l at_=(decide (0≤b9 base l.length at_) && l.getD (b9 base l.length at_).toNat false)):=rfl;have HL:0≤b9 base l.length at_→(b9 base l.length at_).toNat<l.length:=rO;have hup:b9 base l.length at_≤1000000:=by unfold b9;split <;> omega
 generalize de base l at_=l' at *;generalize b9 base l.length at_=k at *;have HH:=Hz H;clear H;have HC:=Hz h;clear h;by_cases c:0≤k
 ·obtain ⟨k,rfl⟩:=Int.eq_ofNat_of_zero_le c;have hk:=HL c;simp only [Int.toNat_natCast] at hk HM;have hq:w.cell? ⟨q,k,none⟩=some (.bool (l.getD k false)):=by rw [HC.out.hq.cell];simp [List.getD,hk]
  go_enter Tryz.func57,Tryz.ntmps57;go_wp2_with (go_at_call 122;refine HH.out.mono ?_;rintro e w' ⟨rfl,rfl⟩);go_ret;exact ⟨by rw [HM.out];simp [List.getD,hk],rfl⟩
 ·have hd:decide (0≤k)=false:=by simpa using c
  go_enter Tryz.func57,Tryz.ntmps57;go_wp2_with (go_at_call 122;refine HH.out.mono ?_;rintro e w' ⟨rfl,rfl⟩);go_ret;exact ⟨by rw [HM.out];simp [hd],rfl⟩
theorem jZ:(Tryz.prog.info? 4).map (fun i=>(i.zero,i.size,i.bytes))=some (some (.bool false),1,1):=by kernel_rfl
theorem Cd (base words:Int) (w:World) (hw:words≤1000000) (hw2:-9223372036854775808≤words) :
  Calls Tryz.prog 112 #[.int .i64 base, .int .i64 words] w fun e w'=>e=.returned (.pointer (some ⟨w.heap.size+1,0,none⟩)) ∧
   cP w' (w.heap.size+1) w.heap.size base (List.replicate (gC words) false)∧w'.heap.size=w.heap.size+2∧aa (fun _=>False) w w':=by
 obtain ⟨i0,hi,hz0,hz1,hz2⟩:=info_parts jZ;have HN:Hid (gC words=((max words 0+7)/8).toNat):=rfl;have hmk:=fun (wx:World) (n:Nat) (h1:n≤9223372036854775807) (h2:n≤281474976710656)=>dP (P:=Tryz.prog) wx 122 4 i0 (.bool false) Tryz.underlying122 hi hz0 rfl hz1 n (by rw [hz2];omega) h1;have Hi:=Hz hi;clear hi hz0 hz1 hz2;have HM:=Hz hmk;clear hmk;by_cases c:0≤words
 ·have hm:(gC words:Int)=(words+8-1)/8:=by rw [HN.out];omega
  have hk:=fun (wx:World)=>HM.out wx (gC words) (by omega) (by omega);have h2:max words 0=words:=by omega
  rw [hm] at hk;have Hm:=Hz hm;clear hm;generalize hn:gC words=n at *;clear hn;go_enter Tryz.func112,Tryz.ntmps112
  go_wp2
  go_ret;exact ⟨rfl,⟨.newAt _ (by simp) (by simp),(aj.newAt _ rfl (by simp)).alloc _⟩,by simp,((aa.refl _ _).alloc _).alloc _⟩
 ·have hm:gC words=0:=by rw [HN.out];omega
  have hk:∀ wx:World,(Instr.makeSlice 122 (.int .i64 0) (.int .i64 0)).run Tryz.prog wx=.ok (.slice (some ⟨wx.heap.size,0,none⟩) 0 0) (wx.alloc (.cells #[] 4)):=fun wx=>by simpa using HM.out wx 0 (by omega) (by omega)
  have h2:max words 0=0:=by omega
  rw [hm];have Hm:=Hz hm;clear hm;go_enter Tryz.func112,Tryz.ntmps112
  go_wp2
  go_ret;exact ⟨rfl,⟨.newAt _ (by simp) (by simp),(aj.newAt _ rfl (by simp)).alloc _⟩,by simp,((aa.refl _ _).alloc _).alloc _⟩
theorem uR (p q:Nat) (base:Int) (l:List Bool) (w:World) (h:cP w p q base l) :
  Calls Tryz.prog 63 #[.pointer (some ⟨p,0,none⟩)] w fun e w'=>e=.returned (.tuple #[]) ∧
   cP w' p q base (List.replicate l.length false)∧aa (·=q) w w':=by
 have h1:w.cell? ⟨p,1,none⟩=some (.slice (some ⟨q,0,none⟩) l.length l.length):=h.hp.cell 1;have hk:=su (P:=Tryz.prog) w 122 0 4 (.bool false) Tryz.underlying122 (by intro w;kernel_rfl) rfl rfl q l.length l.length _ h.hq (by simp);have HC:=Hz h;clear h;go_enter Tryz.func63,Tryz.ntmps63
 go_wp2
 go_end0;refine ⟨rfl,⟨?_,?_⟩,?_⟩
 ·simpa using HC.out.hp.lU HC.out.ne _
 ·simpa using HC.out.hq.setRow (List.replicate l.length (.bool false))
 ·exact (aa.refl (·=q) w).setRow (.inl rfl) _
end
section
open Go.RowKit
def aE (l:List (Int × Int)):List Value:=l.flatMap fun e=>[.int .i64 e.1, .int .i64 e.2]
theorem cD (l:List (Int × Int)):(aE l).length=l.length*2:=by
 induction l with
 | nil=>rfl
 | cons e l ih=>simp [aE] at ih ⊢;omega
structure aZ (w:World) (p:Nat) (rv wv:Value) (ah wait:List (Int × Int)):Prop where
 hp:aj w p [rv,wv] 133
 hr:Sl w 101 2 rv ah.length (aE ah)
 hw:Sl w 101 2 wv wait.length (aE wait)
 ap:∀ k,¬ (ak rv k∧ak wv k)
theorem aZ.pr {w:World} {p:Nat} {rv wv:Value} {ah wait:List (Int × Int)} (h:aZ w p rv wv ah wait):¬ ak rv p:=fun hk=>by
 obtain ⟨_,cur,hc⟩:=h.hr.own hk;exact (hc.ne h.hp (by decide)) rfl
theorem aZ.pw {w:World} {p:Nat} {rv wv:Value} {ah wait:List (Int × Int)} (h:aZ w p rv wv ah wait):¬ ak wv p:=fun hk=>by
 obtain ⟨_,cur,hc⟩:=h.hw.own hk;exact (hc.ne h.hp (by decide)) rfl
def aF (p:Nat) (rv wv:Value) (k:Nat):Prop:=k=p∨ak rv k∨ak wv k
theorem aZ.jN {w:World} {p:Nat} {rv wv:Value} {ah wait:List (Int × Int)} (h:aZ w p rv wv ah wait) {k:Nat} (hk:aF p rv wv k):k<w.heap.size:=by
 rcases hk with rfl | hk | hk
 ·exact h.hp.lt
 ·exact (h.hr.own hk).1
 ·exact (h.hw.own hk).1
theorem aZ.ab {w w':World} {p:Nat} {rv wv:Value} {ah wait:List (Int × Int)} {S:Nat→Prop} (h:aZ w p rv wv ah wait) (k:aa S w w') (hn:∀ b,aF p rv wv b→¬ S b):aZ w' p rv wv ah wait:=
 ⟨k.aq h.hp (hn p (.inl rfl)),h.hr.ab k (fun g hg=>hn g (.inr (.inl hg))),h.hw.ab k (fun g hg=>hn g (.inr (.inr hg))),h.ap⟩
def sQ (w:World) (p:Nat) (rv wv:Value) (w':World) (ah wait:List (Int × Int)):Prop:=
 ∃ rv' wv',aZ w' p rv' wv' ah wait∧aa (aF p rv wv) w w'∧∀ k,aF p rv' wv' k→aF p rv wv k∨w.heap.size≤k
theorem wQ (p:Nat) (rv wv:Value) (ah wait:List (Int × Int)) (w:World) (h:aZ w p rv wv ah wait) (h1:ah.length≤1000000) (h2:wait.length≤1000000) :
  Calls Tryz.prog 117 #[.pointer (some ⟨p,0,none⟩)] w fun e w'=>e=.returned (.bool (decide (24≤ah.length+wait.length)))∧aa (fun _=>False) w w':=by
 obtain ⟨ro,rc,rfl,_,_,_⟩:=h.hr.rd;obtain ⟨wo,wc,rfl,_,_,_⟩:=h.hw.rd;have c0:w.cell? ⟨p,0,none⟩=_:=h.hp.cell 0;have c1:w.cell? ⟨p,1,none⟩=_:=h.hp.cell 1;simp only [Lz,aC] at c0 c1;have hw:IntKind.i64.wrap ((ah.length:Int)+(wait.length:Int))=(ah.length:Int)+(wait.length:Int):=IntWalk.i64_in _ (by omega);go_enter Tryz.func117,Tryz.ntmps117;go_wp2_with fail;refine ct [(0,0),(1,0),(2,0),(5,0),(6,0),(7,0),(3,0),(4,0),(8,0),(9,0),(10,0),(11,0),(12,0)] (fun w'=>w'.cell? ⟨p,0,none⟩=some (.slice ro ah.length rc)∧w'.cell? ⟨p,1,none⟩=some (.slice wo wait.length wc)) (by kernel_rfl) (by kernel_rfl) ⟨c0,c1⟩ ?_
 iterate 13 (refine bj rfl rfl _ (fun w' hG=>by obtain ⟨g0,g1⟩:=hG;go_simp;exact bu.mk _ _) (fun K hK=>?_);go_simp;refine hK _ ?_;clear hK K)
 refine dv ?_;go_wp2_with fail;go_ret;refine ⟨db ?_,(aa.refl _ _).drew⟩;congr 1;simp only [eq_iff_iff];omega
theorem iq:(Tryz.prog.info? 101).map (fun i=>(i.zero,i.size,i.bytes))=some (some (.agg #[.int .i64 0, .int .i64 0]),2,16):=by kernel_rfl
theorem yh (p:Nat) (rv wv:Value) (ah wait:List (Int × Int)) (g t:Int) (w:World) (h:aZ w p rv wv ah wait) (h1:ah.length≤1000000) (h2:wait.length≤1000000) (hf:24≤ah.length+wait.length) :
  Calls Tryz.prog 51 #[.pointer (some ⟨p,0,none⟩), .agg #[.int .i64 g, .int .i64 t]] w fun e w'=>e=.returned (.bool false)∧aa (fun _=>False) w w':=by
 have H:=Hz (h.ab ((Kz w).alloc (.cells #[.int .i64 g, .int .i64 t] 101)) (fun _ _ h=>h));clear h;have hd:decide (24≤ah.length+wait.length)=true:=by simpa using hf
 go_enter Tryz.func51,Tryz.ntmps51;go_wp2_with fail;refine (wQ p rv wv ah wait _ H.out h1 h2).mono ?_;rintro e w1 ⟨rfl,hk⟩;rw [hd];go_wp2_with fail;go_ret;exact ⟨rfl,((aa.refl _ _).alloc _).trans hk⟩
theorem yi (p:Nat) (rv wv:Value) (ah wait:List (Int × Int)) (g t:Int) (w:World) (h:aZ w p rv wv ah wait) (h1:ah.length≤1000000) (h2:wait.length≤1000000) (hf:¬ 24≤ah.length+wait.length) :
  Calls Tryz.prog 51 #[.pointer (some ⟨p,0,none⟩), .agg #[.int .i64 g, .int .i64 t]] w fun e w'=>e=.returned (.bool true)∧sQ w p rv wv w' (ah ++ [(g,t)]) wait:=by
 obtain ⟨i0,hi,hz0,hz1,hz2⟩:=info_parts iq;have Hi:=Hz hi;have Hz0:=Hz hz0;have Hz1:=Hz hz1;have Hz2:=Hz hz2;clear hi hz0 hz1 hz2;have HW:=Hz h;have H:=Hz (h.ab ((Kz w).alloc (.cells #[.int .i64 g, .int .i64 t] 101)) (fun _ _ h=>h));have HB:=Hz (aj.newAt (w:=w) (b:=w.heap.size) (T:=101) #[.int .i64 g, .int .i64 t] rfl rfl);clear h;have hd:decide (24≤ah.length+wait.length)=false:=by simpa using hf
 obtain ⟨ro,rc,rfl,_,_,_⟩:=HW.out.hr.rd;go_enter Tryz.func51,Tryz.ntmps51;go_wp2_with fail;refine (wQ p _ wv ah wait _ H.out h1 h2).mono ?_;rintro e w1 ⟨rfl,hk⟩;rw [hd];have HB1:=Hz (hk.aq HB.out (fun h=>h));have HW1:=Hz (H.out.ab hk (fun _ _ h=>h));have HK1:=Hz (((aa.refl (aF p (.slice ro ah.length rc) wv) w).alloc (.cells #[.int .i64 g, .int .i64 t] 101)).trans (hk.mono fun _ _ h=>h.elim));clear hk;have c0:=HW1.out.hp.cell 0;have b0:=HB1.out.cell 0;have b1:=HB1.out.cell 1;have f0:=HW1.out.hp.free 0;simp only [Lz,aC] at c0 b0 b1;go_wp2_with fail;refine ct [(0,0),(1,0),(2,0),(3,0),(4,0),(5,0),(6,1),(7,1),(8,0),(9,0),(10,2)] (fun w'=>w'.cell? ⟨p,0,none⟩=some (.slice ro ah.length rc)∧w'.cell? ⟨w.heap.size,0,none⟩=some (.int .i64 g)∧w'.cell? ⟨w.heap.size,1,none⟩=some (.int .i64 t)) (by kernel_rfl) (by kernel_rfl) ⟨c0,b0,b1⟩ ?_
 iterate 6 (refine bj rfl rfl _ (fun w' hG=>by obtain ⟨g0,g1,g2⟩:=hG;go_simp;exact bu.mk _ _) (fun K hK=>?_);go_simp;refine hK _ ?_;clear hK K)
 refine bx rfl rfl (fun K hK=>?_);unfold aw;go_simp;refine hK _ _ ?_ ?_
 ·have k:=(Kz w1).alloc (.cells #[.int .i64 g, .int .i64 t] 101);have b:=k.aq HW1.out.hp (fun h=>h);have b':=k.aq HB1.out (fun h=>h);exact ⟨b.cell 0,b'.cell 0,b'.cell 1⟩
 clear hK K;refine bx rfl rfl (fun K hK=>?_);refine dF (.tmp 11) (.tmp 13) 131 rfl 101 i0 (.agg #[.int .i64 0, .int .i64 0]) 2 16 Tryz.underlying131 Hi.out Hz0.out Hz1.out Hz2.out rfl (by decide) _ ah.length (aE ah) rfl ?ha ⟨w1.heap.size,0,none⟩ 1 1 [.int .i64 g, .int .i64 t] rfl rfl ?hb ?hc ?hd ?he ?hf
 case ha=>exact HW1.out.hr.ab (((Kz w1).alloc _).drew) (fun _ _ h=>h)
 case hb=>exact bX w1 101 #[.int .i64 g, .int .i64 t]
 case hc=>intro u hu;simp at hu;rcases hu with rfl | rfl <;> rfl
 case hd=>unfold maxLen;omega
 case he=>omega
 case hf=>
  intro v2 w2 hs2 hk2 ho2;have hka:aa (fun _=>False) w1 ((w1.alloc (.cells #[.int .i64 g, .int .i64 t] 101)).drew):=((Kz w1).alloc _).drew;have hp2:=hk2.aq (hka.aq HW1.out.hp (fun h=>h)) HW1.out.pr;have hw2:=(HW1.out.hw.ab hka (fun _ _ h=>h)).ab hk2 (fun b hb hr=>HW1.out.ap b ⟨hr,hb⟩);have bH:=hk2.aq (hka.aq HB1.out (fun h=>h)) (fun hr=>by have:=(HW.out.hr.own hr).1;omega);refine hK _ _ ⟨hp2.cell 0,bH.cell 0,bH.cell 1⟩ ?_;clear hK K;have hs3:Sl w2 101 2 v2 (ah ++ [(g,t)]).length (aE (ah ++ [(g,t)])):=by simpa [aE] using hs2
  obtain ⟨vo,vc,rfl,_,_,_⟩:=hs3.rd;have HK2:Hid (aa (aF p (.slice ro ah.length rc) wv) w w2):=(HK1.out.trans (hka.mono fun _ _ h=>h.elim)).trans (hk2.mono fun k _ hk=>.inr (.inl hk));have HO:Hid (∀ k,ak (.slice vo (ah ++ [(g,t)]).length vc) k→ak (.slice ro ah.length rc) k∨w.heap.size≤k):=fun k hk=>by
   rcases ho2 k hk with h | h
   ·exact .inl h
   ·have:=HK1.out.size;simp at h;exact .inr (by omega)
  have HP:=Hz hp2;have HW2:=Hz hw2;have HS:=Hz hs3;have HWL:Hid (∀ k,ak wv k→k<w.heap.size):=fun k hk=>(HW.out.hw.own hk).1;clear hs2 hk2 ho2 hka hp2 hw2 bH hs3;have d0:=HP.out.cell 0;have e0:=HP.out.free 0;simp only [Lz] at d0
  iterate 2 (refine bj rfl rfl _ (fun w' hG=>by obtain ⟨g0,g1,g2⟩:=hG;go_simp;exact bu.mk _ _) (fun K hK=>?_);go_simp;refine hK _ ?_;clear hK K)
  refine kr rfl rfl (fun K hK=>?_);unfold aw;go_simp;refine hK _ _ ?_;clear hK K;refine dv ?_;go_wp2_with fail;go_ret;refine ⟨rfl,_,_,⟨by simpa using HP.out.aG 0 _,HS.out.ab ((aa.refl (·=p) w2).setCell (p:=⟨p,0,none⟩) (.inl rfl) _) ?_,HW2.out.ab ((aa.refl (·=p) w2).setCell (p:=⟨p,0,none⟩) (.inl rfl) _) ?_,?_⟩,HK2.out.setCell (p:=⟨p,0,none⟩) (.inl (.inl rfl)) _,?_⟩
  ·rintro b hb rfl;obtain ⟨_,cur,hc⟩:=HS.out.own hb;exact (hc.ne HP.out (by decide)) rfl
  ·rintro b hb rfl;obtain ⟨_,cur,hc⟩:=HW2.out.own hb;exact (hc.ne HP.out (by decide)) rfl
  ·rintro k ⟨h1,h2⟩;rcases HO.out k h1 with h | h
   ·exact HW.out.ap k ⟨h,h2⟩
   ·have:=HWL.out k h2;omega
  ·rintro k (h | h | h)
   ·exact .inl (.inl h)
   ·rcases HO.out k h with h | h
    ·exact .inl (.inr (.inl h))
    ·exact .inr h
   ·exact .inl (.inr (.inr h))
end
section
open Go.RowKit
theorem pA:∀ (l:List (Int × Int)) (i:Nat),i<l.length→(aE l)[i*2]? = some (.int .i64 (l.getD i (0,0)).1)∧(aE l)[i*2+1]? = some (.int .i64 (l.getD i (0,0)).2)
 | e :: l,0,_=>by simp [aE]
 | e :: l,i+1,h=>by
  have ih:=pA l i (by simpa using h);have h1:(i+1)*2=i*2+1+1:=by omega
  have h2:(i+1)*2+1=i*2+1+1+1:=by omega
  have e0:aE (e :: l)=.int .i64 e.1 :: .int .i64 e.2 :: aE l:=by simp [aE]
  rw [h2,h1,e0];simpa using ih
theorem Rd.fP {w:World} {ao:Option Addr} {l:List (Int × Int)} (h:Rd w ao (aE l)) (i:Nat) (hi:i<l.length) :
  ∃ g o,ao=some ⟨g,o,none⟩∧g<w.heap.size∧w.cell? ⟨g,o+i*2,none⟩=some (.int .i64 (l.getD i (0,0)).1)∧w.cell? ⟨g,o+i*2+1,none⟩=some (.int .i64 (l.getD i (0,0)).2):=by
 have hl:=cD l;obtain ⟨g,o,rfl,hg,hc⟩:=h (by intro e;rw [e] at hl;simp at hl;omega);have hi2:=pA l i hi;refine ⟨g,o,rfl,hg,?_,?_⟩
 ·rw [hc _ (by omega)];exact hi2.1
 ·rw [show o+i*2+1=o+(i*2+1) by omega,hc _ (by omega)];exact hi2.2
theorem wR (b:Nat) (x g t:Int) (w:World) (h:w.cell? ⟨b,0,none⟩=some (.int .i64 x)) (hb:b<w.heap.size) :
  Calls Tryz.prog 160 #[.agg #[.int .i64 g, .int .i64 t], .pointer (some ⟨b,0,none⟩)] w fun e w'=>e=.returned (.bool (g == x))∧aa (fun _=>False) w w':=by
 go_enter Tryz.func160,Tryz.ntmps160
 go_wp2
 go_ret;exact ⟨rfl,(aa.refl _ _).alloc _⟩
def findG (x:Int):List (Int × Int)→Nat
 | []=>0
 | e :: l=>if e.1=x then 0 else findG x l+1
def kV (x:Int) (l:List (Int × Int)):Int:=if findG x l<l.length then (findG x l:Int) else -1
theorem qj {x:Int}:∀ {l:List (Int × Int)} {k:Nat},k<l.length→(∀ j,j<k→(l.getD j (0,0)).1≠x)→(l.getD k (0,0)).1=x→findG x l=k
 | e :: l,0,_,_,h=>by simp at h;simp [findG,h]
 | e :: l,k+1,hk,hj,h=>by
  have h0:=hj 0 (by omega);simp at h0;simp only [findG,h0,if_false];rw [qj (k:=k) (by simpa using hk) (fun j hjk=>by simpa using hj (j+1) (by omega)) (by simpa using h)]
theorem qk {x:Int}:∀ {l:List (Int × Int)},(∀ j,j<l.length→(l.getD j (0,0)).1≠x)→findG x l=l.length
 | [],_=>rfl
 | e :: l,h=>by
  have h0:=h 0 (by simp);simp at h0;simp only [findG,h0,if_false];rw [qk (fun j hj=>by simpa using h (j+1) (by simpa using hj))];rfl
theorem jO (ao:Option Addr) (cap b:Nat) (x:Int) (l:List (Int × Int)) (w:World) (h:Rd w ao (aE l)) (hc:w.cell? ⟨b,0,none⟩=some (.int .i64 x)) (hl:l.length≤9223372036854775806) (hb:b<w.heap.size) :
  Calls Tryz.prog 159 #[.slice ao l.length cap, .func (.func 160) #[] #[.pointer (some ⟨b,0,none⟩)]] w fun e w'=>
   e=.returned (.int .i64 (kV x l))∧aa (fun _=>False) w w':=by
 have HR:=Hz h;have HB:=Hz hc;clear h hc;go_enter Tryz.func159,Tryz.ntmps159;go_wp2_with fail;go_loopw [8] (fun i wr=>∃ k:Nat,k≤l.length∧i=.int .i64 k∧Hid (∀ j,j<k→(l.getD j (0,0)).1≠x)∧aa (fun _=>False) w wr) (fun i _=>l.length-(intOf i).toNat)
 case atStart=>exact ⟨0,Nat.zero_le _,rfl,(fun j hj=>by omega),aa.refl _ _⟩
 case round=>
  obtain ⟨k,hk,rfl,hno,hkk⟩:=hrel;have HK:=Hz hkk;clear hkk;by_cases hlt:k<l.length
  ·obtain ⟨g,o,rfl,_,hc0,hc1⟩:=(HR.out.ab HK.out (fun _ _ _ h=>h)).fP k hlt;have hbb:wr.cell? ⟨b,0,none⟩=some (.int .i64 x):=by
    rw [←HB.out];exact World.cell?_of_block (w:=w) (a:=⟨b,0,none⟩) (HK.out.block b hb (fun h=>h))
   have hbs:b<wr.heap.size:=Nat.lt_of_lt_of_le hb HK.out.size;generalize hv:l.getD k (0,0)=v at *;have HV:=Hz hv;clear hv;cases he:(v.1 == x)
   ·go_wp2_with (go_at_call 160;refine (wR b x v.1 v.2 _ hbb hbs).mono ?_;rintro e w2 ⟨rfl,hk2⟩);go_roundw
    case rel=>exact ⟨k+1,by omega,by go_num,fun j hj=>by
     by_cases e:j=k
     ·subst e;rw [HV.out];simpa using he
     ·exact hno.out j (by omega),HK.out.trans hk2⟩
    case measure=>simp [intOf];omega
   ·have HE:=Hz (qj hlt hno.out (by rw [HV.out];simpa using he));go_wp2_with (go_at_call 160;refine (wR b x v.1 v.2 _ hbb hbs).mono ?_;rintro e w2 ⟨rfl,hk2⟩);go_ret;exact ⟨cM (by unfold kV;rw [HE.out,if_pos hlt]),HK.out.trans hk2⟩
  ·obtain rfl:k=l.length:=by omega
   have HE:=Hz (qk hno.out);go_wp2_with fail;go_ret;exact ⟨cM (by unfold kV;rw [HE.out,if_neg (by omega)]),HK.out⟩
theorem pB {l:List (Int × Int)} {u:Value} (h:u ∈ aE l):u.oneCell'=true:=by
 simp only [aE,List.mem_flatMap] at h;obtain ⟨e,_,he⟩:=h;simp at he;rcases he with rfl | rfl <;> rfl
theorem fw (e:Int × Int) (l:List (Int × Int)):aE (e :: l)=.int .i64 e.1 :: .int .i64 e.2 :: aE l:=by simp [aE]
theorem mD:∀ {l:List (Int × Int)} {i:Nat},i<l.length→aE (l.eraseIdx i)=(aE l).take (i*2) ++ (aE l).drop ((i+1)*2)
 | e :: l,0,_=>by simp [fw]
 | e :: l,i+1,h=>by
  have ih:=mD (l:=l) (i:=i) (by simpa using h);have e1:(i+1)*2=i*2+1+1:=by omega
  have e2:(i+1+1)*2=i*2+1+1+1+1:=by omega
  rw [List.eraseIdx_cons_succ,fw,fw,ih,e2,e1]
  rfl
theorem uS {cur news rest:List Value} {o k j:Nat} (hk:o+k≤cur.length) (hj:j=k+news.length) (tail:List Value) :
  (((cur.take (o+k) ++ news ++ tail).take (o+j) ++ rest).drop o).take j=(cur.drop o).take k ++ news:=by
 subst hj;have h1:(cur.take (o+k) ++ news ++ tail).take (o+(k+news.length))=cur.take (o+k) ++ news:=by
  apply List.take_left';simp;omega
 rw [h1,List.append_assoc,List.drop_append_of_le_length (by simp;omega),List.drop_take,show o+k-o=k by omega,←List.append_assoc];apply List.take_left';simp;omega
theorem sR (g o cap i m:Nat) (l:List (Int × Int)) (cur:List Value) (w:World) (hb:aj w g cur 101) (hn:l.length=i+1+m) (hcap:i+1+m≤cap) (hcm:cap≤9223372036854775807) (hoc:o+cap*2≤cur.length)
  (hx:(cur.drop o).take (l.length*2)=aE l) :
  Calls Tryz.prog 161 #[.slice (some ⟨g,o,none⟩) (i+1+m) cap, .int .i64 i, .int .i64 ((i:Int)+1)] w fun e w'=>
   e=.returned (.slice (some ⟨g,o,none⟩) (i+m) cap)∧Sl w' 101 2 (.slice (some ⟨g,o,none⟩) (i+m) cap) (i+m) (aE (l.eraseIdx i))∧aa (·=g) w w':=by
 obtain ⟨i0,hi0,hz0,hz1,hz2⟩:=info_parts iq;have Hi:=Hz hi0;have Hz1:=Hz hz1;clear hi0 hz0 hz1 hz2;have HX:=Hz hx;have HB:=Hz hb;have HN:=Hz hn;clear hx hb hn;have hne:((i:Int) == (i:Int)+1)=false:=by simp;omega
 have b1:(0:Int)≤(i:Int)+1:=by omega
 have b2:(i:Int)+1≤((i+1+m:Nat):Int):=by omega
 have b3:(i:Int)+1≤(i:Int)+1+(m:Int):=by omega
 have b4:(i:Int)≤(cap:Int):=by omega
 have b5:(i:Int)≤(i:Int)+1:=by omega
 by_cases hcc:cap=i+1
 ·have hif:(if cap=i+1 then some (⟨g,o,none⟩:Addr) else some ⟨g,o+(i+1)*2,none⟩)=some ⟨g,o,none⟩:=if_pos hcc;have hif2:(if cap=i+m then some (⟨g,o,none⟩:Addr) else some ⟨g,o+(i+m)*2,none⟩)=some ⟨g,o+(i+m)*2,none⟩:=if_neg (by omega);have HCC:=Hz hcc;clear hcc;have hm0:m≤0:=by have:=HCC.out;omega
  go_enter Tryz.func161,Tryz.ntmps161;go_wp2_with fail;refine ct [(0,0),(1,0),(2,0),(3,0),(4,0),(5,0),(6,1),(7,0)] (fun _=>True) (by kernel_rfl) (by kernel_rfl) trivial ?_
  iterate 6 (refine bj rfl rfl _ (fun w' hG=>by obtain ⟨_⟩:=hG;go_simp;exact bu.mk _ _) (fun K hK=>?_);go_simp;refine hK _ ?_;clear hK K)
  refine bx rfl rfl (fun K hK=>?_);refine nD (.tmp 22) (.tmp 25) 131 rfl 101 i0 2 Tryz.underlying131 Hi.out Hz1.out g o i cap cur rfl HB.out ⟨g,o,none⟩ m (cap-(i+1)) ((aE l).drop ((i+1)*2)) ?hxq ?hlq ?hnq ?h1q ?hrq hoc ?hkq
  case hxq=>rfl
  case hlq=>rw [List.length_drop,cD,HN.out];omega
  case hnq=>
   intro j u hu;have hj:=(List.getElem?_eq_some_iff.1 hu).1;rw [List.length_drop,cD,HN.out] at hj;omega
  case h1q=>intro u hu;exact pB (List.mem_of_mem_drop hu)
  case hrq=>omega
  case hkq=>
   refine hK _ _ trivial ?_;clear hK K;have ax:aj (w.drew.setRow g (cur.take (o+i*2) ++ (aE l).drop ((i+1)*2) ++ cur.drop (o+i*2+((aE l).drop ((i+1)*2)).length)).toArray) g _ 101:=aj.setRow (w:=w.drew) HB.out _;have hk1:aa (·=g) w (w.drew.setRow g (cur.take (o+i*2) ++ (aE l).drop ((i+1)*2) ++ cur.drop (o+i*2+((aE l).drop ((i+1)*2)).length)).toArray):=((aa.refl (·=g) w).drew).setRow (g:=g) (.inl rfl) _;generalize hc1:cur.take (o+i*2) ++ (aE l).drop ((i+1)*2) ++ cur.drop (o+i*2+((aE l).drop ((i+1)*2)).length)=c1 at *;generalize w.drew.setRow g _=w1 at *;have hln:((aE l).drop ((i+1)*2)).length=m*2:=by rw [List.length_drop,cD,HN.out];omega
   have hl1:c1.length=cur.length:=by
    rw [←hc1];simp only [List.length_append,List.length_take,List.length_drop,hln];simp at hln;omega
   obtain ⟨zs,hzl,hclr⟩:=kQ (P:=Tryz.prog) w1 131 0 101 (.agg #[.int .i64 0, .int .i64 0]) Tryz.underlying131 (by intro w;kernel_rfl) (by intro u hu;simp [Value.cells] at hu;subst hu;rfl) (by decide) g (o+(i+m)*2) (i+1+m-(i+m)) (cap-(i+m)) _ ax (by rw [hl1];show o+(i+m)*2+(i+1+m-(i+m))*2≤_;omega);generalize hc2:c1.take (o+(i+m)*2) ++ zs ++ c1.drop (o+(i+m)*2+zs.length)=c2 at *;have HB2:=Hz (ax.setRow c2);have HK2:=Hz (hk1.setRow (g:=g) (.inl rfl) c2.toArray);have HL:=Hz hl1;have HZ:=Hz hzl;have HLN:=Hz hln;have HC1:=Hz hc1;have HC2:=Hz hc2;clear ax hk1 hl1 hzl hln hc1 hc2
   iterate 1 (refine bj rfl rfl _ (fun w' hG=>by obtain ⟨_⟩:=hG;go_simp;exact bu.mk _ _) (fun K hK=>?_);go_simp;refine hK _ ?_;clear hK K)
   refine dv ?_;go_wp2_with fail;go_ret;refine ⟨rfl,⟨?_, .inr ⟨g,o,cap,_,rfl,HB2.out,by omega,by unfold maxLen;omega,?_,?_⟩⟩,HK2.out⟩
   ·rw [cD,List.length_eraseIdx_of_lt (by rw [HN.out];omega),HN.out];omega
   ·have h1:=HL.out;have h2:=HZ.out;have h3:zs.length=(i+1+m-(i+m))*2:=h2;rw [←HC2.out];simp only [List.length_append,List.length_take,List.length_drop];omega
   ·rw [←HC2.out,←HC1.out,List.append_assoc _ zs _,uS (by omega) (by rw [HLN.out];omega),mD (by rw [HN.out];omega)];congr 1;rw [←HX.out,HN.out,List.take_take,Nat.min_eq_left (by omega)]
 ·go_enter Tryz.func161,Tryz.ntmps161;go_wp2_with fail;refine ct [(0,0),(1,0),(2,0),(3,0),(4,0),(5,0),(6,1),(7,0)] (fun _=>True) (by kernel_rfl) (by kernel_rfl) trivial ?_
  iterate 6 (refine bj rfl rfl _ (fun w' hG=>by obtain ⟨_⟩:=hG;go_simp;exact bu.mk _ _) (fun K hK=>?_);go_simp;refine hK _ ?_;clear hK K)
  refine bx rfl rfl (fun K hK=>?_);refine nD (.tmp 22) (.tmp 25) 131 rfl 101 i0 2 Tryz.underlying131 Hi.out Hz1.out g o i cap cur rfl HB.out ⟨g,o+(i+1)*2,none⟩ m (cap-(i+1)) ((aE l).drop ((i+1)*2)) ?hx ?hl ?hn ?h1 ?hr hoc ?hk
  case hx=>rfl
  case hl=>rw [List.length_drop,cD,HN.out];omega
  case hn=>
   intro j u hu;have hj:=(List.getElem?_eq_some_iff.1 hu).1;rw [List.length_drop,cD,HN.out] at hj;rw [eY]
   show w.cell? ⟨g,o+(i+1)*2+j,none⟩=some u
   rw [HB.out.cell,←hu,←HX.out,HN.out,List.getElem?_drop,List.getElem?_take,if_pos (by omega),List.getElem?_drop];congr 1;omega
  case h1=>intro u hu;exact pB (List.mem_of_mem_drop hu)
  case hr=>omega
  case hk=>
   refine hK _ _ trivial ?_;clear hK K;have ax:aj (w.drew.setRow g (cur.take (o+i*2) ++ (aE l).drop ((i+1)*2) ++ cur.drop (o+i*2+((aE l).drop ((i+1)*2)).length)).toArray) g _ 101:=aj.setRow (w:=w.drew) HB.out _;have hk1:aa (·=g) w (w.drew.setRow g (cur.take (o+i*2) ++ (aE l).drop ((i+1)*2) ++ cur.drop (o+i*2+((aE l).drop ((i+1)*2)).length)).toArray):=((aa.refl (·=g) w).drew).setRow (g:=g) (.inl rfl) _;generalize hc1:cur.take (o+i*2) ++ (aE l).drop ((i+1)*2) ++ cur.drop (o+i*2+((aE l).drop ((i+1)*2)).length)=c1 at *;generalize w.drew.setRow g _=w1 at *;have hln:((aE l).drop ((i+1)*2)).length=m*2:=by rw [List.length_drop,cD,HN.out];omega
   have hl1:c1.length=cur.length:=by
    rw [←hc1];simp only [List.length_append,List.length_take,List.length_drop,hln];simp at hln;omega
   obtain ⟨zs,hzl,hclr⟩:=kQ (P:=Tryz.prog) w1 131 0 101 (.agg #[.int .i64 0, .int .i64 0]) Tryz.underlying131 (by intro w;kernel_rfl) (by intro u hu;simp [Value.cells] at hu;subst hu;rfl) (by decide) g (o+(i+m)*2) (i+1+m-(i+m)) (cap-(i+m)) _ ax (by rw [hl1];show o+(i+m)*2+(i+1+m-(i+m))*2≤_;omega);generalize hc2:c1.take (o+(i+m)*2) ++ zs ++ c1.drop (o+(i+m)*2+zs.length)=c2 at *;have HB2:=Hz (ax.setRow c2);have HK2:=Hz (hk1.setRow (g:=g) (.inl rfl) c2.toArray);have HL:=Hz hl1;have HZ:=Hz hzl;have HLN:=Hz hln;have HC1:=Hz hc1;have HC2:=Hz hc2;clear ax hk1 hl1 hzl hln hc1 hc2
   iterate 1 (refine bj rfl rfl _ (fun w' hG=>by obtain ⟨_⟩:=hG;go_simp;exact bu.mk _ _) (fun K hK=>?_);go_simp;refine hK _ ?_;clear hK K)
   refine dv ?_;go_wp2_with fail;go_ret;refine ⟨rfl,⟨?_, .inr ⟨g,o,cap,_,rfl,HB2.out,by omega,by unfold maxLen;omega,?_,?_⟩⟩,HK2.out⟩
   ·rw [cD,List.length_eraseIdx_of_lt (by rw [HN.out];omega),HN.out];omega
   ·have h1:=HL.out;have h2:=HZ.out;have h3:zs.length=(i+1+m-(i+m))*2:=h2;rw [←HC2.out];simp only [List.length_append,List.length_take,List.length_drop];omega
   ·rw [←HC2.out,←HC1.out,List.append_assoc _ zs _,uS (by omega) (by rw [HLN.out];omega),mD (by rw [HN.out];omega)];congr 1;rw [←HX.out,HN.out,List.take_take,Nat.min_eq_left (by omega)]
end
end Go.Proofs.YtjifdalflepcoacGreat
