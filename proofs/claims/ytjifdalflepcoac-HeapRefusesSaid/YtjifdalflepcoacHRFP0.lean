/-
  Parts of the proof, merged: what the functions do, and plain laws.
-/
import Derived.WalkKit
import Derived.WalkSpells
import Derived.WalkLawsBesides
import Derived.Deep.QuietTactic
import Derived.BigQuiet
import Derived.Lib.Hide
import Derived.ProofKit
import Derived.OpenShut
import Derived.Deep.Slices
import Derived.Deep.Fields
import Derived.ChangeSame
import Derived.Lib.SmallJoins
import Derived.Carry
set_option maxHeartbeats 16000000
set_option maxRecDepth 100000
set_option linter.unusedVariables false
set_option linter.unusedSimpArgs false
namespace Go.Proofs.Ytjifdalflepcoac
section
open Go.RowKit
theorem Hz {p:Prop} (h:p):Hid p:=Lib.hid h
theorem int_eq {k:IntKind} {a b:Int} (h:a=b):Value.int k a=Value.int k b:=by rw [h]
theorem ret_of {a b:Value} (h:a=b):Ending.returned a=Ending.returned b:=by rw [h]
theorem ret_int {k:IntKind} {a b:Int} (h:a=b):Ending.returned (.int k a)=Ending.returned (.int k b):=by rw [h]
theorem ret_bool {a b:Bool} (h:a=b):Ending.returned (.bool a)=Ending.returned (.bool b):=by rw [h]
def Blk (w:World) (b:Nat) (c:List Value) (T:TypeId):Prop:=w.heap[b]? = some (.cells c.toArray T (0,0))
theorem Blk.lt {w:World} {b:Nat} {c:List Value} {T:TypeId} (h:Blk w b c T):b<w.heap.size:=lt_of_block h
theorem Blk.cell {w:World} {b:Nat} {c:List Value} {T:TypeId} (h:Blk w b c T) (i:Nat):w.cell? ⟨b,i,none⟩=c[i]? := by
 unfold Blk at h;simp [World.cell?,h]
theorem Blk.free {w:World} {b:Nat} {c:List Value} {T:TypeId} (h:Blk w b c T) (i:Nat):w.frozen? ⟨b,i,none⟩=false:=by
 unfold Blk at h;simp [World.frozen?,h]
theorem Blk.ne {w:World} {a b:Nat} {c d:List Value} {T U:TypeId} (h:Blk w a c T) (k:Blk w b d U) (hTU:T≠U):a≠b:=by
 rintro rfl
 unfold Blk at h k
 rw [h] at k
 simp at k
 exact hTU k.2
theorem Blk.setSame {w:World} {b:Nat} {c:List Value} {T:TypeId} (h:Blk w b c T) (i:Nat) (v:Value):Blk (w.setCell ⟨b,i,none⟩ v) b (c.set i v) T:=by
 unfold Blk at *
 simp [World.setCell,Array.getElem?_modify,h]
theorem Blk.setOther {w:World} {b:Nat} {c:List Value} {T:TypeId} (h:Blk w b c T) {a:Addr} (hn:b≠a.block) (v:Value):Blk (w.setCell a v) b c T:=by
 unfold Blk at *
 rw [Below.heap_setCell _ _ _ _ hn];exact h
theorem Blk.alloc {w:World} {b:Nat} {c:List Value} {T:TypeId} (h:Blk w b c T) (o:Obj):Blk (w.alloc o) b c T:=by
 have:=h.lt
 unfold Blk at *
 rw [Below.heap_alloc _ _ _ this];exact h
theorem Blk.drew {w:World} {b:Nat} {c:List Value} {T:TypeId} (h:Blk w b c T):Blk w.drew b c T:=h
theorem Blk.new (w:World) (c:List Value) (T:TypeId):Blk (w.alloc (.cells c.toArray T)) w.heap.size c T:=by
 unfold Blk
 show (w.heap.push _)[w.heap.size]? = _
 simp
theorem Blk.newAt {w:World} {b:Nat} {c:List Value} {T:TypeId} (a:Array Value) (hb:b=w.heap.size) (hc:a.toList=c):Blk (w.alloc (.cells a T)) b c T:=by
 subst hb;subst hc
 simpa using Blk.new w a.toList T
structure Keeps (S:Nat→Prop) (w w':World):Prop where
 os:w'.os=w.os
 tape:w'.tape=w.tape
 output:w'.output=w.output
 size:w.heap.size≤w'.heap.size
 block:∀ k,k<w.heap.size→¬ S k→w'.heap[k]? = w.heap[k]?
theorem Keeps.refl (S:Nat→Prop) (w:World):Keeps S w w:=⟨rfl,rfl,rfl,Nat.le_refl _,fun _ _ _=>rfl⟩
theorem Kz (w:World):Keeps (fun _=>False) w w:=Keeps.refl _ w
theorem Keeps.trans {S:Nat→Prop} {a b c:World} (h:Keeps S a b) (k:Keeps S b c):Keeps S a c:=
 ⟨k.os.trans h.os,k.tape.trans h.tape,k.output.trans h.output,Nat.le_trans h.size k.size,
  fun i hi hn=>(k.block i (Nat.lt_of_lt_of_le hi h.size) hn).trans (h.block i hi hn)⟩
theorem Keeps.mono {S T:Nat→Prop} {w w':World} (h:Keeps S w w') (hST:∀ k,k<w.heap.size→S k→T k):Keeps T w w':=
 ⟨h.os,h.tape,h.output,h.size,fun i hi hn=>h.block i hi (fun hs=>hn (hST i hi hs))⟩
theorem Keeps.blk {S:Nat→Prop} {w w':World} (h:Keeps S w w') {b:Nat} {c:List Value} {T:TypeId} (k:Blk w b c T) (hn:¬ S b):Blk w' b c T:=by
 have:=h.block b k.lt hn
 unfold Blk at *;rw [this];exact k
theorem Keeps.drew {S:Nat→Prop} {w w':World} (h:Keeps S w w'):Keeps S w w'.drew:=⟨h.os,h.tape,h.output,h.size,h.block⟩
theorem Keeps.alloc {S:Nat→Prop} {w w':World} (h:Keeps S w w') (o:Obj):Keeps S w (w'.alloc o):=
 h.trans ⟨rfl,rfl,rfl,by simp,fun k hk _=>Below.heap_alloc _ _ _ hk⟩
theorem Keeps.setCell {S:Nat→Prop} {w w':World} (h:Keeps S w w') {p:Addr} (hp:S p.block∨w.heap.size≤p.block) (u:Value):Keeps S w (w'.setCell p u):=by
 refine ⟨h.os,h.tape,h.output,by simpa using h.size,fun k hk hn=>?_⟩
 rw [Below.heap_setCell _ _ _ _ (by rintro rfl;rcases hp with hp | hp;exact hn hp;omega)]
 exact h.block k hk hn
theorem Keeps.below {S:Nat→Prop} {w w':World} (h:Keeps S w w') (hS:∀ k,k<w.heap.size→¬ S k):Below w.heap.size w w':=
 ⟨h.os,h.tape,h.output,h.size,fun k hk=>h.block k hk (hS k hk)⟩
theorem Keeps.from {S:Nat→Prop} {w₀ w w':World} (h₀:Keeps S w₀ w) (h:Keeps (fun k=>S k∨w₀.heap.size≤k) w w'):Keeps S w₀ w':=
 ⟨h.os.trans h₀.os,h.tape.trans h₀.tape,h.output.trans h₀.output,Nat.le_trans h₀.size h.size,
  fun i hi hn=>(h.block i (Nat.lt_of_lt_of_le hi h₀.size) (by rintro (hs | hs);exact hn hs;omega)).trans (h₀.block i hi hn)⟩
theorem Keeps.then {S T:Nat→Prop} {w₀ w w':World} (h₀:Keeps S w₀ w) (h:Keeps T w w') (hT:∀ k,T k→S k∨w₀.heap.size≤k):Keeps S w₀ w':=
 h₀.from (h.mono fun k _ hk=>hT k hk)
end
section
open Go.RowKit
theorem Blk.setRow {w:World} {b:Nat} {c:List Value} {T:TypeId} (h:Blk w b c T) (d:List Value):Blk (w.setRow b d.toArray) b d T:=
 setRow_heap w b _ _ T _ h
theorem heap_setRow_other (w:World) (g k:Nat) (cs:Array Value) (h:k≠g):(w.setRow g cs).heap[k]? = w.heap[k]? := by
 unfold World.setRow
 simp only [Array.getElem?_modify]
 rw [if_neg (fun e=>h e.symm)]
theorem size_setRow (w:World) (g:Nat) (cs:Array Value):(w.setRow g cs).heap.size=w.heap.size:=by simp [World.setRow]
theorem Blk.setRowOther {w:World} {b:Nat} {c:List Value} {T:TypeId} (h:Blk w b c T) {g:Nat} (hn:b≠g) (cs:Array Value):Blk (w.setRow g cs) b c T:=by
 unfold Blk at *
 rw [heap_setRow_other _ _ _ _ hn];exact h
theorem Keeps.setRow {S:Nat→Prop} {w w':World} (h:Keeps S w w') {g:Nat} (hp:S g∨w.heap.size≤g) (cs:Array Value):Keeps S w (w'.setRow g cs):=by
 refine ⟨h.os,h.tape,h.output,by rw [size_setRow];exact h.size,fun k hk hn=>?_⟩
 rw [heap_setRow_other _ _ _ _ (by rintro rfl;rcases hp with hp | hp;exact hn hp;omega)]
 exact h.block k hk hn
theorem madeCells_one (z:Value) (hz:z.cells=#[z]) (n:Nat):madeCells z.cells n=(List.replicate n z).toArray:=by
 rw [hz]
 apply Array.ext
 ·simp [size_madeCells]
 ·intro i h1 h2
  simp [madeCells,Nat.mod_one]
theorem zeroCells_one (z:Value) (hz:z.cells=#[z]) (n:Nat):Builtin.zeroCells z.cells n=(List.replicate n z).toArray:=by
 rw [hz]
 apply Array.ext
 ·simp [Builtin.zeroCells]
 ·intro i h1 h2
  simp [Builtin.zeroCells,Nat.mod_one]
theorem run_make_one {P:Program} (w:World) (t e:TypeId) (i:TypeInfo) (z:Value) (ht:P.underlying t=some (.slice e)) (hi:P.info? e=some i) (hz:i.zero=some z) (hc:z.cells=#[z]) (hs:i.size=1)
  (n:Nat) (hbytes:i.bytes*n≤281474976710656) (h63:n≤9223372036854775807) :
  (Instr.makeSlice t (.int .i64 n) (.int .i64 n)).run P w=.ok (.slice (some ⟨w.heap.size,0,none⟩) n n) (w.alloc (.cells (List.replicate n z).toArray e)):=by
 have hb':(i.bytes:Int)*(n:Int)≤281474976710656:=by
  have h:((i.bytes*n:Nat):Int)≤281474976710656:=by omega
  rwa [Int.natCast_mul] at h
 rw [run_make (P:=P) w t e i z ht hi hz .i64 .i64 n n (by omega) (Int.le_refl _) hb' (by omega)]
 simp only [Int.toNat_natCast,hs,Nat.mul_one]
 rw [madeCells_one z hc]
theorem run_clear_one {P:Program} (w:World) (t ty e:TypeId) (z:Value) (ht:P.underlying t=some (.slice e)) (hz:∀ w,(zeroValue e).run P w=.ok z w) (hc:z.cells=#[z]) (h1:z.oneCell'=true)
  (g n cap:Nat) (c:List Value) (hg:Blk w g c e) (hn:c.length=n) :
  (Builtin.clear_ #[t] ty #[.slice (some ⟨g,0,none⟩) n cap]).run P w=.ok (.tuple #[]) (w.setRow g (List.replicate n z).toArray):=by
 subst hn
 cases c with
 | nil=>
  have:w.setRow g (List.replicate 0 z).toArray=w:=by
   have:=setRow_self w g _ e (0,0) hg
   simpa using this
  simp only [List.length_nil]
  rw [this]
  simp [Builtin.clear_,run_underlying ht]
 | cons a l=>
  have hst:=run_storeCells_at P g 0 e (List.replicate (l.length+1) z) 0 (a :: l).toArray w hg (by simp) (by intro v hv;rw [(List.mem_replicate.1 hv).2];exact h1)
  simp only [Nat.add_zero,List.take_zero,List.nil_append,Nat.zero_add,List.length_replicate] at hst
  simp only [List.length_cons]
  have hd:List.drop (l.length+1) (a :: l)=[]:=by simp
  simp only [List.toList_toArray,hd,List.append_nil] at hst
  simp [Builtin.clear_,run_underlying ht,hz,zeroCells_one z hc,hst]
def Rd (w:World) (ao:Option Addr) (xs:List Value):Prop:=
 xs≠[]→∃ g o,ao=some ⟨g,o,none⟩∧g<w.heap.size∧∀ j,j<xs.length→w.cell? ⟨g,o+j,none⟩=xs[j]?
theorem Rd.nil (w:World) (ao:Option Addr):Rd w ao []:=fun h=>(h rfl).elim
theorem Rd.keep {w w':World} {ao:Option Addr} {xs:List Value} {S:Nat→Prop} (h:Rd w ao xs) (k:Keeps S w w') (hn:∀ a,ao=some a→a.block<w.heap.size→¬ S a.block):Rd w' ao xs:=by
 intro hx
 obtain ⟨g,o,rfl,hg,hc⟩:=h hx
 refine ⟨g,o,rfl,Nat.lt_of_lt_of_le hg k.size,fun j hj=>?_⟩
 rw [←hc j hj]
 exact World.cell?_of_block (w:=w) (a:=⟨g,o+j,none⟩) (k.block g hg (hn _ rfl hg))
theorem Rd.blk {w:World} {g:Nat} {c:List Value} {T:TypeId} (h:Blk w g c T) (o:Nat) (xs:List Value) (hx:(c.drop o).take xs.length=xs):Rd w (some ⟨g,o,none⟩) xs:=by
 intro _
 refine ⟨g,o,rfl,h.lt,fun j hj=>?_⟩
 rw [h.cell]
 have:((c.drop o).take xs.length)[j]? = xs[j]? := by rw [hx]
 rw [←this,List.getElem?_take,if_pos hj,List.getElem?_drop]
theorem Rd.int {w:World} {ao:Option Addr} {k:IntKind} {l:List Int} (h:Rd w ao (l.map (Value.int k))) (i:Nat) (hi:i<l.length) :
  ∃ g o,ao=some ⟨g,o,none⟩∧w.cell? ⟨g,o+i,none⟩=some (.int k (l.getD i 0)):=by
 obtain ⟨g,o,rfl,_,hc⟩:=h (by intro e;simp at e;subst e;simp at hi)
 refine ⟨g,o,rfl,?_⟩
 rw [hc i (by simpa using hi)]
 simp [List.getD,hi]
def ownB (v:Value) (k:Nat):Prop:=v.ownBlock=some k
def Sl (w:World) (e size:Nat) (v:Value) (n:Nat) (xs:List Value):Prop:=
 xs.length=n*size∧((v=.slice none 0 0∧n=0) ∨
  ∃ g o cap cur,v=.slice (some ⟨g,o,none⟩) n cap∧Blk w g cur e∧n≤cap∧cap≤maxLen∧o+cap*size≤cur.length∧(cur.drop o).take (n*size)=xs)
theorem Sl.nil (w:World) (e size:Nat):Sl w e size (.slice none 0 0) 0 []:=⟨by simp, .inl ⟨rfl,rfl⟩⟩
theorem Sl.own {w:World} {e size:Nat} {v:Value} {n:Nat} {xs:List Value} (h:Sl w e size v n xs) {k:Nat} (hk:ownB v k):k<w.heap.size∧∃ cur,Blk w k cur e:=by
 obtain ⟨_,⟨rfl,_⟩ | ⟨g,o,cap,cur,rfl,hb,_⟩⟩:=h
 ·simp [ownB,Value.ownBlock] at hk
 ·simp [ownB,Value.ownBlock] at hk;subst hk;exact ⟨hb.lt,_,hb⟩
theorem Sl.keep {w w':World} {e size:Nat} {v:Value} {n:Nat} {xs:List Value} {S:Nat→Prop} (h:Sl w e size v n xs) (k:Keeps S w w') (hn:∀ g,ownB v g→¬ S g):Sl w' e size v n xs:=by
 refine ⟨h.1,?_⟩
 rcases h.2 with h | ⟨g,o,cap,cur,rfl,hb,r⟩
 ·exact .inl h
 ·exact .inr ⟨g,o,cap,cur,rfl,k.blk hb (hn g rfl),r⟩
theorem Sl.rd {w:World} {e size:Nat} {v:Value} {n:Nat} {xs:List Value} (h:Sl w e size v n xs):∃ ao cap,v=.slice ao n cap∧Rd w ao xs∧n≤maxLen∧n≤cap:=by
 obtain ⟨hl,⟨rfl,rfl⟩ | ⟨g,o,cap,cur,rfl,hb,h1,h2,h3,h4⟩⟩:=h
 ·refine ⟨none,0,rfl,?_,Nat.zero_le _,Nat.le_refl _⟩
  have:xs=[]:=by simpa using hl
  subst this;exact Rd.nil _ _
 ·exact ⟨_,cap,rfl,Rd.blk hb o xs (by rw [hl];exact h4),Nat.le_trans h1 h2,h1⟩
theorem Sl.len {w:World} {e size:Nat} {v:Value} {n:Nat} {xs:List Value} (h:Sl w e size v n xs):xs.length=n*size:=h.1
theorem addr_add (g o j:Nat):(⟨g,o,none⟩:Addr).add j=⟨g,o+j,none⟩:=by unfold Addr.add;split <;> simp_all
theorem run_app {P:Program} (w:World) (t ty e:TypeId) (i:TypeInfo) (z:Value) (size bytes:Nat) (ht:P.underlying t=some (.slice e)) (hi:P.info? e=some i) (hz:i.zero=some z)
  (hsize:i.size=size) (hby:i.bytes=bytes) (hzs:z.cells.size=size) (hsz:0<size)
  (v:Value) (n:Nat) (xs:List Value) (hs:Sl w e size v n xs)
  (a:Addr) (m c:Nat) (news:List Value) (hl:news.length=m*size) (hnews:∀ j u,news[j]? = some u→w.cell? (a.add j)=some u) (h1:∀ u ∈ news,u.oneCell'=true)
  (h63:n+m≤maxLen) (hbytes:(n+m)*bytes≤140737488355328) :
  ∃ v' w',(Builtin.append_ #[t,t] ty #[v, .slice (some a) m c]).run P w=.ok v' w'∧Sl w' e size v' (n+m) (xs ++ news)∧Keeps (ownB v) w w'∧(∀ k,ownB v' k→ownB v k∨w.heap.size≤k):=by
 subst hsize
 subst hby
 obtain ⟨hxl,hv⟩:=hs
 have hlen:(xs ++ news).length=(n+m)*i.size:=by rw [List.length_append,hxl,hl,Nat.add_mul]
 have h63':n+m≤9223372036854775807:=by simpa [maxLen] using h63
 have grown:∀ (old:Nat) (S:Nat→Prop),
   Sl (w.drew.alloc (.cells (xs.toArray ++ news.toArray ++ Builtin.zeroCells z.cells (grownCap w (n+m) old e-(n+m))) e)) e i.size (.slice (some ⟨w.heap.size,0,none⟩) (n+m) (grownCap w (n+m) old e)) (n+m) (xs ++ news) ∧
   Keeps S w (w.drew.alloc (.cells (xs.toArray ++ news.toArray ++ Builtin.zeroCells z.cells (grownCap w (n+m) old e-(n+m))) e)):=by
  intro old S
  have hge:=grownCap_ge w (n+m) old e
  have hcm:grownCap w (n+m) old e≤maxLen:=grownCap_le_maxLen w (n+m) old e h63
  refine ⟨⟨hlen, .inr ⟨w.heap.size,0,_,_,rfl,Blk.newAt _ rfl rfl,hge,hcm,?_,?_⟩⟩,((Keeps.refl _ _).drew).alloc _⟩
  ·simp only [Array.length_toList,Array.size_append,List.size_toArray,size_zeroCells,hzs,hxl,hl,←Nat.add_mul,Nat.zero_add]
   apply Nat.mul_le_mul_right
   omega
  ·simp only [Array.toList_append,List.append_assoc,List.drop_zero]
   rw [←List.append_assoc,←hlen]
   exact List.take_left
 rcases hv with ⟨rfl,rfl⟩ | ⟨g,o,cap,cur,rfl,hb,hnc,hcm,hoc,hx⟩
 ·have hx:xs=[]:=List.eq_nil_of_length_eq_zero (by simpa using hxl)
  subst hx
  by_cases hm:m=0
  ·subst hm
   have hn:news=[]:=List.eq_nil_of_length_eq_zero (by simpa using hl)
   subst hn
   refine ⟨.slice none 0 0,w,?_,Sl.nil _ _ _,Keeps.refl _ _,fun k hk=>.inl hk⟩
   simp [Builtin.append_,run_underlying ht,sizeOf,typeInfo,hi,Builtin.lenOf,Builtin.firstCells,loadCells,loadCellsFrom]
  ·have hr:=run_append_nil (P:=P) w t ty e i z ht hi hz a m c news hl hnews (by omega) (by omega) (by have hb:=hbytes;simp only [Nat.zero_add] at hb;omega)
   have hgr:=grown 0 (ownB (.slice none 0 0))
   simp only [Nat.zero_add,List.nil_append,Array.empty_append] at hgr ⊢
   refine ⟨_,_,hr,hgr.1,hgr.2,fun k hk=>.inr ?_⟩
   simp [ownB,Value.ownBlock] at hk
   omega
 ·by_cases hr:n+m≤cap
  ·have hf:=run_firstCells_some (P:=P) w i.size m a m c news hl hnews
   have hfit:o+n*i.size+news.length≤cur.length:=by
    have:(n+m)*i.size≤cap*i.size:=Nat.mul_le_mul_right _ hr
    rw [Nat.add_mul] at this
    omega
   have hst:=run_storeCells_at P g (o+n*i.size) e news 0 cur.toArray w hb (by simpa using hfit) h1
   simp only [Nat.add_zero] at hst
   refine ⟨.slice (some ⟨g,o,none⟩) (n+m) cap,w.setRow g (cur.take (o+n*i.size) ++ news ++ cur.drop (o+n*i.size+news.length)).toArray,?_,?_,?_,?_⟩
   ·simp [Builtin.append_,run_underlying ht,sizeOf,typeInfo,hi,Builtin.lenOf,hr,hf,addr_add,hst]
   ·refine ⟨hlen, .inr ⟨g,o,cap,_,rfl,Blk.setRow hb _,hr,hcm,?_,?_⟩⟩
    ·simp
     omega
    ·have h1:(cur.take (o+n*i.size) ++ news ++ cur.drop (o+n*i.size+news.length)).drop o=(cur.drop o).take (n*i.size) ++ news ++ cur.drop (o+n*i.size+news.length):=by
      rw [List.append_assoc,List.drop_append_of_le_length (by simp;omega),List.drop_take,←List.append_assoc]
      congr 3
      omega
     rw [h1,hx,←hlen,List.take_append_of_le_length (by simp),List.take_length]
   ·exact (Keeps.refl (ownB (.slice (some ⟨g,o,none⟩) n cap)) w).setRow (g:=g) (.inl rfl) _
   ·intro k hk;exact .inl hk
  ·have holds:∀ j u,xs[j]? = some u→w.cell? ((⟨g,o,none⟩:Addr).add j)=some u:=by
    intro j u hu
    have:=(List.getElem?_eq_some_iff.1 hu).1
    rw [addr_add,hb.cell,←hu,←hx,List.getElem?_take,List.getElem?_drop,if_pos (by omega)]
   have hr:=run_append_grow (P:=P) w t ty e i z ht hi hz ⟨g,o,none⟩ n cap xs hxl holds a m c news hl hnews (by omega) (by omega) (growslice_fits (by omega) hbytes)
   have hgr:=grown cap (ownB (.slice (some ⟨g,o,none⟩) n cap))
   refine ⟨_,_,hr,hgr.1,hgr.2,fun k hk=>.inr ?_⟩
   simp [ownB,Value.ownBlock] at hk
   omega
theorem wpList_app {P:Program} {w:World} {ops:Array Oper} {rest:List Oper} {o:Oper} {a:Act} {Q:Exit→Act→World→Prop} (hgd:o.guard=none) (s x:Operand) (t:TypeId)
  (ho:o.op=.call { callee:=.builtin .append,args:=#[s,x],argTypes:=#[t,t] })
  (e:TypeId) (i:TypeInfo) (z:Value) (size bytes:Nat) (ht:P.underlying t=some (.slice e)) (hi:P.info? e=some i) (hz:i.zero=some z)
  (hsize:i.size=size) (hby:i.bytes=bytes) (hzs:z.cells.size=size) (hsz:0<size)
  (v:Value) (n:Nat) (xs:List Value) (hs:a.eval s=v) (hown:Sl w e size v n xs)
  (ad:Addr) (m c:Nat) (news:List Value) (hx:a.eval x=.slice (some ad) m c) (hl:news.length=m*size) (hnews:∀ j u,news[j]? = some u→w.cell? (ad.add j)=some u) (h1:∀ u ∈ news,u.oneCell'=true)
  (h63:n+m≤maxLen) (hbytes:(n+m)*bytes≤140737488355328)
  (h:∀ v' w',Sl w' e size v' (n+m) (xs ++ news)→Keeps (ownB v) w w'→(∀ k,ownB v' k→ownB v k∨w.heap.size≤k)→wpList P ops Q rest (a.put o.dst v') w'):wpList P ops Q (o :: rest) a w:=by
 refine wpList_plain hgd fun _ hK=>?_
 obtain ⟨v',w',hr,h2,h3,h4⟩:=run_app (P:=P) w t o.type e i z size bytes ht hi hz hsize hby hzs hsz v n xs hown ad m c news hl hnews h1 h63 hbytes
 unfold Oper.wp execOp
 simp only [ho,resolve,invoke,builtin,Sem.run_bind,Sem.run_pure,Result.andThen_ok,List.map_toArray,List.map_cons,List.map_nil,hs,hx,hr]
 exact hK _ _ (h v' w' h2 h3 h4)
theorem news_at (w:World) (T:TypeId) (a:Array Value):∀ (j:Nat) (u:Value),a.toList[j]? = some u→(w.alloc (.cells a T)).cell? ((⟨w.heap.size,0,none⟩:Addr).add j)=some u:=by
 intro j u h
 rw [addr_add,(Blk.newAt (w:=w) (T:=T) a rfl rfl).cell,Nat.zero_add]
 exact h
theorem run_app_room {P:Program} (w:World) (t ty e:TypeId) (i:TypeInfo) (size:Nat) (ht:P.underlying t=some (.slice e)) (hi:P.info? e=some i) (hsize:i.size=size)
  (g o n cap:Nat) (cur:List Value) (hb:Blk w g cur e) (a:Addr) (m c:Nat) (news:List Value) (hl:news.length=m*size) (hnews:∀ j u,news[j]? = some u→w.cell? (a.add j)=some u) (h1:∀ u ∈ news,u.oneCell'=true)
  (hr:n+m≤cap) (hoc:o+cap*size≤cur.length) :
  (Builtin.append_ #[t,t] ty #[.slice (some ⟨g,o,none⟩) n cap, .slice (some a) m c]).run P w=.ok (.slice (some ⟨g,o,none⟩) (n+m) cap) (w.setRow g (cur.take (o+n*size) ++ news ++ cur.drop (o+n*size+news.length)).toArray):=by
 subst hsize
 have hf:=run_firstCells_some (P:=P) w i.size m a m c news hl hnews
 have hfit:o+n*i.size+news.length≤cur.length:=by
  have:(n+m)*i.size≤cap*i.size:=Nat.mul_le_mul_right _ hr
  rw [Nat.add_mul] at this
  omega
 have hst:=run_storeCells_at P g (o+n*i.size) e news 0 cur.toArray w hb (by simpa using hfit) h1
 simp only [Nat.add_zero] at hst
 simp [Builtin.append_,run_underlying ht,sizeOf,typeInfo,hi,Builtin.lenOf,hr,hf,addr_add,hst]
theorem run_clear_at {P:Program} (w:World) (t ty e:TypeId) (z:Value) (ht:P.underlying t=some (.slice e)) (hz:∀ w,(zeroValue e).run P w=.ok z w) (h1:∀ u ∈ z.cells,u.oneCell'=true) (hpos:0<z.cells.size)
  (g o n cap:Nat) (cur:List Value) (hb:Blk w g cur e) (hfit:o+n*z.cells.size≤cur.length) :
  ∃ zs:List Value,zs.length=n*z.cells.size∧(Builtin.clear_ #[t] ty #[.slice (some ⟨g,o,none⟩) n cap]).run P w=.ok (.tuple #[]) (w.setRow g (cur.take o ++ zs ++ cur.drop (o+zs.length)).toArray):=by
 refine ⟨(Builtin.zeroCells z.cells n).toList,by simp [size_zeroCells],?_⟩
 cases n with
 | zero=>
  have hz0:(Builtin.zeroCells z.cells 0).toList=[]:=by simp [Builtin.zeroCells]
  have:w.setRow g (cur.take o ++ [] ++ cur.drop (o+0)).toArray=w:=by
   have:=setRow_self w g _ e (0,0) hb
   simpa using this
  rw [hz0]
  simp only [List.length_nil]
  rw [this]
  simp [Builtin.clear_,run_underlying ht]
 | succ n=>
  have hlen:(Builtin.zeroCells z.cells (n+1)).toList.length=(n+1)*z.cells.size:=by simp [size_zeroCells]
  have hst:=run_storeCells_at P g o e (Builtin.zeroCells z.cells (n+1)).toList 0 cur.toArray w hb (by simp only [Nat.add_zero,hlen,List.size_toArray];exact hfit) (by
   intro v hv
   simp only [Builtin.zeroCells,Array.toList_map,List.mem_map] at hv
   obtain ⟨i,_,rfl⟩:=hv
   apply h1
   have hm:i%z.cells.size<z.cells.size:=Nat.mod_lt _ hpos
   rw [getElem!_pos z.cells _ hm]
   exact Array.getElem_mem hm)
  simp only [Nat.add_zero] at hst
  simp [Builtin.clear_,run_underlying ht,hz,hst]
end
section
open Go.RowKit Go.ChangeShapes Go.WideShapes Go.Deep Go.Joins
theorem Rd.of_cells {w:World} {a:Addr} {xs:List Value} (h:∀ j u,xs[j]? = some u→w.cell? (a.add j)=some u):Rd w (some a) xs:=by
 intro hx
 have hl:0<xs.length:=by cases xs with | nil=>exact (hx rfl).elim | cons _ _=>simp
 obtain ⟨b,off,spot⟩:=a
 have h0:=h 0 xs[0] (by simp [hl])
 have hspot:spot=none:=by simpa [Addr.add] using World.cell?_spot h0
 subst hspot
 refine ⟨b,off,rfl,World.block_lt_of_cell? _ _ h0,fun j hj=>?_⟩
 have:=h j xs[j] (by simp [hj])
 rw [addr_add] at this
 rw [this];simp [hj]
theorem i64_bounds {n:Int} (h:(Lit.int .i64 n).wf=true):-9223372036854775808≤n∧n≤9223372036854775807:=by
 simp [Lit.wf,IntKind.min,IntKind.max,IntKind.bits,IntKind.signed] at h;omega
section
variable {H:Type} {enc:TypeId × Value→H} {P:Program} {w:World} {base:Nat} {spare:Nat→Bool} {held:Bool}
def I64 (c:Value):Prop:=∃ n:Int,c=.int .i64 n∧-9223372036854775808≤n∧n≤9223372036854775807
def Flat (enc:TypeId × Value→H) (P:Program) (w:World) (base:Nat) (spare:Nat→Bool) (held:Bool) (e:TypeId):Prop:=
 ∀ fuel cs x,DataW.trod enc P w base spare held fuel e cs=some x→cs.length=P.cellsOf e∧∀ c ∈ cs,I64 c
theorem flat_int {e:TypeId} (he:P.underlying e=some (.int .i64)) (hC:P.cellsOf e=1):Flat enc P w base spare held e:=by
 intro fuel cs x h
 obtain ⟨n,rfl,_,hn⟩:=DataW.trod_int he h
 refine ⟨by simp [hC],?_⟩
 intro c hc
 simp at hc;subst hc
 exact ⟨n,rfl,i64_bounds hn⟩
def covers (P:Program) (e:TypeId) (fs:Array Field):Bool:=
 (List.range (P.cellsOf e)).all fun j=>fs.toList.any fun f=>decide (f.offset≤j) && decide (j<f.offset+P.cellsOf f.type)
theorem flat_struct {e:TypeId} {fs:Array Field} (he:P.underlying e=some (.struct fs)) (hcov:covers P e fs=true)
  (hf:∀ (i:Nat) (f:Field),fs[i]? = some f→Flat enc P w base spare held f.type):Flat enc P w base spare held e:=by
 intro fuel cs x h
 obtain ⟨ys,n,_,hy,hlen,hyl,hg⟩:=DataW.trod_struct he h
 refine ⟨hlen,?_⟩
 intro c hc
 obtain ⟨j,hj,rfl⟩:=List.getElem_of_mem hc
 have hcj:=List.all_eq_true.1 hcov j (List.mem_range.2 (by omega))
 obtain ⟨f,hfm,hfj⟩:=List.any_eq_true.1 hcj
 simp only [Bool.and_eq_true,decide_eq_true_eq] at hfj
 obtain ⟨i,hi,hif⟩:=List.getElem_of_mem hfm
 have hfi:fs[i]? = some f:=by
  rw [←Array.getElem?_toList,List.getElem?_eq_getElem hi,hif]
 have h1:=hg i f hfi
 have hys:ys[i]? = some (ys[i]'(by rw [hyl];simpa using hi)):=List.getElem?_eq_getElem _
 rw [hys] at h1
 have h2:=(hf i f hfi n _ _ h1).2
 refine h2 _ ?_
 rw [List.mem_iff_getElem?]
 refine ⟨j-f.offset,?_⟩
 rw [List.getElem?_take,if_pos (by omega),List.getElem?_drop,show f.offset+(j-f.offset)=j by omega]
 simp [hj]
theorem flat_array {t e:TypeId} {k:Nat} (ht:P.underlying t=some (.array k e)) (hC:P.cellsOf t=k*P.cellsOf e) (he:Flat enc P w base spare held e):Flat enc P w base spare held t:=by
 intro fuel cs x h
 obtain ⟨ys,n,_,hy,hlen,hyl,hg⟩:=DataW.trod_array ht h
 refine ⟨hlen,?_⟩
 intro c hc
 obtain ⟨j,hj,rfl⟩:=List.getElem_of_mem hc
 rw [hlen,hC] at hj
 have hpos:0<P.cellsOf e:=by
  apply Nat.pos_of_ne_zero;intro h0;rw [h0] at hj;simp at hj
 have hi:j/P.cellsOf e<k:=Nat.div_lt_of_lt_mul (by rwa [Nat.mul_comm] at hj)
 have h1:=hg _ hi
 have hys:ys[j/P.cellsOf e]? = some (ys[j/P.cellsOf e]'(by omega)):=List.getElem?_eq_getElem _
 rw [hys] at h1
 have h2:=(he n _ _ h1).2
 refine h2 _ ?_
 rw [List.mem_iff_getElem?]
 refine ⟨j%P.cellsOf e,?_⟩
 rw [List.getElem?_take,if_pos (Nat.mod_lt _ hpos),List.getElem?_drop,Nat.mul_comm,Nat.div_add_mod]
 simp
theorem arg_flat {r:Reach} {b0:Nat} {t e:TypeId} {C:Nat} {v:Value} {d:DataW H} {p:List MemPlace} (ht:P.underlying t=some (.slice e)) (hC:P.cellsOf e=C) (hpos:0<C) (he:Flat enc P w base spare held e)
  (hv:Value.okWide P w r b0 t v) (h:DataW.Trod enc P w base spare held t v d p) :
  ∃ (ao:Option Addr) (cap n:Nat) (xs:List Value),v=.slice ao n cap∧xs.length=n*C∧Rd w ao xs∧n≤maxLen∧∀ c ∈ xs,I64 c:=by
 obtain ⟨a0,len0,cap0,rfl⟩:=okWide_slice ht hv
 obtain ⟨fuel,hf⟩:=h
 rcases open_slice ht hf with ⟨hcs,_⟩ | ⟨a,l,c,m,n,D,Pl,hcs,_,hl,hm,hmm,_,hi⟩
 ·simp [Value.cells] at hcs
  obtain ⟨rfl,rfl,rfl⟩:=hcs
  exact ⟨none,0,0,[],rfl,by simp,Rd.nil _ _,Nat.zero_le _,by simp⟩
 ·simp [Value.cells] at hcs
  obtain ⟨rfl,rfl,rfl⟩:=hcs
  have hle:len0≤m:=by rw [hmm];split <;> omega
  have key:∀ j,j<len0*C→∃ u,w.cell? (a.add j)=some u∧I64 u:=by
   intro j hj
   have hi':j/C<len0:=Nat.div_lt_of_lt_mul (by rwa [Nat.mul_comm] at hj)
   obtain ⟨cs',h1,h2⟩:=hi (j/C) (by omega)
   obtain ⟨hlen,hall⟩:=he _ _ _ h2
   obtain ⟨_,hcl,hat⟩:=World.cells?_some h1
   have hr:j%C<cs'.length:=by rw [hlen,hC];exact Nat.mod_lt _ hpos
   have:=hat (j%C) (by rw [hC];exact Nat.mod_lt _ hpos)
   rw [Go.Deep.add_add,hC,Nat.mul_comm,Nat.div_add_mod,List.getElem?_eq_getElem hr] at this
   exact ⟨_,this,hall _ (List.getElem_mem hr)⟩
  refine ⟨some a,cap0,len0,(List.range (len0*C)).map fun j=>(w.cell? (a.add j)).getD undef,rfl,by simp,?_,Nat.le_trans hl hm,?_⟩
  ·refine Rd.of_cells ?_
   intro j u hu
   simp only [List.getElem?_map,Option.map_eq_some_iff] at hu
   obtain ⟨j',hj',rfl⟩:=hu
   have hjl:=(List.getElem?_eq_some_iff.1 hj').1
   have:j=j':=by
    rw [List.getElem?_eq_getElem hjl] at hj'
    simpa using hj'
   subst this
   obtain ⟨u,hu,_⟩:=key j (by simpa using hjl)
   rw [hu];rfl
  ·intro c hc
   simp only [List.mem_map,List.mem_range] at hc
   obtain ⟨j,hj,rfl⟩:=hc
   obtain ⟨u,hu,h64⟩:=key j hj
   rw [hu];exact h64
theorem i64_list:∀ {xs:List Value},(∀ c ∈ xs,I64 c)→∃ l:List Int,xs=l.map (Value.int .i64)∧∀ x ∈ l,-9223372036854775808≤x∧x≤9223372036854775807
 | [],_=>⟨[],rfl,by simp⟩
 | c :: xs,h=>by
  obtain ⟨n,rfl,hn⟩:=h c (by simp)
  obtain ⟨l,rfl,hl⟩:=i64_list (xs:=xs) (fun c hc=>h c (List.mem_cons_of_mem _ hc))
  exact ⟨n :: l,rfl,by intro x hx;rcases List.mem_cons.1 hx with rfl | hx;exact hn;exact hl x hx⟩
theorem arg_ints {r:Reach} {b0:Nat} {t e:TypeId} {v:Value} {d:DataW H} {p:List MemPlace} (ht:P.underlying t=some (.slice e)) (he:P.underlying e=some (.int .i64)) (hC:P.cellsOf e=1)
  (hv:Value.okWide P w r b0 t v) (h:DataW.Trod enc P w base spare held t v d p) :
  ∃ (ao:Option Addr) (cap:Nat) (l:List Int),v=.slice ao l.length cap∧Rd w ao (l.map (Value.int .i64))∧l.length≤maxLen∧∀ x ∈ l,-9223372036854775808≤x∧x≤9223372036854775807:=by
 obtain ⟨ao,cap,n,xs,rfl,hl,hr,hm,h64⟩:=arg_flat ht hC (by omega) (flat_int he hC) hv h
 obtain ⟨l,rfl,hb⟩:=i64_list h64
 simp at hl;subst hl
 exact ⟨ao,cap,l,rfl,hr,hm,hb⟩
theorem arg_val2 {r:Reach} {b0:Nat} {t:TypeId} {f0 f1:Field} {v:Value} {d:DataW H} {p:List MemPlace} (hs:P.underlying t=some (.struct #[f0,f1])) (hone:oneCellFields P #[f0,f1]=true) (hC:P.cellsOf t=2)
  (h0:P.underlying f0.type=some (.int .i64)) (h1:P.underlying f1.type=some (.int .i64))
  (hv:Value.okWide P w r b0 t v) (h:DataW.Trod enc P w base spare held t v d p) :
  ∃ a:Int × Int,v=.agg #[.int .i64 a.1, .int .i64 a.2]∧(-9223372036854775808≤a.1∧a.1≤9223372036854775807)∧-9223372036854775808≤a.2∧a.2≤9223372036854775807:=by
 obtain ⟨c0,c1,y0,y1,m,rfl,_,_,hy0,hy1⟩:=open_agg2 hs hone hC hv h
 obtain ⟨a,ea,_,wa⟩:=DataW.trod_int h0 hy0
 obtain ⟨b,eb,_,wb⟩:=DataW.trod_int h1 hy1
 simp at ea eb
 subst ea;subst eb
 exact ⟨(a,b),rfl,i64_bounds wa,i64_bounds wb⟩
end
end
section
open Go.RowKit Go.ChangeShapes Go.WideShapes Go.ChangeAt Go.Joins
section
variable {H:Type} {enc:TypeId × Value→H} {P:Program} {w:World} {base:Nat} {spare:Nat→Bool} {held:Bool}
theorem arg_rows {r:Reach} {b0:Nat} {t e:TypeId} {C:Nat} {v:Value} {d:DataW H} {p:List MemPlace} (ht:P.underlying t=some (.slice e)) (hC:P.cellsOf e=C) (hpos:0<C) (he:Flat enc P w base spare held e)
  (hv:Value.okWide P w r b0 t v) (h:DataW.Trod enc P w base spare held t v d p) :
  ∃ (ao:Option Addr) (cap m:Nat) (l:List Int),v=.slice ao m cap∧Rd w ao (l.map (Value.int .i64))∧l.length=m*C∧m≤maxLen∧∀ x ∈ l,-9223372036854775808≤x∧x≤9223372036854775807:=by
 obtain ⟨ao,cap,n,xs,rfl,hl,hr,hm,h64⟩:=arg_flat ht hC hpos he hv h
 obtain ⟨l,rfl,hb⟩:=i64_list h64
 exact ⟨ao,cap,n,l,rfl,hr,by simpa using hl,hm,hb⟩
theorem slice_lt {r:Reach} {b n c:Nat} {t e:TypeId} {a:Addr} (ht:P.underlying t=some (.slice e)) (hv:Value.okWide P w r b t (.slice (some a) n c)):a.block<w.heap.size:=by
 simp only [Value.okWide,ht,Cell.okWide,Cell.ok] at hv
 obtain ⟨_,_,_,_,row,cells,hs,_⟩:=hv
 unfold World.shape? at hs
 cases hb:w.heap[a.block]? with
 | none=>rw [hb] at hs;simp at hs
 | some o=>exact (Array.getElem?_eq_some_iff.1 hb).1
end
end
section
open Go.RowKit
theorem i64_and3 (n:Int):bits .and .i64 n 3=n%4:=by
 have h3:(BitVec.ofInt 64 3).toNat=2 ^ 2-1:=by decide
 have key:(BitVec.ofInt 64 n &&& BitVec.ofInt 64 3).toNat=(n%((2 ^ 64:Nat):Int)).toNat%2 ^ 2:=by
  rw [BitVec.toNat_and,BitVec.toNat_ofInt,h3,Nat.and_two_pow_sub_one_eq_mod]
 show IntKind.i64.wrap ((BitVec.ofInt 64 n &&& BitVec.ofInt 64 3).toNat:Nat)=n%4
 rw [key,IntKind.wrap_i64]
 omega
theorem i64_and15 (n:Int):bits .and .i64 n 15=n%16:=by
 have h3:(BitVec.ofInt 64 15).toNat=2 ^ 4-1:=by decide
 have key:(BitVec.ofInt 64 n &&& BitVec.ofInt 64 15).toNat=(n%((2 ^ 64:Nat):Int)).toNat%2 ^ 4:=by
  rw [BitVec.toNat_and,BitVec.toNat_ofInt,h3,Nat.and_two_pow_sub_one_eq_mod]
 show IntKind.i64.wrap ((BitVec.ofInt 64 n &&& BitVec.ofInt 64 15).toNat:Nat)=n%16
 rw [key,IntKind.wrap_i64]
 omega
theorem i64_or0 (n:Int) (h1:-9223372036854775808≤n) (h2:n≤9223372036854775807):bits .or .i64 n 0=n:=by
 have key:(BitVec.ofInt 64 n ||| BitVec.ofInt 64 0).toNat=(n%((2 ^ 64:Nat):Int)).toNat:=by
  rw [show BitVec.ofInt 64 0=0#64 from by decide,BitVec.or_zero,BitVec.toNat_ofInt]
 show IntKind.i64.wrap ((BitVec.ofInt 64 n ||| BitVec.ofInt 64 0).toNat:Nat)=n
 rw [key,IntKind.wrap_i64]
 omega
theorem wraps_i64 (n:Int) (h₀:0≤n) (h₁:n<2 ^ 63):IntKind.i64.wrap n=n:=by rw [IntKind.wrap_i64];omega
theorem i64_or1 (n:Int) (h1:0≤n) (h2:n<2305843009213693951):bits .or .i64 (n*4) 1=n*4+1:=
 bits_join .i64 63 (by decide) wraps_i64 2 (n*4) 1 (by omega) (by omega) (by omega) (by omega) (by omega) (by omega)
theorem i64_or16 (f k:Int) (h1:0≤f) (h2:f≤100) (h3:0≤k) (h4:k<16):bits .or .i64 (f*16) k=f*16+k:=
 bits_join .i64 63 (by decide) wraps_i64 4 (f*16) k (by omega) (by omega) (by omega) (by omega) (by omega) (by omega)
def big:Int:=1152921504606846976
def encW (k n:Int):Int × Int:=
 if k=0 then if n=0 then (2,0) else (0,7)
 else if k=2 then if n=0 then (3,0) else (0,7)
 else if k=1 then if -big≤n∧n<big then (4*n,0) else (0,1)
 else if k=3 then if 0≤n∧n<big then (4*n+1,0) else (0,1)
 else (0,2)
def decW (x:Int):Int × Int × Int:=
 if x%4=0 then if -big≤x/4∧x/4<big then (1,x/4,0) else (0,0,1)
 else if x%4=1 then if 0≤x/4∧x/4<big then (3,x/4,0) else (0,0,1)
 else if x/4=0 then if x=2 then (0,0,0) else (2,0,0)
 else (0,0,7)
def fitsW (k f:Int):Bool:=((k == 1 || k == 3 || k == 4) && f == 2) || (k == 5 && f == 0) || (k == 2 && decide (0≤f) && decide (f≤12))
def headW (k f:Int):Int × Int:=if k<1∨5<k then (0,2) else if fitsW k f=true then (16*f+k,0) else (0,1)
def partsW (h:Int):Int × Int × Int:=if fitsW (h%16) (h/16)=true then (h%16,h/16,0) else (0,0,7)
theorem fitsW_spec {k f:Int} (h:fitsW k f=true):1≤k∧k≤5∧0≤f∧f≤12:=by
 simp [fitsW] at h
 omega
theorem encW_int {n:Int} (h:-1152921504606846976≤n∧n<1152921504606846976):encW 1 n=(4*n,0):=if_pos (c:=-big≤n∧n<big) h
theorem encW_int_no {n:Int} (h:¬ (-1152921504606846976≤n∧n<1152921504606846976)):encW 1 n=(0,1):=if_neg (c:=-big≤n∧n<big) h
theorem encW_ref {n:Int} (h:0≤n∧n<1152921504606846976):encW 3 n=(4*n+1,0):=if_pos (c:=0≤n∧n<big) h
theorem encW_ref_no {n:Int} (h:¬ (0≤n∧n<1152921504606846976)):encW 3 n=(0,1):=if_neg (c:=0≤n∧n<big) h
theorem encW_other {k n:Int} (h0:k≠0) (h1:k≠1) (h2:k≠2) (h3:k≠3):encW k n=(0,2):=by
 unfold encW;rw [if_neg h0,if_neg h2,if_neg h1,if_neg h3]
theorem decW_int {x:Int} (h:x%4=0) (h1:-1152921504606846976≤x/4∧x/4<1152921504606846976):decW x=(1,x/4,0):=by
 unfold decW;rw [if_pos h,if_pos (show -big≤x/4∧x/4<big from h1)]
theorem decW_int_no {x:Int} (h:x%4=0) (h1:¬ (-1152921504606846976≤x/4∧x/4<1152921504606846976)):decW x=(0,0,1):=by
 unfold decW;rw [if_pos h,if_neg (show ¬ (-big≤x/4∧x/4<big) from h1)]
theorem decW_ref {x:Int} (h:x%4=1) (h1:0≤x/4∧x/4<1152921504606846976):decW x=(3,x/4,0):=by
 unfold decW;rw [if_neg (by omega),if_pos h,if_pos (show 0≤x/4∧x/4<big from h1)]
theorem decW_ref_no {x:Int} (h:x%4=1) (h1:¬ (0≤x/4∧x/4<1152921504606846976)):decW x=(0,0,1):=by
 unfold decW;rw [if_neg (by omega),if_pos h,if_neg (show ¬ (0≤x/4∧x/4<big) from h1)]
theorem decW_bits {x:Int} (h0:x%4≠0) (h:x%4≠1) (h1:x/4≠0):decW x=(0,0,7):=by
 unfold decW;rw [if_neg h0,if_neg h,if_neg h1]
end
section
def R64 (x:Int):Prop:=-9223372036854775808≤x∧x≤9223372036854775807
structure Ar where
 ws:List Int
 nur:Nat
 yng:Nat
 grn:Nat
structure Ar.ok (A:Ar):Prop where
 h1:A.yng≤A.nur
 h2:A.nur≤A.grn
 h3:A.grn≤A.ws.length
 h4:A.ws.length≤1280
 hw:∀ x ∈ A.ws,R64 x
def Ar.young (A:Ar) (i:Int):Bool:=decide (0≤i) && decide (i<A.yng)
def Ar.old (A:Ar) (i:Int):Bool:=decide ((A.nur:Int)≤i) && decide (i<A.grn)
def Ar.inUse (A:Ar) (i:Int):Bool:=A.young i || A.old i
def Ar.load (A:Ar) (i:Int):Int:=if A.inUse i then A.ws.getD i.toNat 0 else 0
def Ar.store (A:Ar) (i x:Int):Ar:=if A.inUse i then { A with ws:=A.ws.set i.toNat x } else A
def Ar.takeY (A:Ar) (n:Int):Int × Ar:=if 0≤n∧n≤(A.nur:Int)-A.yng then (A.yng, { A with yng:=A.yng+n.toNat }) else (-1,A)
def Ar.takeO (A:Ar) (n:Int):Int × Ar:=if 0≤n∧n≤(A.ws.length:Int)-A.grn then (A.grn, { A with grn:=A.grn+n.toNat }) else (-1,A)
def lay (l:List Int) (i:Nat) (m:List Int):List Int:=l.take i ++ m ++ l.drop (i+m.length)
theorem lay_length {l m:List Int} {i:Nat} (h:i+m.length≤l.length):(lay l i m).length=l.length:=by
 unfold lay;simp only [List.length_append,List.length_take,List.length_drop];omega
theorem lay_get {l m:List Int} {i j:Nat} (h:i+m.length≤l.length):(lay l i m)[j]? = if i≤j∧j<i+m.length then m[j-i]? else l[j]? := by
 unfold lay
 by_cases h1:j<i
 ·rw [List.append_assoc,List.getElem?_append_left (by simp;omega),List.getElem?_take,if_pos h1,if_neg (by omega)]
 ·by_cases h2:j<i+m.length
  ·rw [List.append_assoc,List.getElem?_append_right (by simp;omega),List.length_take,List.getElem?_append_left (by omega),if_pos ⟨by omega,h2⟩]
   congr 1;omega
  ·rw [List.getElem?_append_right (by simp;omega),if_neg (by omega),List.getElem?_drop,List.length_append,List.length_take]
   congr 1;omega
theorem lay_getD {l m:List Int} {i j:Nat} (h:i+m.length≤l.length):(lay l i m).getD j 0=if i≤j∧j<i+m.length then m.getD (j-i) 0 else l.getD j 0:=by
 simp only [List.getD_eq_getElem?_getD,lay_get h]
 split <;> rfl
theorem lay_mem {l m:List Int} {i:Nat} {x:Int} (h:x ∈ lay l i m):x ∈ l∨x ∈ m:=by
 unfold lay at h
 simp only [List.mem_append] at h
 rcases h with (h | h) | h
 ·exact .inl (List.mem_of_mem_take h)
 ·exact .inr h
 ·exact .inl (List.mem_of_mem_drop h)
def thingW (k f:Int):List Int:=(16*f+k) :: List.replicate f.toNat 2
def Ar.make (A:Ar) (k f:Int):Int × Ar:=
 if fitsW k f=true∧1+f≤(A.nur:Int)-A.yng then (A.yng, { A with yng:=A.yng+(1+f).toNat,ws:=lay A.ws A.yng (thingW k f) }) else (-1,A)
theorem Ar.make_no {A:Ar} {k f:Int} (h:¬ (fitsW k f=true∧1+f≤(A.nur:Int)-A.yng)):A.make k f=(-1,A):=if_neg h
theorem Ar.make_yes {A:Ar} {k f:Int} (h:fitsW k f=true∧1+f≤(A.nur:Int)-A.yng):A.make k f=((A.yng:Int), { A with yng:=A.yng+(1+f).toNat,ws:=lay A.ws A.yng (thingW k f) }):=if_pos h
def Ar.thing (A:Ar) (i:Int):Int × Int × Int:=partsW (A.load i)
def Ar.whole (A:Ar) (i n:Int):Bool:=(A.young i && A.young (i+n)) || (A.old i && A.old (i+n))
def Ar.copy (A:Ar) (i:Int):Int × Ar:=
 let n:=(A.thing i).2.1
 if (A.thing i).2.2=0∧A.whole i n=true∧1+n≤(A.ws.length:Int)-A.grn then
  (A.grn, { A with grn:=A.grn+(1+n).toNat,ws:=lay A.ws A.grn ((A.ws.drop i.toNat).take (1+n).toNat) })
 else (-1,A)
theorem Ar.copy_no {A:Ar} {i:Int} (h:¬ ((A.thing i).2.2=0∧A.whole i (A.thing i).2.1=true∧1+(A.thing i).2.1≤(A.ws.length:Int)-A.grn)):A.copy i=(-1,A):=if_neg h
theorem Ar.copy_yes {A:Ar} {i:Int} (h:(A.thing i).2.2=0∧A.whole i (A.thing i).2.1=true∧1+(A.thing i).2.1≤(A.ws.length:Int)-A.grn) :
  A.copy i=((A.grn:Int), { A with grn:=A.grn+(1+(A.thing i).2.1).toNat,ws:=lay A.ws A.grn ((A.ws.drop i.toNat).take (1+(A.thing i).2.1).toNat) }):=if_pos h
def Ar.clear (A:Ar):Ar:={ A with yng:=0 }
def Ar.cut (A:Ar) (n:Nat):Ar:={ A with grn:=A.nur+n }
theorem Ar.ok.young_lt {A:Ar} (h:A.ok) {i:Int} (hy:A.young i=true):0≤i∧i<A.ws.length:=by
 have:=h.h1;have:=h.h2;have:=h.h3
 simp [Ar.young] at hy;omega
theorem Ar.ok.old_lt {A:Ar} (h:A.ok) {i:Int} (hy:A.old i=true):0≤i∧i<A.ws.length:=by
 have:=h.h3
 simp [Ar.old] at hy;omega
theorem Ar.ok.use_lt {A:Ar} (h:A.ok) {i:Int} (hy:A.inUse i=true):0≤i∧i<A.ws.length:=by
 unfold Ar.inUse at hy
 rw [Bool.or_eq_true] at hy
 rcases hy with hy | hy
 ·exact h.young_lt hy
 ·exact h.old_lt hy
theorem Ar.ok.load {A:Ar} (h:A.ok) (i:Int):R64 (A.load i):=by
 unfold Ar.load
 split
 ·rename_i hu
  have:=h.use_lt hu
  have hi:i.toNat<A.ws.length:=by omega
  rw [List.getD_eq_getElem?_getD,List.getElem?_eq_getElem hi]
  exact h.hw _ (List.getElem_mem hi)
 ·unfold R64;omega
theorem Ar.ok.store {A:Ar} (h:A.ok) (i x:Int) (hx:R64 x):(A.store i x).ok:=by
 unfold Ar.store
 split
 ·refine ⟨h.h1,h.h2,by simpa using h.h3,by simpa using h.h4,fun y hy=>?_⟩
  rcases List.mem_or_eq_of_mem_set hy with h1 | rfl
  ·exact h.hw y h1
  ·exact hx
 ·exact h
theorem Ar.thing_use {A:Ar} {i:Int} (h:(A.thing i).2.2=0):A.inUse i=true:=by
 cases hu:A.inUse i
 ·have:A.load i=0:=by unfold Ar.load;rw [hu];simp
  unfold Ar.thing at h
  rw [this] at h
  exact absurd h (by decide)
 ·rfl
theorem Ar.thing_fields (A:Ar) (i:Int):0≤(A.thing i).2.1∧(A.thing i).2.1≤12:=by
 unfold Ar.thing partsW
 split
 ·rename_i h;have:=fitsW_spec h;exact ⟨this.2.2.1,this.2.2.2⟩
 ·decide
theorem thingW_length {k f:Int} (h:0≤f):(thingW k f).length=(1+f).toNat:=by
 unfold thingW;simp;omega
theorem Ar.ok.make {A:Ar} (h:A.ok) (k f:Int):(A.make k f).2.ok:=by
 unfold Ar.make
 split
 ·rename_i hc
  have hf:=fitsW_spec hc.1
  have hl:=thingW_length (k:=k) hf.2.2.1
  have:=h.h1;have:=h.h2;have:=h.h3;have:=h.h4
  have hlay:(lay A.ws A.yng (thingW k f)).length=A.ws.length:=lay_length (by omega)
  refine ⟨?_,h.h2,?_,?_,fun x hx=>?_⟩
  ·show A.yng+(1+f).toNat≤A.nur;omega
  ·show A.grn≤(lay _ _ _).length;rw [hlay];exact h.h3
  ·show (lay _ _ _).length≤1280;rw [hlay];exact h.h4
  ·rcases lay_mem hx with h1 | h1
   ·exact h.hw x h1
   ·unfold thingW at h1
    simp only [List.mem_cons,List.mem_replicate] at h1
    unfold R64
    rcases h1 with h1 | h1 <;> omega
 ·exact h
theorem Ar.whole_spec {A:Ar} (h:A.ok) {i n:Int} (hn:0≤n) (hw:A.whole i n=true):0≤i∧i+n<A.ws.length:=by
 unfold Ar.whole at hw
 simp only [Bool.or_eq_true,Bool.and_eq_true] at hw
 rcases hw with ⟨h1,h2⟩ | ⟨h1,h2⟩
 ·exact ⟨(h.young_lt h1).1,(h.young_lt h2).2⟩
 ·exact ⟨(h.old_lt h1).1,(h.old_lt h2).2⟩
theorem Ar.ok.copy {A:Ar} (h:A.ok) (i:Int):(A.copy i).2.ok:=by
 unfold Ar.copy
 dsimp only
 split
 ·rename_i hc
  have hf:=A.thing_fields i
  have hs:=Ar.whole_spec h hf.1 hc.2.1
  have:=h.h1;have:=h.h2;have:=h.h3;have:=h.h4
  have hl:((A.ws.drop i.toNat).take (1+(A.thing i).2.1).toNat).length=(1+(A.thing i).2.1).toNat:=by simp;omega
  have hlay:(lay A.ws A.grn ((A.ws.drop i.toNat).take (1+(A.thing i).2.1).toNat)).length=A.ws.length:=lay_length (by omega)
  refine ⟨h.h1,?_,?_,?_,fun x hx=>?_⟩
  ·show A.nur≤A.grn+_;omega
  ·show A.grn+_≤(lay _ _ _).length;rw [hlay];omega
  ·show (lay _ _ _).length≤1280;rw [hlay];exact h.h4
  ·rcases lay_mem hx with h1 | h1
   ·exact h.hw x h1
   ·exact h.hw x (List.mem_of_mem_drop (List.mem_of_mem_take h1))
 ·exact h
theorem Ar.ok.clear {A:Ar} (h:A.ok):A.clear.ok:=⟨Nat.zero_le _,h.h2,h.h3,h.h4,h.hw⟩
theorem Ar.ok.cut {A:Ar} (h:A.ok) {n:Nat} (hn:A.nur+n≤A.ws.length):(A.cut n).ok:=⟨h.h1,Nat.le_add_right _ _,hn,h.h4,h.hw⟩
def Ar.fits (n o:Int):Bool:=decide (16≤n) && decide (n≤256) && decide (0≤o) && decide (o≤1024)
def Ar.new (n o:Int):Ar:=⟨List.replicate (n+o).toNat 0,n.toNat,0,n.toNat⟩
theorem Ar.new_ok {n o:Int} (h:Ar.fits n o=true):(Ar.new n o).ok:=by
 simp [Ar.fits] at h
 refine ⟨Nat.zero_le _,Nat.le_refl _,?_,?_,fun x hx=>?_⟩
 ·simp [Ar.new];omega
 ·simp [Ar.new];omega
 ·simp [Ar.new] at hx;unfold R64;omega
def Ar.list (A:Ar):Nat→Int→Int→List Int
 | 0,_,_=>[]
 | n+1,at_,e_=>if at_<e_ then (if (A.thing at_).2.2=0 then at_ :: A.list n (at_+1+(A.thing at_).2.1) e_ else []) else []
theorem Ar.list_len (A:Ar):∀ (n:Nat) (i j:Int),(A.list n i j).length≤n
 | 0,_,_=>Nat.le_refl _
 | n+1,i,j=>by
  unfold Ar.list
  split
  ·split
   ·simp;exact A.list_len n _ _
   ·exact Nat.zero_le _
  ·exact Nat.zero_le _
theorem Ar.list_step {A:Ar} {n:Nat} {i j:Int} (h:i<j) (hc:(A.thing i).2.2=0):A.list (n+1) i j=i :: A.list n (i+1+(A.thing i).2.1) j:=by
 rw [Ar.list,if_pos h,if_pos hc]
theorem Ar.list_end {A:Ar} {n:Nat} {i j:Int} (h:¬ (i<j∧(A.thing i).2.2=0)):A.list n i j=[]:=by
 cases n with
 | zero=>rfl
 | succ n=>
  rw [Ar.list]
  by_cases h1:i<j
  ·rw [if_pos h1,if_neg (fun h2=>h ⟨h1,h2⟩)]
  ·rw [if_neg h1]
def Ar.things (A:Ar):List Int × List Int:=(A.list 1300 0 A.yng,A.list 1300 A.nur A.grn)
end
section
def cardOf (base:Int) (n:Nat) (at_:Int):Int:=if base≤at_∧(at_-base)/8<n then (at_-base)/8 else -1
def markL (base:Int) (l:List Bool) (at_:Int):List Bool:=if 0≤cardOf base l.length at_ then l.set (cardOf base l.length at_).toNat true else l
theorem markL_length (base:Int) (l:List Bool) (at_:Int):(markL base l at_).length=l.length:=by unfold markL;split <;> simp
def dirtyL (base:Int) (l:List Bool) (at_:Int):Bool:=decide (0≤cardOf base l.length at_) && l.getD (cardOf base l.length at_).toNat false
theorem cardOf_lt {base:Int} {n:Nat} {at_:Int} (h:0≤cardOf base n at_):(cardOf base n at_).toNat<n:=by
 unfold cardOf at *
 split at h
 ·rename_i c;rw [if_pos c];omega
 ·omega
def cardsN (words:Int):Nat:=((max words 0+7)/8).toNat
end
section
abbrev Vl:=Int × Int
abbrev Nd:=Int × List Vl
abbrev Gr:=Int→Nd
abbrev VS:=List Int × List Nd
def refV (n:Nat):Vl:=(3,(n:Int))
def fldM (f:Vl→VS→Vl × VS):List Vl→VS→List Vl × VS
 | [],s=>([],s)
 | v :: l,s=>((f v s).1 :: (fldM f l (f v s).2).1,(fldM f l (f v s).2).2)
def valM (G:Gr):Nat→Vl→VS→Vl × VS
 | 0,v,s=>if v.1=3 then (refV (s.1.idxOf v.2),s) else (v,s)
 | n+1,v,s=>
  if v.1=3 then
   if v.2 ∈ s.1 then (refV (s.1.idxOf v.2),s)
   else
    let r:=fldM (valM G n) (G v.2).2 (s.1 ++ [v.2],s.2 ++ [((G v.2).1,[])])
    (refV s.1.length,(r.2.1,r.2.2.set s.1.length ((G v.2).1,r.1)))
  else (v,s)
theorem valM_plain (G:Gr) (n:Nat) {v:Vl} (s:VS) (h:v.1≠3):valM G n v s=(v,s):=by
 cases n <;> simp [valM,h]
theorem valM_met (G:Gr) (n:Nat) {v:Vl} {s:VS} (h:v.1=3) (hm:v.2 ∈ s.1):valM G n v s=(refV (s.1.idxOf v.2),s):=by
 cases n <;> simp [valM,h,hm]
theorem valM_new (G:Gr) (n:Nat) {v:Vl} {s:VS} (h:v.1=3) (hm:¬ v.2 ∈ s.1):valM G (n+1) v s =
  (refV s.1.length,((fldM (valM G n) (G v.2).2 (s.1 ++ [v.2],s.2 ++ [((G v.2).1,[])])).2.1,
   (fldM (valM G n) (G v.2).2 (s.1 ++ [v.2],s.2 ++ [((G v.2).1,[])])).2.2.set s.1.length ((G v.2).1,(fldM (valM G n) (G v.2).2 (s.1 ++ [v.2],s.2 ++ [((G v.2).1,[])])).1))):=by
 simp [valM,h,hm]
theorem fldM_app (f:Vl→VS→Vl × VS):∀ (a b:List Vl) (s:VS),fldM f (a ++ b) s=((fldM f a s).1 ++ (fldM f b (fldM f a s).2).1,(fldM f b (fldM f a s).2).2)
 | [],b,s=>rfl
 | v :: a,b,s=>by simp [fldM,fldM_app f a b]
theorem fldM_len (f:Vl→VS→Vl × VS):∀ (a:List Vl) (s:VS),(fldM f a s).1.length=a.length
 | [],_=>rfl
 | v :: a,s=>by simp [fldM,fldM_len f a]
def deep:Nat:=5000
def viewM (G:Gr) (roots:List Vl):List Vl × List Nd:=((fldM (valM G deep) roots ([],[])).1,(fldM (valM G deep) roots ([],[])).2.2)
def reV (φ:Int→Int) (v:Vl):Vl:=if v.1=3 then (3,φ v.2) else v
theorem reV_kind (φ:Int→Int) (v:Vl):(reV φ v).1=v.1:=by unfold reV;split <;> simp_all
structure Iso (G H:Gr) (P:Int→Prop) (φ:Int→Int):Prop where
 inj:∀ i j,P i→P j→φ i=φ j→i=j
 same:∀ i,P i→H (φ i)=((G i).1,(G i).2.map (reV φ))
 shut:∀ i,P i→∀ v ∈ (G i).2,v.1=3→P v.2
theorem idxOf_map {φ:Int→Int} {P:Int→Prop} (inj:∀ i j,P i→P j→φ i=φ j→i=j) {x:Int} (hx:P x):∀ (l:List Int),(∀ i ∈ l,P i)→(l.map φ).idxOf (φ x)=l.idxOf x∧(φ x ∈ l.map φ↔x ∈ l)
 | [],_=>by simp
 | a :: l,h=>by
  obtain ⟨h1,h2⟩:=idxOf_map inj hx l (fun i hi=>h i (by simp [hi]))
  have ha:=h a (by simp)
  by_cases e:a=x
  ·subst e;simp
  ·have e':φ a≠φ x:=fun e'=>e (inj _ _ ha hx e')
   refine ⟨?_,?_⟩
   ·have b1:(φ a == φ x)=false:=by simpa using e'
    have b2:(a == x)=false:=by simpa using e
    rw [List.map_cons,List.idxOf_cons,List.idxOf_cons,h1,b1,b2]
   ·rw [List.map_cons,List.mem_cons,List.mem_cons,h2]
    simp [Ne.symm e,Ne.symm e']
theorem valM_iso {G H:Gr} {P:Int→Prop} {φ:Int→Int} (I:Iso G H P φ):∀ (n:Nat) (v:Vl) (s:VS),(v.1=3→P v.2)→(∀ i ∈ s.1,P i) →
  valM H n (reV φ v) (s.1.map φ,s.2)=((valM G n v s).1,((valM G n v s).2.1.map φ,(valM G n v s).2.2))∧∀ i ∈ (valM G n v s).2.1,P i:=by
 intro n
 induction n with
 | zero=>
  intro v s hv hs
  by_cases h3:v.1=3
  ·have:=idxOf_map I.inj (hv h3) s.1 hs
   simp only [valM,h3,reV,if_true,this.1]
   exact ⟨trivial,hs⟩
  ·have e:reV φ v=v:=by unfold reV;rw [if_neg h3]
   rw [valM_plain G _ _ h3,e,valM_plain H _ _ h3]
   exact ⟨rfl,hs⟩
 | succ n ih=>
  intro v s hv hs
  by_cases h3:v.1=3
  ·have hx:=hv h3
   have hi:=idxOf_map I.inj hx s.1 hs
   by_cases hm:v.2 ∈ s.1
   ·rw [valM_met G _ h3 hm,valM_met H _ (by rw [reV_kind];exact h3) (by simp only [reV,h3,if_true];exact hi.2.2 hm)]
    simp only [reV,h3,if_true,hi.1]
    exact ⟨trivial,hs⟩
   ·have fl:∀ (l:List Vl) (s:VS),(∀ u ∈ l,u.1=3→P u.2)→(∀ i ∈ s.1,P i) →
      fldM (valM H n) (l.map (reV φ)) (s.1.map φ,s.2)=((fldM (valM G n) l s).1,((fldM (valM G n) l s).2.1.map φ,(fldM (valM G n) l s).2.2))∧∀ i ∈ (fldM (valM G n) l s).2.1,P i:=by
     intro l
     induction l with
     | nil=>intro s _ hs;exact ⟨rfl,hs⟩
     | cons u l ihl=>
      intro s hl hs
      obtain ⟨h1,h2⟩:=ih u s (hl u (by simp)) hs
      obtain ⟨h4,h5⟩:=ihl (valM G n u s).2 (fun u hu=>hl u (by simp [hu])) h2
      simp only [List.map_cons,fldM,h1]
      rw [h4]
      exact ⟨rfl,h5⟩
    have hs':∀ i ∈ s.1 ++ [v.2],P i:=by
     intro i hi'
     rcases List.mem_append.1 hi' with h | h
     ·exact hs i h
     ·rw [List.mem_singleton.1 h];exact hx
    obtain ⟨h1,h2⟩:=fl (G v.2).2 (s.1 ++ [v.2],s.2 ++ [((G v.2).1,[])]) (fun u hu=>I.shut _ hx u hu) hs'
    have hmr:¬ (reV φ v).2 ∈ s.1.map φ:=by simp only [reV,h3,if_true];exact fun h=>hm (hi.2.1 h)
    have hr2:(reV φ v).2=φ v.2:=by simp [reV,h3]
    rw [valM_new G n h3 hm,valM_new H n (s:=(s.1.map φ,s.2)) (by rw [reV_kind];exact h3) hmr,hr2,I.same _ hx]
    simp only [List.map_append,List.map_cons,List.map_nil] at h1
    dsimp only
    rw [h1]
    simp only [List.length_map]
    exact ⟨trivial,h2⟩
  ·rw [valM_plain G _ _ h3,valM_plain H _ _ (by rw [reV_kind];exact h3)]
   have:reV φ v=v:=by unfold reV;rw [if_neg h3]
   rw [this]
   exact ⟨rfl,hs⟩
theorem fldM_iso {G H:Gr} {P:Int→Prop} {φ:Int→Int} (I:Iso G H P φ) (n:Nat):∀ (l:List Vl) (s:VS),(∀ u ∈ l,u.1=3→P u.2)→(∀ i ∈ s.1,P i) →
  fldM (valM H n) (l.map (reV φ)) (s.1.map φ,s.2)=((fldM (valM G n) l s).1,((fldM (valM G n) l s).2.1.map φ,(fldM (valM G n) l s).2.2))∧∀ i ∈ (fldM (valM G n) l s).2.1,P i
 | [],s,_,hs=>⟨rfl,hs⟩
 | u :: l,s,hl,hs=>by
  obtain ⟨h1,h2⟩:=valM_iso I n u s (hl u (by simp)) hs
  obtain ⟨h4,h5⟩:=fldM_iso I n l (valM G n u s).2 (fun u hu=>hl u (by simp [hu])) h2
  simp only [List.map_cons,fldM,h1]
  rw [h4]
  exact ⟨rfl,h5⟩
theorem viewM_iso {G H:Gr} {P:Int→Prop} {φ:Int→Int} (I:Iso G H P φ) {roots:List Vl} (hr:∀ u ∈ roots,u.1=3→P u.2):viewM H (roots.map (reV φ))=viewM G roots:=by
 have:=(fldM_iso I deep roots ([],[]) hr (by simp)).1
 unfold viewM
 simp only [List.map_nil] at this
 rw [this]
theorem viewM_congr {G H:Gr} {P:Int→Prop} (same:∀ i,P i→H i=G i) (shut:∀ i,P i→∀ v ∈ (G i).2,v.1=3→P v.2) {roots:List Vl} (hr:∀ u ∈ roots,u.1=3→P u.2):viewM H roots=viewM G roots:=by
 have hid:∀ l:List Vl,l.map (reV id)=l:=by
  intro l
  have:reV id=id:=by funext v;unfold reV;split <;> simp_all [Prod.ext_iff]
  rw [this];simp
 have I:Iso G H P id:=⟨fun _ _ _ _ h=>h,fun i hi=>by simp only [id];rw [same i hi,hid],shut⟩
 have:=viewM_iso I hr
 rw [hid] at this
 exact this
def unM (U met:List Int):Nat:=(U.filter fun x=>!met.contains x).length
end
section
theorem filter_le_of {p q:Int→Bool} (h:∀ x,p x=true→q x=true):∀ U:List Int,(U.filter p).length≤(U.filter q).length
 | []=>Nat.le_refl _
 | a :: U=>by
  have ih:=filter_le_of h U
  simp only [List.filter_cons]
  split
  ·rename_i h1;rw [if_pos (h a h1)];simpa using ih
  ·split
   ·simp;omega
   ·exact ih
theorem filter_lt_of {p q:Int→Bool} {x:Int} (h:∀ x,p x=true→q x=true) (h1:p x=false) (h2:q x=true):∀ U:List Int,x ∈ U→(U.filter p).length<(U.filter q).length
 | [],hx=>by cases hx
 | a :: U,hx=>by
  have hle:=filter_le_of h U
  simp only [List.filter_cons]
  rcases List.mem_cons.1 hx with rfl | hx
  ·rw [if_neg (by rw [h1];decide),if_pos h2];simp;omega
  ·have ih:=filter_lt_of h h1 h2 U hx
   split
   ·rename_i h3;rw [if_pos (h a h3)];simpa using ih
   ·split
    ·simp;omega
    ·exact ih
theorem unM_app (U a b:List Int):unM U (a ++ b)≤unM U a:=
 filter_le_of (fun x hx=>by simp at hx ⊢;exact hx.1) U
theorem unM_push {U met:List Int} {x:Int} (hx:x ∈ U) (hm:¬ x ∈ met):unM U (met ++ [x])<unM U met:=
 filter_lt_of (fun y hy=>by simp at hy ⊢;exact hy.1) (x:=x) (by simp) (by simpa using hm) U hx
theorem unM_zero {U met:List Int} (h:unM U met=0) {x:Int} (hx:x ∈ U):x ∈ met:=by
 by_cases hm:x ∈ met
 ·exact hm
 ·have:=unM_push hx hm;omega
theorem unM_nil (U:List Int):unM U []≤U.length:=List.length_filter_le _ _
theorem fldM_pre {f:Vl→VS→Vl × VS} (hf:∀ v s, ∃ m,(f v s).2.1=s.1 ++ m):∀ (l:List Vl) (s:VS), ∃ m,(fldM f l s).2.1=s.1 ++ m
 | [],s=>⟨[],by simp [fldM]⟩
 | v :: l,s=>by
  obtain ⟨m,h⟩:=hf v s
  obtain ⟨m',h'⟩:=fldM_pre hf l (f v s).2
  exact ⟨m ++ m',by simp only [fldM];rw [h',h];simp⟩
theorem valM_pre (G:Gr):∀ (n:Nat) (v:Vl) (s:VS), ∃ m,(valM G n v s).2.1=s.1 ++ m:=by
 intro n
 induction n with
 | zero=>intro v s;refine ⟨[],?_⟩;simp only [valM];split <;> simp
 | succ n ih=>
  intro v s
  by_cases h3:v.1=3
  ·by_cases hm:v.2 ∈ s.1
   ·exact ⟨[],by rw [valM_met G _ h3 hm];simp⟩
   ·obtain ⟨m,h⟩:=fldM_pre ih (G v.2).2 (s.1 ++ [v.2],s.2 ++ [((G v.2).1,[])])
    exact ⟨[v.2] ++ m,by rw [valM_new G n h3 hm];dsimp only;rw [h];simp⟩
  ·exact ⟨[],by rw [valM_plain G _ _ h3];simp⟩
structure InU (G:Gr) (U:List Int):Prop where
 shut:∀ i ∈ U, ∀ v ∈ (G i).2,v.1=3→v.2 ∈ U
theorem fldM_nodes {f:Vl→VS→Vl × VS} (hf:∀ v s,s.2.length=s.1.length→(f v s).2.2.length=(f v s).2.1.length):∀ (l:List Vl) (s:VS),s.2.length=s.1.length→(fldM f l s).2.2.length=(fldM f l s).2.1.length
 | [],s,h=>h
 | v :: l,s,h=>fldM_nodes hf l _ (hf v s h)
theorem valM_nodes (G:Gr):∀ (n:Nat) (v:Vl) (s:VS),s.2.length=s.1.length→(valM G n v s).2.2.length=(valM G n v s).2.1.length:=by
 intro n
 induction n with
 | zero=>intro v s h;simp only [valM];split <;> exact h
 | succ n ih=>
  intro v s h
  by_cases h3:v.1=3
  ·by_cases hm:v.2 ∈ s.1
   ·rw [valM_met G _ h3 hm];exact h
   ·rw [valM_new G n h3 hm]
    simp only [List.length_set]
    exact fldM_nodes ih _ _ (by simp [h])
  ·rw [valM_plain G _ _ h3];exact h
theorem fldM_count {f:Vl→VS→Vl × VS} {U:List Int} (hf:∀ v s,(v.1=3→v.2 ∈ U)→(f v s).2.1.length+unM U (f v s).2.1≤s.1.length+unM U s.1) :
  ∀ (l:List Vl) (s:VS),(∀ v ∈ l,v.1=3→v.2 ∈ U)→(fldM f l s).2.1.length+unM U (fldM f l s).2.1≤s.1.length+unM U s.1
 | [],s,_=>Nat.le_refl _
 | v :: l,s,hl=>Nat.le_trans (fldM_count hf l _ (fun u hu=>hl u (by simp [hu]))) (hf v s (hl v (by simp)))
theorem valM_count {G:Gr} {U:List Int} (I:InU G U):∀ (n:Nat) (v:Vl) (s:VS),(v.1=3→v.2 ∈ U)→(valM G n v s).2.1.length+unM U (valM G n v s).2.1≤s.1.length+unM U s.1:=by
 intro n
 induction n with
 | zero=>intro v s _;simp only [valM];split <;> exact Nat.le_refl _
 | succ n ih=>
  intro v s hv
  by_cases h3:v.1=3
  ·by_cases hm:v.2 ∈ s.1
   ·rw [valM_met G _ h3 hm];exact Nat.le_refl _
   ·rw [valM_new G n h3 hm]
    have:=fldM_count (f:=valM G n) ih (G v.2).2 (s.1 ++ [v.2],s.2 ++ [((G v.2).1,[])]) (I.shut _ (hv h3))
    have hp:=unM_push (hv h3) hm
    simp only [List.length_append,List.length_cons,List.length_nil] at this
    dsimp only
    omega
  ·rw [valM_plain G _ _ h3];exact Nat.le_refl _
theorem fldM_keepN {f:Vl→VS→Vl × VS} (hl:∀ v s,s.2.length=s.1.length→(f v s).2.2.length=(f v s).2.1.length) (hp:∀ v s, ∃ m,(f v s).2.1=s.1 ++ m)
  (hf:∀ v s,s.2.length=s.1.length→∀ i,i<s.1.length→(f v s).2.2[i]? = s.2[i]?):∀ (l:List Vl) (s:VS),s.2.length=s.1.length→∀ i,i<s.1.length→(fldM f l s).2.2[i]? = s.2[i]?
 | [],s,_,i,_=>rfl
 | v :: l,s,h,i,hi=>by
  obtain ⟨m,hm⟩:=hp v s
  have:=fldM_keepN hl hp hf l (f v s).2 (hl v s h) i (by rw [hm];simp;omega)
  simp only [fldM]
  rw [this,hf v s h i hi]
theorem valM_keepN (G:Gr):∀ (n:Nat) (v:Vl) (s:VS),s.2.length=s.1.length→∀ i,i<s.1.length→(valM G n v s).2.2[i]? = s.2[i]? := by
 intro n
 induction n with
 | zero=>intro v s _ i _;simp only [valM];split <;> rfl
 | succ n ih=>
  intro v s h i hi
  by_cases h3:v.1=3
  ·by_cases hm:v.2 ∈ s.1
   ·rw [valM_met G _ h3 hm]
   ·rw [valM_new G n h3 hm]
    dsimp only
    rw [List.getElem?_set_ne (by omega)]
    have:=fldM_keepN (valM_nodes G n) (valM_pre G n) ih (G v.2).2 (s.1 ++ [v.2],s.2 ++ [((G v.2).1,[])]) (by simp [h]) i (by simp;omega)
    rw [this]
    dsimp only
    rw [List.getElem?_append_left (by omega)]
  ·rw [valM_plain G _ _ h3]
end
section
structure Wo where
 ar:Ar
 cd:List Bool
 rt:List Int
 rg:List (Int × Int)
 wt:List (Int × Int)
def R64e (e:Int × Int):Prop:=R64 e.1∧R64 e.2
structure Wo.ok (O:Wo):Prop where
 ha:O.ar.ok
 h12:O.rt.length=12
 hR:∀ x ∈ O.rt,R64 x
 hg:∀ e ∈ O.rg,R64e e
 hw:∀ e ∈ O.wt,R64e e
 hq:O.rg.length+O.wt.length≤24
 hc:O.cd.length≤1000
def Wo.new (n o:Int):Wo:=⟨Ar.new n o,List.replicate (cardsN o) false,List.replicate 12 2,[],[]⟩
def Ar.thingAt (A:Ar) (x:Int):Int × Int × Int × Int:=if x%4=1∧(A.thing (x/4)).2.2=0 then (x/4,(A.thing (x/4)).1,(A.thing (x/4)).2.1,0) else (0,0,0,2)
def Ar.get (A:Ar) (x i:Int):Int × Int:=
 if (A.thingAt x).2.2.2≠0∨(A.thingAt x).2.1=5 then (0,2) else if i<0∨(A.thingAt x).2.2.1≤i then (0,1) else (A.load (x/4+1+i),0)
def Wo.set (O:Wo) (x i y:Int):Int × Wo:=
 if (O.ar.get x i).2≠0 then ((O.ar.get x i).2,O)
 else (0, { O with ar:=O.ar.store (x/4+1+i) y,cd:=if y%4=1∧(O.ar.store (x/4+1+i) y).young (y/4)=true∧(O.ar.store (x/4+1+i) y).old (x/4)=true then markL O.ar.nur O.cd (x/4) else O.cd })
theorem Wo.set_no' {O:Wo} {x i y:Int} (hc:¬ (O.ar.get x i).2=0):O.set x i y=((O.ar.get x i).2,O):=if_pos hc
theorem Wo.set_yes' {O:Wo} {x i y:Int} (hc:(O.ar.get x i).2=0):O.set x i y=(0, { O with ar:=O.ar.store (x/4+1+i) y,cd:=if y%4=1∧(O.ar.store (x/4+1+i) y).young (y/4)=true∧(O.ar.store (x/4+1+i) y).old (x/4)=true then markL O.ar.nur O.cd (x/4) else O.cd }):=
 if_neg (fun h=>h hc)
def valO (x:Int):Vl:=if x%4=1 then (3,x/4) else ((decW x).1,(decW x).2.1)
def waitO (wt:List (Int × Int)) (g:Int):List Int:=(wt.filter fun e=>e.1 == g).map (·.2)
def Ar.fields (A:Ar) (at_:Int):List Int:=(List.range (A.thing at_).2.1.toNat).map fun (j:Nat)=>A.load (at_+1+(j:Int))
def Wo.gr (O:Wo):Gr:=fun i=>((O.ar.thing i).1,(O.ar.fields i).map valO ++ if (O.ar.thing i).1=5 then (waitO O.wt (4*i+1)).map valO else [])
def Wo.view (O:Wo):List Vl × List Nd:=viewM O.gr (O.rt.map valO)
def Wo.univ (O:Wo):List Int:=((0 :: O.ar.ws) ++ O.rt ++ O.wt.map (·.2)).map (· / 4)
theorem Ar.load_mem {A:Ar} (h:A.ok) (i:Int):A.load i=0∨A.load i ∈ A.ws:=by
 unfold Ar.load
 split
 ·rename_i hu
  have:=h.use_lt hu
  right
  rw [List.getD_eq_getElem?_getD,List.getElem?_eq_getElem (by omega)]
  exact List.getElem_mem _
 ·exact .inl rfl
theorem Wo.univ_load {O:Wo} (h:O.ok) (i:Int):O.ar.load i/4 ∈ O.univ:=by
 unfold Wo.univ
 rcases Ar.load_mem h.ha i with e | e
 ·rw [e];exact List.mem_map.2 ⟨0,by simp,rfl⟩
 ·exact List.mem_map.2 ⟨_,by simp [e],rfl⟩
theorem Wo.univ_root {O:Wo} {x:Int} (h:x ∈ O.rt):x/4 ∈ O.univ:=List.mem_map.2 ⟨x,by simp [h],rfl⟩
theorem Wo.univ_wait {O:Wo} {x g:Int} (h:x ∈ waitO O.wt g):x/4 ∈ O.univ:=by
 unfold waitO at h
 obtain ⟨e,he,rfl⟩:=List.mem_map.1 h
 exact List.mem_map.2 ⟨e.2,by simp only [List.mem_append,List.mem_map];exact .inr ⟨e,(List.mem_filter.1 he).1,rfl⟩,rfl⟩
theorem valO_three {x:Int} (h:(valO x).1=3):x%4=1∧(valO x).2=x/4:=by
 unfold valO at *
 by_cases h1:x%4=1
 ·rw [if_pos h1];exact ⟨h1,rfl⟩
 ·rw [if_neg h1] at h
  dsimp only at h
  unfold decW at h
  exfalso
  repeat' split at h
  all_goals (dsimp only at h;omega)
theorem Wo.inU {O:Wo} (h:O.ok):InU O.gr O.univ:=by
 refine ⟨fun i _ v hv h3=>?_⟩
 unfold Wo.gr at hv
 dsimp only at hv
 rcases List.mem_append.1 hv with h1 | h1
 ·obtain ⟨x,hx,rfl⟩:=List.mem_map.1 h1
  rw [(valO_three h3).2]
  unfold Ar.fields at hx
  obtain ⟨j,_,rfl⟩:=List.mem_map.1 hx
  exact Wo.univ_load h _
 ·split at h1
  ·obtain ⟨x,hx,rfl⟩:=List.mem_map.1 h1
   rw [(valO_three h3).2]
   exact Wo.univ_wait hx
  ·cases h1
theorem Wo.univ_le {O:Wo} (h:O.ok):O.univ.length≤1400:=by
 have h1:=h.ha.h4;have h2:=h.h12;have h3:=h.hq
 unfold Wo.univ
 simp
 omega
theorem Ar.store_len (A:Ar) (i x:Int):(A.store i x).ws.length=A.ws.length:=by unfold Ar.store;split <;> simp
theorem Ar.store_nur (A:Ar) (i x:Int):(A.store i x).nur=A.nur:=by unfold Ar.store;split <;> rfl
theorem Ar.store_yng (A:Ar) (i x:Int):(A.store i x).yng=A.yng:=by unfold Ar.store;split <;> rfl
theorem Ar.store_grn (A:Ar) (i x:Int):(A.store i x).grn=A.grn:=by unfold Ar.store;split <;> rfl
end
section
variable {τ:Type}
def wakeM (alive:τ→Int→Bool) (keep:τ→Int→τ × Int):τ→List (Int × Int)→τ × List (Int × Int) × Bool
 | t,[]=>(t,[],false)
 | t,e :: l=>
  if alive t e.1 && !alive t e.2 then
   let r:=wakeM alive keep (keep t e.2).1 l
   (r.1,(e.1,(keep t e.2).2) :: r.2.1,true)
  else
   let r:=wakeM alive keep t l
   (r.1,e :: r.2.1,r.2.2)
abbrev It:=(Int × Int) × Bool × Bool
def scanM (alive:τ→Int→Bool) (keep:τ→List (Int × Int)→Int→τ × List (Int × Int) × Int):τ→List (Int × Int)→List It→τ × List (Int × Int) × List It × Bool
 | t,q,[]=>(t,q,[],false)
 | t,q,i :: l=>
  if (i.2.1 && !i.2.2) && alive t i.1.1 then
   let r:=scanM alive keep (keep t q i.1.2).1 ((keep t q i.1.2).2.1 ++ [(i.1.1,(keep t q i.1.2).2.2)]) l
   (r.1,r.2.1,(i.1,i.2.1,true) :: r.2.2.1,true)
  else
   let r:=scanM alive keep t q l
   (r.1,r.2.1,i :: r.2.2.1,r.2.2.2)
def roundsM (alive:τ→Int→Bool) (keep:τ→List (Int × Int)→Int→τ × List (Int × Int) × Int):Nat→τ→List (Int × Int)→List It→τ × List (Int × Int) × List It
 | 0,t,q,l=>(t,q,l)
 | n+1,t,q,l=>
  let r:=scanM alive keep t q l
  if r.2.2.2 then roundsM alive keep n r.1 r.2.1 r.2.2.1 else (r.1,r.2.1,r.2.2.1)
def unN (l:List It):Nat:=(l.filter fun i=>!i.2.2).length
theorem unN_cons (i:It) (l:List It):unN (i :: l)=(if i.2.2 then 0 else 1)+unN l:=by
 unfold unN
 cases h:i.2.2 <;> simp [List.filter_cons,h];omega
theorem unN_app (a b:List It):unN (a ++ b)=unN a+unN b:=by unfold unN;simp
theorem scanM_fst (alive:τ→Int→Bool) (keep):∀ (l:List It) (t:τ) (q:List (Int × Int)),(scanM alive keep t q l).2.2.1.map (fun i=>(i.1,i.2.1))=l.map (fun i=>(i.1,i.2.1))
 | [],_,_=>rfl
 | i :: l,t,q=>by
  simp only [scanM]
  split
  ·simp only [List.map_cons];rw [scanM_fst alive keep l]
  ·simp only [List.map_cons];rw [scanM_fst alive keep l]
theorem scanM_un (alive:τ→Int→Bool) (keep):∀ (l:List It) (t:τ) (q:List (Int × Int)),unN (scanM alive keep t q l).2.2.1≤unN l∧((scanM alive keep t q l).2.2.2=true→unN (scanM alive keep t q l).2.2.1<unN l)
 | [],_,_=>by simp [scanM]
 | i :: l,t,q=>by
  simp only [scanM]
  split
  ·rename_i h
   have ih:=scanM_un alive keep l (keep t q i.1.2).1 ((keep t q i.1.2).2.1 ++ [(i.1.1,(keep t q i.1.2).2.2)])
   simp only [Bool.and_eq_true,Bool.not_eq_true'] at h
   simp only [unN_cons,h.1.2]
   simp
   omega
  ·have ih:=scanM_un alive keep l t q
   simp only [unN_cons]
   refine ⟨by omega,fun h=>?_⟩
   have:=ih.2 h
   omega
def newRegs (alive:τ→Int→Bool) (now:τ→Int→Int) (t:τ) (l:List It):List (Int × Int):=(l.filter fun i=>!i.2.1 && alive t i.1.1).map fun i=>(now t i.1.1,now t i.1.2)
def newWait (alive:τ→Int→Bool) (now:τ→Int→Int) (t:τ) (l:List (Int × Int)):List (Int × Int):=(l.filter fun e=>alive t e.1).map fun e=>(now t e.1,now t e.2)
def itemsM (alive:τ→Int→Bool) (t:τ) (regs:List (Int × Int)):List It:=regs.map fun e=>(e,!alive t e.2,false)
def passM (alive:τ→Int→Bool) (keep:τ→List (Int × Int)→Int→τ × List (Int × Int) × Int) (t:τ) (regs wait:List (Int × Int)):τ × List (Int × Int) × List It:=
 roundsM alive keep (regs.length+1) t wait (itemsM alive t regs)
end
section
def Leads (G:Gr) (wait:List (Int × Int)) (S:Int→Prop) (i j:Int):Prop:=
 (((G i).1=1∨(G i).1=2)∧((3,j):Vl) ∈ (G i).2) ∨
 ((G i).1=3∧(G i).2[1]? = some (3,j)) ∨
 ((G i).1=4∧(G i).2[1]? = some (3,j)∧∀ v,(G i).2[0]? = some v→v.1=3→S v.2) ∨
 ((G i).1=5∧(i,j) ∈ wait)
def Closed (G:Gr) (wait:List (Int × Int)) (S:Int→Prop):Prop:=∀ i j,S i→Leads G wait S i j→S j
def Alive (G:Gr) (wait:List (Int × Int)) (X:Int→Prop) (i:Int):Prop:=∀ S:Int→Prop,(∀ j,X j→S j)→Closed G wait S→S i
section
variable {G:Gr} {wait wait':List (Int × Int)} {S S' X Y:Int→Prop} {i j:Int}
theorem Leads.mono (h:∀ k,S k→S' k) (hw:∀ e ∈ wait,e ∈ wait') (hl:Leads G wait S i j):Leads G wait' S' i j:=by
 rcases hl with h1 | h1 | ⟨h1,h2,h3⟩ | ⟨h1,h2⟩
 ·exact .inl h1
 ·exact .inr (.inl h1)
 ·exact .inr (.inr (.inl ⟨h1,h2,fun v hv h3'=>h _ (h3 v hv h3')⟩))
 ·exact .inr (.inr (.inr ⟨h1,hw _ h2⟩))
theorem Alive.base (h:X i):Alive G wait X i:=fun _ hX _=>hX i h
theorem Alive.least (h:Alive G wait X i) (hX:∀ k,X k→S k) (hS:Closed G wait S):S i:=h S hX hS
theorem Alive.closed (G:Gr) (wait:List (Int × Int)) (X:Int→Prop):Closed G wait (Alive G wait X):=fun i j hi hl S hX hS=>
 hS i j (hi S hX hS) (hl.mono (fun k hk=>hk S hX hS) (fun _ h=>h))
theorem Alive.mono (h:Alive G wait X i) (hX:∀ k,X k→Alive G wait' Y k) (hw:∀ e ∈ wait,e ∈ wait'):Alive G wait' Y i:=
 h _ hX (fun a b ha hl=>Alive.closed G wait' Y a b ha (hl.mono (fun _ h=>h) hw))
theorem Alive.entry {g t:Int} (ht:X t):Alive G (wait ++ [(g,t)]) X i↔Alive G wait X i:=by
 refine ⟨fun h=>?_,fun h=>h.mono (fun _ h=>Alive.base h) (fun e he=>by simp [he])⟩
 refine h.least (fun _ h=>Alive.base h) (fun a b ha hl=>?_)
 by_cases hb:b=t
 ·subst hb;exact Alive.base ht
 ·refine Alive.closed G wait X a b ha ?_
  rcases hl with h1 | h1 | h1 | ⟨h1,h2⟩
  ·exact .inl h1
  ·exact .inr (.inl h1)
  ·exact .inr (.inr (.inl h1))
  ·refine .inr (.inr (.inr ⟨h1,?_⟩))
   rcases List.mem_append.1 h2 with h3 | h3
   ·exact h3
   ·simp at h3;exact absurd h3.2 hb
end
def atB (l:List Bool) (i:Int):Bool:=decide (0≤i) && l.getD i.toNat false
theorem atB_nat (l:List Bool) (i:Nat):atB l i=l.getD i false:=by simp [atB]
theorem atB_lt {l:List Bool} {i:Int} (h:atB l i=true):0≤i∧i<l.length:=by
 unfold atB at h
 simp only [Bool.and_eq_true,decide_eq_true_eq] at h
 refine ⟨h.1,?_⟩
 by_cases hl:i.toNat<l.length
 ·omega
 ·have h2:=h.2
  rw [List.getD_eq_getElem?_getD,List.getElem?_eq_none (by omega)] at h2
  cases h2
open Classical in
noncomputable def cloL (G:Gr) (wait:List (Int × Int)) (is:List Bool):List Bool:=
 (List.range is.length).map fun i=>decide (Alive G wait (fun k=>atB is k=true) (i:Nat))
theorem cloL_length (G:Gr) (wait:List (Int × Int)) (is:List Bool):(cloL G wait is).length=is.length:=by simp [cloL]
open Classical in
theorem cloL_at {G:Gr} {wait:List (Int × Int)} {is:List Bool} {i:Int}:atB (cloL G wait is) i=true↔0≤i∧i<is.length∧Alive G wait (fun k=>atB is k=true) i:=by
 constructor
 ·intro h
  have:=atB_lt h
  rw [cloL_length] at this
  refine ⟨this.1,this.2,?_⟩
  unfold atB cloL at h
  simp only [Bool.and_eq_true,List.getD_eq_getElem?_getD,List.getElem?_map] at h
  rw [List.getElem?_range (by omega)] at h
  have h2:=h.2
  simp only [Option.map_some,Option.getD_some,decide_eq_true_eq] at h2
  rwa [show ((i.toNat:Nat):Int)=i by omega] at h2
 ·rintro ⟨h0,h1,h2⟩
  unfold atB cloL
  simp only [Bool.and_eq_true,List.getD_eq_getElem?_getD,List.getElem?_map]
  rw [List.getElem?_range (by omega)]
  refine ⟨by simpa using h0,?_⟩
  simp only [Option.map_some,Option.getD_some,decide_eq_true_eq]
  rwa [show ((i.toNat:Nat):Int)=i by omega]
theorem atB_ext {a b:List Bool} (hl:a.length=b.length) (h:∀ i:Int,0≤i→i<a.length→(atB a i=true↔atB b i=true)):a=b:=by
 apply List.ext_getElem hl
 intro k h1 h2
 have:=h k (by omega) (by omega)
 simp only [atB_nat,List.getD_eq_getElem?_getD,List.getElem?_eq_getElem h1,List.getElem?_eq_getElem h2,Option.getD_some] at this
 rw [Bool.eq_iff_iff];exact this
theorem atB_set {is:List Bool} {x i:Int} (h0:0≤x) (h1:x<is.length):atB (is.set x.toNat true) i=true↔i=x∨atB is i=true:=by
 unfold atB
 simp only [Bool.and_eq_true,decide_eq_true_eq,List.getD_eq_getElem?_getD,List.getElem?_set]
 by_cases e:x.toNat=i.toNat
 ·rw [if_pos e,if_pos (by omega)]
  simp only [Option.getD_some,and_true]
  constructor
  ·intro h;left;omega
  ·rintro (rfl | ⟨h,_⟩)
   ·exact h0
   ·exact h
 ·rw [if_neg e]
  constructor
  ·intro h;exact .inr h
  ·rintro (rfl | h)
   ·exact absurd rfl e
   ·exact h
theorem cloL_entry {G:Gr} {wait:List (Int × Int)} {is:List Bool} {g t:Int} (ht:atB is t=true):cloL G (wait ++ [(g,t)]) is=cloL G wait is:=by
 refine atB_ext (by rw [cloL_length,cloL_length]) fun i h0 hlt=>?_
 rw [cloL_at,cloL_at,Alive.entry (X:=fun k=>atB is k=true) ht]
structure Th where
 k:Int
 fs:List Vl
 old:Bool
 dead:Bool
structure Wd where
 T:List Th
 roots:List Vl
 regs:List (Int × Int)
 wait:List (Int × Int)
 most:Int
 grow:Int
def Wd.new (n o:Int):Wd:=⟨[],List.replicate 12 (0,0),[],[],n,o⟩
def Th.none:Th:=⟨0,[],false,true⟩
def Wd.th (W:Wd) (i:Int):Th:=W.T.getD i.toNat Th.none
def Wd.rt (W:Wd) (k:Int):Vl:=W.roots.getD k.toNat (0,0)
def Th.words (t:Th):Int:=1+t.fs.length
def Wd.nd (W:Wd):Gr:=fun i=>((W.th i).k,(W.th i).fs)
def waitAt (wait:List (Int × Int)) (g:Int):List Int:=(wait.filter fun e=>e.1 == g).map (·.2)
def Wd.gr (W:Wd):Gr:=fun i=>((W.th i).k,(W.th i).fs ++ if (W.th i).k=5 then (waitAt W.wait i).map fun x=>((3,x):Vl) else [])
def Wd.view (W:Wd):List Vl × List Nd:=viewM W.gr W.roots
def sumW (l:List Th) (p:Th→Bool):Int:=(l.map fun t=>if p t then t.words else 0).sum
def Wd.young (W:Wd):Int:=sumW W.T fun t=>!t.dead && !t.old
def Wd.olds (W:Wd):Int:=sumW W.T fun t=>!t.dead && t.old
def Wd.first (W:Wd) (major:Bool):List Bool:=
 (List.range W.T.length).map fun (i:Nat)=>((W.th (i:Int)).old && !(W.th (i:Int)).dead && !major) || W.roots.any fun v=>v.1 == 3 && v.2 == (i:Int)
noncomputable def Wd.clo (W:Wd) (wait:List (Int × Int)) (is:List Bool):List Bool:=cloL W.nd wait is
noncomputable def Wd.keepW (W:Wd) (is:List Bool) (q:List (Int × Int)) (x:Int):List Bool × List (Int × Int) × Int:=(W.clo q (is.set x.toNat true),q,x)
def nowW (is:List Bool) (x:Int):Int:=x
noncomputable def Wd.pass (W:Wd) (major:Bool):List Bool × List (Int × Int) × List It:=passM atB W.keepW (W.clo W.wait (W.first major)) W.regs W.wait
def inS (is:List Bool) (v:Vl):Bool:=v.1 != 3 || atB is v.2
def cutT (is:List Bool) (i:Nat) (t:Th):Th:=
 if is.getD i false then
  ⟨t.k,if t.k=4∧inS is (t.fs.getD 0 (0,0))=false then [(2,0),(2,0)]
   else if t.k=3∧inS is (t.fs.getD 0 (0,0))=false then [(2,0),t.fs.getD 1 (0,0)] else t.fs,true,t.dead⟩
 else ⟨t.k,[],t.old,true⟩
def cutTs (is:List Bool) (l:List Th):List Th:=l.mapIdx fun i t=>cutT is i t
def sumL (is:List Bool) (l:List Th):Int:=(l.mapIdx fun i t=>if is.getD i false then t.words else 0).sum
noncomputable def Wd.after (W:Wd) (major:Bool):Wd:=
 { W with T:=cutTs (W.pass major).1 W.T,regs:=newRegs atB nowW (W.pass major).1 (W.pass major).2.2,wait:=newWait atB nowW (W.pass major).1 (W.pass major).2.1 }
noncomputable def Wd.cut (W:Wd) (major:Bool):Int × Wd:=
 if major=false∧W.young > W.grow-W.olds then (3,W)
 else if sumL (W.pass major).1 W.T > W.grow then (3,W)
 else (0,W.after major)
structure St where
 k:Int
 r:Int
 a:Int
 b:Int
 i:Int
 n:Int
def usesM (k:Int):Int:=
 if k=1∨k=2∨k=8 then 1 else if k=3∨k=5∨k=10∨k=11∨k=13 then 3 else if k=4∨k=6∨k=7∨k=14 then 7 else if k=9∨k=12 then 6 else if k=15∨k=16 then 0 else -1
def rootOk (k:Int):Bool:=decide (0≤k) && decide (k<12)
def checkM (x:St):Int:=
 if usesM x.k=-1 then 2
 else if (usesM x.k%2=1∧rootOk x.r=false)∨(usesM x.k/2%2=1∧rootOk x.a=false)∨(usesM x.k/4%2=1∧rootOk x.b=false) then 1
 else if x.k=1∧¬ (-big≤x.n∧x.n<big) then 1
 else if x.k=5∧¬ (0≤x.n∧x.n≤12) then 1
 else 0
def Wd.setR (W:Wd) (r:Int) (v:Vl):Wd:={ W with roots:=W.roots.set r.toNat v }
def Wd.put (W:Wd) (r k:Int) (from_:List Vl):Wd:={ W with T:=W.T ++ [⟨k,from_,false,false⟩],roots:=W.roots.set r.toNat (refV W.T.length) }
noncomputable def Wd.room (W:Wd) (n:Int):Int × Wd:=if n > W.most-W.young then W.cut (decide (W.young > W.grow-W.olds)) else (0,W)
noncomputable def Wd.newT (W:Wd) (r k:Int) (from_:List Int):Int × Wd:=
 if (W.room (1+from_.length)).1=0 then (0,(W.room (1+from_.length)).2.put r k (from_.map (W.room (1+from_.length)).2.rt)) else ((W.room (1+from_.length)).1,W)
def Wd.thing (W:Wd) (k:Int):Int:=if (W.rt k).1=3 then (W.rt k).2 else -1
def Wd.guard (W:Wd) (k:Int):Int:=if W.thing k<0∨(W.th (W.thing k)).k≠5 then -1 else W.thing k
def Wd.setF (W:Wd) (i:Int) (fs:List Vl):Wd:={ W with T:=W.T.set i.toNat { W.th i with fs:=fs } }
def popW (wait:List (Int × Int)) (g:Int):Option (Int × List (Int × Int)):=
 match wait with
 | []=>none
 | e :: l=>if e.1=g then some (e.2,l) else (popW l g).map fun r=>(r.1,e :: r.2)
def Wd.reg (W:Wd) (x:St):Int × Wd:=
 if W.thing x.a<0∨W.guard x.b<0 then (2,W)
 else if 24≤W.regs.length+W.wait.length then (3,W)
 else (0, { W with regs:=W.regs ++ [(W.guard x.b,W.thing x.a)] })
def Wd.pop (W:Wd) (x:St):Int × Wd:=
 if W.guard x.a<0 then (2,W)
 else match popW W.wait (W.guard x.a) with
  | none=>(4,W)
  | some r=>(0, { W with wait:=r.2,roots:=W.roots.set x.r.toNat (3,r.1) })
def Wd.fieldC (W:Wd) (x:St):Int:=
 if W.thing x.a<0∨(W.th (W.thing x.a)).k=5 then 2 else if x.i<0∨((W.th (W.thing x.a)).fs.length:Int)≤x.i then 1 else 0
def Wd.get (W:Wd) (x:St):Int × Wd:=if W.fieldC x=0 then (0,W.setR x.r ((W.th (W.thing x.a)).fs.getD x.i.toNat (0,0))) else (W.fieldC x,W)
def Wd.set (W:Wd) (x:St):Int × Wd:=if W.fieldC x=0 then (0,W.setF (W.thing x.a) ((W.th (W.thing x.a)).fs.set x.i.toNat (W.rt x.b))) else (W.fieldC x,W)
def Wd.len (W:Wd) (x:St):Int × Wd:=if W.thing x.a<0∨(W.th (W.thing x.a)).k=5 then (2,W) else (0,W.setR x.r (1,(W.th (W.thing x.a)).fs.length))
def Wd.same (W:Wd) (x:St):Int × Wd:=(0,W.setR x.r (1,if W.rt x.a=W.rt x.b then 1 else 0))
noncomputable def Wd.step (W:Wd) (x:St):Int × Wd:=
 if x.k=1 then (0,W.setR x.r (1,x.n))
 else if x.k=2 then (0,W.setR x.r (0,0))
 else if x.k=3 then (0,W.setR x.r (W.rt x.a))
 else if x.k=4 then W.newT x.r 1 [x.a,x.b]
 else if x.k=5 then W.newT x.r 2 (List.replicate x.n.toNat x.a)
 else if x.k=6 then W.newT x.r 3 [x.a,x.b]
 else if x.k=7 then W.newT x.r 4 [x.a,x.b]
 else if x.k=8 then W.newT x.r 5 []
 else if x.k=9 then W.reg x
 else if x.k=10 then W.pop x
 else if x.k=11 then W.get x
 else if x.k=12 then W.set x
 else if x.k=13 then W.len x
 else if x.k=14 then W.same x
 else if x.k=15 then W.cut false
 else W.cut true
noncomputable def Wd.do (W:Wd) (x:St):Int × Wd:=if checkM x=0 then W.step x else (checkM x,W)
end
section
def Wd.live (W:Wd) (i:Int):Prop:=0≤i∧i<W.T.length∧(W.th i).dead=false
def Wd.okV (W:Wd) (v:Vl):Prop:=(v.1=0∧v.2=0)∨(v.1=1∧-big≤v.2∧v.2<big)∨(v.1=2∧v.2=0)∨(v.1=3∧W.live v.2)
def Wd.okE (W:Wd) (e:Int × Int):Prop:=W.live e.1∧(W.th e.1).k=5∧W.live e.2
structure Wd.ok (W:Wd):Prop where
 hr:W.roots.length=12
 rv:∀ v ∈ W.roots,W.okV v
 tk:∀ i,W.live i→fitsW (W.th i).k (W.th i).fs.length=true
 tv:∀ i,W.live i→∀ v ∈ (W.th i).fs,W.okV v
 gv:∀ e ∈ W.regs,W.okE e
 wv:∀ e ∈ W.wait,W.okE e
 hq:W.regs.length+W.wait.length≤24
 m1:16≤W.most
 m2:W.most≤256
 g1:0≤W.grow
 g2:W.grow≤1024
 uy:W.young≤W.most
 uo:W.olds≤W.grow
theorem Wd.live_th {W:Wd} {i:Int} (h:W.live i):∃ (h':i.toNat<W.T.length),W.th i=W.T[i.toNat]:=by
 have h1:=h.1;have h2:=h.2.1
 have h':i.toNat<W.T.length:=by omega
 exact ⟨h',by unfold Wd.th;rw [List.getD_eq_getElem?_getD,List.getElem?_eq_getElem h'];rfl⟩
theorem Wd.okV_ref {W:Wd} {v:Vl} (h:W.okV v) (h3:v.1=3):W.live v.2:=by
 rcases h with h | h | h | h
 ·have:=h.1;omega
 ·have:=h.1;omega
 ·have:=h.1;omega
 ·exact h.2
theorem Wd.okV_mono {W W':Wd} (h:∀ i,W.live i→W'.live i) {v:Vl} (hv:W.okV v):W'.okV v:=by
 rcases hv with h1 | h1 | h1 | h1
 ·exact .inl h1
 ·exact .inr (.inl h1)
 ·exact .inr (.inr (.inl h1))
 ·exact .inr (.inr (.inr ⟨h1.1,h _ h1.2⟩))
theorem sumW_app (a b:List Th) (p:Th→Bool):sumW (a ++ b) p=sumW a p+sumW b p:=by simp [sumW]
theorem sumW_set (l:List Th) (p:Th→Bool) (i:Nat) (t:Th) (h:i<l.length) (hp:p t=p l[i]) (hw:t.words=l[i].words):sumW (l.set i t) p=sumW l p:=by
 unfold sumW
 have:(l.set i t).map (fun t=>if p t then t.words else 0)=l.map (fun t=>if p t then t.words else 0):=by
  apply List.ext_getElem (by simp)
  intro j h1 h2
  simp only [List.getElem_map,List.getElem_set]
  split
  ·rename_i e;subst e;rw [hp,hw]
  ·rfl
 rw [this]
theorem Wd.rt_ok {W:Wd} (h:W.ok) (k:Int):W.okV (W.rt k):=by
 unfold Wd.rt
 rw [List.getD_eq_getElem?_getD]
 cases hx:W.roots[k.toNat]? with
 | none=>exact .inl ⟨rfl,rfl⟩
 | some v=>exact h.rv _ (List.mem_of_getElem? hx)
theorem Wd.ok.setR {W:Wd} (h:W.ok) {v:Vl} (hv:W.okV v) (r:Int):(W.setR r v).ok:=by
 refine ⟨by simpa [Wd.setR] using h.hr,fun u hu=>?_,h.tk,h.tv,h.gv,h.wv,h.hq,h.m1,h.m2,h.g1,h.g2,h.uy,h.uo⟩
 rcases List.mem_or_eq_of_mem_set hu with h1 | rfl
 ·exact h.rv u h1
 ·exact hv
theorem Wd.th_put {W:Wd} {r k:Int} {l:List Vl} {i:Int} (h0:0≤i) (h:i<W.T.length):(W.put r k l).th i=W.th i:=by
 unfold Wd.th Wd.put
 simp only [List.getD_eq_getElem?_getD]
 rw [List.getElem?_append_left (by omega)]
theorem Wd.th_put_new {W:Wd} {r k:Int} {l:List Vl}:(W.put r k l).th W.T.length=⟨k,l,false,false⟩:=by
 unfold Wd.th Wd.put
 simp only [List.getD_eq_getElem?_getD,Int.toNat_natCast]
 rw [List.getElem?_append_right (Nat.le_refl _)]
 simp
theorem Wd.live_put {W:Wd} {r k:Int} {l:List Vl} {i:Int} (h:W.live i):(W.put r k l).live i:=by
 refine ⟨h.1,?_,?_⟩
 ·have:=h.2.1;simp [Wd.put];omega
 ·rw [Wd.th_put h.1 h.2.1];exact h.2.2
theorem Wd.put_live {W:Wd} {r k:Int} {l:List Vl} {i:Int} (h:(W.put r k l).live i):W.live i∨i=W.T.length:=by
 have h1:=h.2.1
 simp [Wd.put] at h1
 by_cases e:i=W.T.length
 ·exact .inr e
 ·refine .inl ⟨h.1,by omega,?_⟩
  have:=h.2.2
  rwa [Wd.th_put h.1 (by omega)] at this
theorem Wd.put_young {W:Wd} {r k:Int} {l:List Vl}:(W.put r k l).young=W.young+(1+l.length):=by
 unfold Wd.young Wd.put
 rw [sumW_app]
 simp [sumW,Th.words]
theorem Wd.put_olds {W:Wd} {r k:Int} {l:List Vl}:(W.put r k l).olds=W.olds:=by
 unfold Wd.olds Wd.put
 rw [sumW_app]
 simp [sumW]
theorem Wd.ok.put {W:Wd} (h:W.ok) {r k:Int} {l:List Vl} (hf:fitsW k l.length=true) (hl:∀ v ∈ l,W.okV v) (hroom:1+(l.length:Int)≤W.most-W.young):(W.put r k l).ok:=by
 have hm:∀ {v},W.okV v→(W.put r k l).okV v:=fun hv=>Wd.okV_mono (fun i hi=>Wd.live_put hi) hv
 have he:∀ e,W.okE e→(W.put r k l).okE e:=fun e he=>⟨Wd.live_put he.1,by rw [Wd.th_put he.1.1 he.1.2.1];exact he.2.1,Wd.live_put he.2.2⟩
 refine ⟨by simpa [Wd.put] using h.hr,fun u hu=>?_,fun i hi=>?_,fun i hi v hv=>?_,fun e h1=>he e (h.gv e h1),fun e h1=>he e (h.wv e h1),h.hq,h.m1,h.m2,h.g1,h.g2,?_,?_⟩
 ·rcases List.mem_or_eq_of_mem_set hu with h1 | rfl
  ·exact hm (h.rv u h1)
  ·refine .inr (.inr (.inr ⟨rfl,?_,?_,?_⟩))
   ·simp [refV]
   ·simp [Wd.put,refV];omega
   ·show ((W.put r k l).th (W.T.length:Int)).dead=false
    rw [Wd.th_put_new]
 ·rcases Wd.put_live hi with h1 | rfl
  ·rw [Wd.th_put h1.1 h1.2.1];exact h.tk i h1
  ·rw [Wd.th_put_new];exact hf
 ·rcases Wd.put_live hi with h1 | rfl
  ·rw [Wd.th_put h1.1 h1.2.1] at hv;exact hm (h.tv i h1 v hv)
  ·rw [Wd.th_put_new] at hv;exact hm (hl v hv)
 ·show (W.put r k l).young≤W.most
  rw [Wd.put_young];omega
 ·show (W.put r k l).olds≤W.grow
  rw [Wd.put_olds];exact h.uo
theorem Wd.th_setF {W:Wd} {j:Int} {fs:List Vl} {i:Int} (h0:0≤i) (hj:W.live j):(W.setF j fs).th i=if i=j then { W.th j with fs:=fs } else W.th i:=by
 obtain ⟨h',e⟩:=Wd.live_th hj
 unfold Wd.setF
 simp only [Wd.th,List.getD_eq_getElem?_getD,List.getElem?_set]
 by_cases e2:i=j
 ·subst e2;rw [if_pos rfl,if_pos h',if_pos rfl];rfl
 ·have:=hj.1
  rw [if_neg (by omega),if_neg e2]
theorem Wd.setF_live {W:Wd} {j:Int} {fs:List Vl} (hj:W.live j) (i:Int):(W.setF j fs).live i↔W.live i:=by
 unfold Wd.live
 constructor
 ·rintro ⟨h0,h1,h2⟩
  rw [Wd.th_setF h0 hj] at h2
  refine ⟨h0,by simpa [Wd.setF] using h1,?_⟩
  by_cases e:i=j
  ·subst e;exact hj.2.2
  ·rwa [if_neg e] at h2
 ·rintro ⟨h0,h1,h2⟩
  refine ⟨h0,by simpa [Wd.setF] using h1,?_⟩
  rw [Wd.th_setF h0 hj]
  split
  ·exact hj.2.2
  ·exact h2
theorem Wd.setF_kind {W:Wd} {j:Int} {fs:List Vl} (hj:W.live j) {i:Int} (h0:0≤i):((W.setF j fs).th i).k=(W.th i).k:=by
 rw [Wd.th_setF h0 hj]
 split
 ·rename_i e;subst e;rfl
 ·rfl
theorem Wd.setF_sum {W:Wd} {j:Int} {fs:List Vl} (hj:W.live j) (hl:fs.length=(W.th j).fs.length):(W.setF j fs).young=W.young∧(W.setF j fs).olds=W.olds:=by
 obtain ⟨h',e⟩:=Wd.live_th hj
 constructor
 ·exact sumW_set _ _ _ _ h' (by simp [e]) (by simp [Th.words,hl,e])
 ·exact sumW_set _ _ _ _ h' (by simp [e]) (by simp [Th.words,hl,e])
theorem Wd.ok.setF {W:Wd} (h:W.ok) {j:Int} {fs:List Vl} (hj:W.live j) (hl:fs.length=(W.th j).fs.length) (hv:∀ v ∈ fs,W.okV v):(W.setF j fs).ok:=by
 have hm:∀ {v},W.okV v→(W.setF j fs).okV v:=fun hv=>Wd.okV_mono (fun i hi=>(Wd.setF_live hj i).2 hi) hv
 have he:∀ e,W.okE e→(W.setF j fs).okE e:=fun e he=>⟨(Wd.setF_live hj _).2 he.1,by rw [Wd.setF_kind hj he.1.1];exact he.2.1,(Wd.setF_live hj _).2 he.2.2⟩
 have hs:=Wd.setF_sum hj hl
 refine ⟨h.hr,fun u hu=>hm (h.rv u hu),fun i hi=>?_,fun i hi v hv'=>?_,fun e h1=>he e (h.gv e h1),fun e h1=>he e (h.wv e h1),h.hq,h.m1,h.m2,h.g1,h.g2,?_,?_⟩
 ·have h1:=(Wd.setF_live hj i).1 hi
  rw [Wd.th_setF hi.1 hj]
  split
  ·rename_i e;subst e;show fitsW (W.th i).k (fs.length:Nat)=true;rw [hl];exact h.tk i h1
  ·exact h.tk i h1
 ·have h1:=(Wd.setF_live hj i).1 hi
  rw [Wd.th_setF hi.1 hj] at hv'
  split at hv'
  ·exact hm (hv v hv')
  ·exact hm (h.tv i h1 v hv')
 ·show (W.setF j fs).young≤W.most;rw [hs.1];exact h.uy
 ·show (W.setF j fs).olds≤W.grow;rw [hs.2];exact h.uo
theorem Wd.first_length (W:Wd) (major:Bool):(W.first major).length=W.T.length:=by simp [Wd.first]
theorem Wd.first_at {W:Wd} {major:Bool} {i:Int}:atB (W.first major) i=true↔0≤i∧i<W.T.length∧(((W.th i).old=true∧(W.th i).dead=false∧major=false)∨((3,i):Vl) ∈ W.roots):=by
 constructor
 ·intro h
  have hb:=atB_lt h
  rw [Wd.first_length] at hb
  refine ⟨hb.1,hb.2,?_⟩
  unfold atB Wd.first at h
  simp only [Bool.and_eq_true,List.getD_eq_getElem?_getD,List.getElem?_map] at h
  rw [List.getElem?_range (by omega)] at h
  have h2:=h.2
  simp only [Option.map_some,Option.getD_some,show ((i.toNat:Nat):Int)=i by omega,Bool.or_eq_true,Bool.and_eq_true,Bool.not_eq_true',List.any_eq_true,beq_iff_eq] at h2
  rcases h2 with h2 | ⟨v,h3,h4,h5⟩
  ·exact .inl ⟨h2.1.1,h2.1.2,h2.2⟩
  ·right
   have:v=(3,i):=by cases v;simp_all
   rwa [this] at h3
 ·rintro ⟨h0,h1,h2⟩
  unfold atB Wd.first
  simp only [Bool.and_eq_true,List.getD_eq_getElem?_getD,List.getElem?_map]
  rw [List.getElem?_range (by omega)]
  refine ⟨by simpa using h0,?_⟩
  simp only [Option.map_some,Option.getD_some,show ((i.toNat:Nat):Int)=i by omega,Bool.or_eq_true,Bool.and_eq_true,Bool.not_eq_true',List.any_eq_true,beq_iff_eq]
  rcases h2 with h2 | h2
  ·exact .inl ⟨⟨h2.1,h2.2.1⟩,h2.2.2⟩
  ·exact .inr ⟨_,h2,rfl,rfl⟩
structure Wd.Mid (W:Wd) (major:Bool) (is:List Bool) (q:List (Int × Int)):Prop where
 len:is.length=W.T.length
 live:∀ i,atB is i=true→W.live i
 first:∀ i,atB (W.first major) i=true→atB is i=true
 shut:Closed W.nd q fun i=>atB is i=true
 wv:∀ e ∈ q,W.okE e
theorem Wd.shut_live {W:Wd} (h:W.ok) {q:List (Int × Int)} (hq:∀ e ∈ q,W.okE e):Closed W.nd q W.live:=by
 intro i j hi hl
 rcases hl with h1 | h1 | h1 | h1
 ·exact Wd.okV_ref (h.tv i hi _ h1.2) rfl
 ·exact Wd.okV_ref (h.tv i hi _ (List.mem_of_getElem? h1.2)) rfl
 ·exact Wd.okV_ref (h.tv i hi _ (List.mem_of_getElem? h1.2.1)) rfl
 ·exact (hq _ h1.2).2.2
theorem Wd.first_live {W:Wd} (h:W.ok) {major:Bool} {i:Int} (hi:atB (W.first major) i=true):W.live i:=by
 obtain ⟨h0,h1,h2 | h2⟩:=Wd.first_at.1 hi
 ·exact ⟨h0,h1,h2.2.1⟩
 ·exact Wd.okV_ref (h.rv _ h2) rfl
theorem Wd.Mid.start {W:Wd} (h:W.ok) (major:Bool):W.Mid major (W.clo W.wait (W.first major)) W.wait:=by
 have hlen:(W.clo W.wait (W.first major)).length=W.T.length:=by unfold Wd.clo;rw [cloL_length,Wd.first_length]
 have hl:∀ i,atB (W.clo W.wait (W.first major)) i=true→W.live i:=fun i hi=>
  (cloL_at.1 hi).2.2.least (fun k hk=>Wd.first_live h hk) (Wd.shut_live h h.wv)
 refine ⟨hlen,hl,fun i hi=>cloL_at.2 ⟨(atB_lt hi).1,(atB_lt hi).2,Alive.base hi⟩,?_,h.wv⟩
 intro i j hi hj
 have hlv:=Wd.shut_live h h.wv i j (hl i hi) (hj.mono (fun k hk=>hl k hk) (fun _ h=>h))
 refine cloL_at.2 ⟨hlv.1,by rw [Wd.first_length];exact hlv.2.1,?_⟩
 exact Alive.closed _ _ _ i j (cloL_at.1 hi).2.2 (hj.mono (fun k hk=>(cloL_at.1 hk).2.2) (fun _ h=>h))
theorem Wd.Mid.keep {W:Wd} (h:W.ok) {major:Bool} {is:List Bool} {q:List (Int × Int)} (m:W.Mid major is q) {g x:Int} (hx:W.live x) (hg:W.live g) (hk:(W.th g).k=5) :
  W.Mid major (W.clo q (is.set x.toNat true)) (q ++ [(g,x)])∧(∀ i,atB is i=true→atB (W.clo q (is.set x.toNat true)) i=true)∧atB (W.clo q (is.set x.toNat true)) x=true:=by
 have hset:∀ i,atB (is.set x.toNat true) i=true↔i=x∨atB is i=true:=fun i=>atB_set hx.1 (by rw [m.len];exact hx.2.1)
 have hsl:(is.set x.toNat true).length=W.T.length:=by rw [List.length_set,m.len]
 have hq':∀ e ∈ q ++ [(g,x)],W.okE e:=by
  intro e he
  rcases List.mem_append.1 he with h1 | h1
  ·exact m.wv e h1
  ·rw [List.mem_singleton.1 h1];exact ⟨hg,hk,hx⟩
 have hsv:∀ k,atB (is.set x.toNat true) k=true→W.live k:=by
  intro k hk
  rcases (hset k).1 hk with rfl | h1
  ·exact hx
  ·exact m.live k h1
 have hl:∀ i,atB (W.clo q (is.set x.toNat true)) i=true→W.live i:=fun i hi=>(cloL_at.1 hi).2.2.least hsv (Wd.shut_live h m.wv)
 have up:∀ i,atB (is.set x.toNat true) i=true→atB (W.clo q (is.set x.toNat true)) i=true:=fun i hi=>cloL_at.2 ⟨(atB_lt hi).1,(atB_lt hi).2,Alive.base hi⟩
 have hxx:=up x ((hset x).2 (.inl rfl))
 refine ⟨⟨by unfold Wd.clo;rw [cloL_length,hsl],hl,fun i hi=>up i ((hset i).2 (.inr (m.first i hi))),?_,hq'⟩,fun i hi=>up i ((hset i).2 (.inr hi)),hxx⟩
 intro i j hi hj
 by_cases e:j=x
 ·subst e;exact hxx
 ·have hj':Leads W.nd q (fun k=>atB (W.clo q (is.set x.toNat true)) k=true) i j:=by
   rcases hj with h1 | h1 | h1 | ⟨h1,h2⟩
   ·exact .inl h1
   ·exact .inr (.inl h1)
   ·exact .inr (.inr (.inl h1))
   ·refine .inr (.inr (.inr ⟨h1,?_⟩))
    rcases List.mem_append.1 h2 with h3 | h3
    ·exact h3
    ·simp at h3;exact absurd h3.2 e
  have hlv:=Wd.shut_live h m.wv i j (hl i hi) (hj'.mono (fun k hk=>hl k hk) (fun _ h=>h))
  refine cloL_at.2 ⟨hlv.1,by rw [hsl];exact hlv.2.1,?_⟩
  exact Alive.closed _ _ _ i j (cloL_at.1 hi).2.2 (hj'.mono (fun k hk=>(cloL_at.1 hk).2.2) (fun _ h=>h))
theorem unN_moved (a:Int × Int) (b:Bool) (l:List It):unN ((a,b,true) :: l)=unN l:=by rw [unN_cons];simp
theorem unN_yet {i:It} (h:i.2.2=false) (l:List It):unN (i :: l)=1+unN l:=by rw [unN_cons,h];simp
theorem unN_none (l:List (Int × Int)) (f:Int × Int→Bool):unN (l.map fun e=>(e,f e,false))=l.length:=by
 induction l with
 | nil=>rfl
 | cons a l ih=>rw [List.map_cons,unN_yet rfl,ih];simp;omega
theorem Wd.Mid.scan {W:Wd} (h:W.ok) {major:Bool}:∀ (l:List It) (is:List Bool) (q:List (Int × Int)),W.Mid major is q→(∀ i ∈ l,W.okE i.1) →
  W.Mid major (scanM atB W.keepW is q l).1 (scanM atB W.keepW is q l).2.1∧(∀ i,atB is i=true→atB (scanM atB W.keepW is q l).1 i=true) ∧
  (scanM atB W.keepW is q l).2.1.length+unN (scanM atB W.keepW is q l).2.2.1=q.length+unN l
 | [],is,q,m,_=>⟨m,fun _ h=>h,rfl⟩
 | i :: l,is,q,m,hl=>by
  have hi:=hl i (by simp)
  simp only [scanM]
  split
  ·rename_i hc
   simp only [Bool.and_eq_true,Bool.not_eq_true'] at hc
   obtain ⟨m',hm1,_⟩:=m.keep h (g:=i.1.1) (x:=i.1.2) hi.2.2 hi.1 hi.2.1
   have ih:=Wd.Mid.scan h l _ _ m' (fun j hj=>hl j (by simp [hj]))
   simp only [Wd.keepW]
   refine ⟨ih.1,fun k hk=>ih.2.1 k (hm1 k hk),?_⟩
   have h3:=ih.2.2
   simp only [Wd.keepW,List.length_append,List.length_cons,List.length_nil] at h3
   rw [unN_moved,unN_yet hc.1.2]
   omega
  ·have ih:=Wd.Mid.scan h l is q m (fun j hj=>hl j (by simp [hj]))
   refine ⟨ih.1,ih.2.1,?_⟩
   have h3:=ih.2.2
   simp only [unN_cons] at h3 ⊢
   omega
theorem scan_items {W:Wd} {l:List It} (is:List Bool) (q:List (Int × Int)) (hl:∀ i ∈ l,W.okE i.1):∀ i ∈ (scanM atB W.keepW is q l).2.2.1,W.okE i.1:=by
 intro i hi
 have h1:(i.1,i.2.1) ∈ (scanM atB W.keepW is q l).2.2.1.map (fun i=>(i.1,i.2.1)):=List.mem_map.2 ⟨i,hi,rfl⟩
 rw [scanM_fst] at h1
 obtain ⟨j,hj,e⟩:=List.mem_map.1 h1
 have:=hl j hj
 have e1:j.1=i.1:=congrArg (fun p:(Int × Int) × Bool=>p.1) e
 rwa [e1] at this
theorem Wd.Mid.rounds {W:Wd} (h:W.ok) {major:Bool}:∀ (n:Nat) (l:List It) (is:List Bool) (q:List (Int × Int)),W.Mid major is q→(∀ i ∈ l,W.okE i.1) →
  W.Mid major (roundsM atB W.keepW n is q l).1 (roundsM atB W.keepW n is q l).2.1∧(∀ i,atB is i=true→atB (roundsM atB W.keepW n is q l).1 i=true) ∧
  (roundsM atB W.keepW n is q l).2.1.length+unN (roundsM atB W.keepW n is q l).2.2=q.length+unN l ∧
  (roundsM atB W.keepW n is q l).2.2.map (fun i=>(i.1,i.2.1))=l.map (fun i=>(i.1,i.2.1))
 | 0,l,is,q,m,_=>⟨m,fun _ h=>h,rfl,rfl⟩
 | n+1,l,is,q,m,hl=>by
  have hs:=Wd.Mid.scan h l is q m hl
  have hf:=scanM_fst atB W.keepW l is q
  simp only [roundsM]
  split
  ·have ih:=Wd.Mid.rounds h n (scanM atB W.keepW is q l).2.2.1 _ _ hs.1 (scan_items is q hl)
   refine ⟨ih.1,fun k hk=>ih.2.1 k (hs.2.1 k hk),by rw [ih.2.2.1,hs.2.2],by rw [ih.2.2.2,hf]⟩
  ·exact ⟨hs.1,hs.2.1,hs.2.2,hf⟩
theorem Wd.pass_mid {W:Wd} (h:W.ok) (major:Bool):W.Mid major (W.pass major).1 (W.pass major).2.1∧(∀ i,atB (W.clo W.wait (W.first major)) i=true→atB (W.pass major).1 i=true) ∧
  (W.pass major).2.1.length+unN (W.pass major).2.2=W.wait.length+W.regs.length ∧
  (W.pass major).2.2.map (fun i=>(i.1,i.2.1))=W.regs.map fun e=>(e,!atB (W.clo W.wait (W.first major)) e.2):=by
 have:=Wd.Mid.rounds h (W.regs.length+1) (itemsM atB (W.clo W.wait (W.first major)) W.regs) _ _ (Wd.Mid.start h major) (by
  intro i hi
  simp only [itemsM,List.mem_map] at hi
  obtain ⟨e,he,rfl⟩:=hi
  exact h.gv e he)
 refine ⟨this.1,this.2.1,?_,?_⟩
 ·have h3:=this.2.2.1
  have:unN (itemsM atB (W.clo W.wait (W.first major)) W.regs)=W.regs.length:=unN_none _ _
  rw [this] at h3
  exact h3
 ·have h3:=this.2.2.2
  rw [Wd.pass,passM,h3]
  simp [itemsM]
end
section
theorem atB_toNat {is:List Bool} {i:Int} (h0:0≤i):is.getD i.toNat false=atB is i:=by unfold atB;simp [h0]
theorem cutT_kind (is:List Bool) (i:Nat) (t:Th):(cutT is i t).k=t.k:=by unfold cutT;split <;> rfl
theorem cutT_live {is:List Bool} {i:Nat} {t:Th} (h:is.getD i false=true):(cutT is i t).dead=t.dead∧(cutT is i t).old=true:=by unfold cutT;rw [if_pos h];exact ⟨rfl,rfl⟩
theorem cutT_dead {is:List Bool} {i:Nat} {t:Th} (h:is.getD i false=false):(cutT is i t).dead=true:=by unfold cutT;rw [if_neg (by rw [h];decide)]
theorem cutT_len {is:List Bool} {i:Nat} {t:Th} (h:is.getD i false=true) (hf:fitsW t.k t.fs.length=true):(cutT is i t).fs.length=t.fs.length:=by
 unfold cutT
 rw [if_pos h]
 show List.length (if _ then _ else _)=_
 split
 ·rename_i hc
  rw [hc.1] at hf
  simp [fitsW] at hf
  simp;omega
 ·split
  ·rename_i hc
   rw [hc.1] at hf
   simp [fitsW] at hf
   simp;omega
  ·rfl
theorem cutTs_th {W:Wd} {is:List Bool} {i:Int} (h0:0≤i) (h1:i<W.T.length):(cutTs is W.T).getD i.toNat Th.none=cutT is i.toNat (W.th i):=by
 unfold cutTs Wd.th
 simp only [List.getD_eq_getElem?_getD,List.getElem?_mapIdx]
 rw [List.getElem?_eq_getElem (by omega)]
 rfl
theorem Wd.th_after {W:Wd} {major:Bool} {i:Int} (h0:0≤i) (h1:i<W.T.length):(W.after major).th i=cutT (W.pass major).1 i.toNat (W.th i):=cutTs_th h0 h1
theorem Wd.after_len {W:Wd} {major:Bool}:(W.after major).T.length=W.T.length:=by simp [Wd.after,cutTs]
theorem Wd.after_live {W:Wd} (h:W.ok) {major:Bool} {i:Int}:(W.after major).live i↔atB (W.pass major).1 i=true:=by
 obtain ⟨m,_⟩:=Wd.pass_mid h major
 constructor
 ·rintro ⟨h0,h1,h2⟩
  rw [Wd.after_len] at h1
  rw [Wd.th_after h0 h1] at h2
  cases hb:atB (W.pass major).1 i
  ·rw [cutT_dead (by rw [atB_toNat h0,hb])] at h2;cases h2
  ·rfl
 ·intro hb
  have hl:=m.live i hb
  refine ⟨hl.1,by rw [Wd.after_len];exact hl.2.1,?_⟩
  rw [Wd.th_after hl.1 hl.2.1,(cutT_live (by rw [atB_toNat hl.1];exact hb)).1]
  exact hl.2.2
theorem cutT_fields {W:Wd} (h:W.ok) {q:List (Int × Int)} {is:List Bool} (hs:Closed W.nd q fun k=>atB is k=true) {i:Int} (hi:W.live i) (hb:atB is i=true) :
  ∀ v ∈ (cutT is i.toNat (W.th i)).fs,(v=(2,0))∨(v ∈ (W.th i).fs∧inS is v=true):=by
 intro v hv
 have hf:=h.tk i hi
 unfold cutT at hv
 rw [if_pos (by rw [atB_toNat hi.1];exact hb)] at hv
 have shut:∀ j,Leads W.nd q (fun k=>atB is k=true) i j→atB is j=true:=fun j hj=>hs i j hb hj
 have inS_of:∀ v:Vl,(v.1=3→atB is v.2=true)→inS is v=true:=fun v hv=>by
  unfold inS
  by_cases e:v.1=3
  ·simp [e,hv e]
  ·simp [e]
 have two:(W.th i).fs.length=2→∃ a b,(W.th i).fs=[a,b]:=fun hl=>by
  match hx:(W.th i).fs,hl with
  | [a,b],_=>exact ⟨a,b,rfl⟩
 change v ∈ (if _ then _ else _) at hv
 split at hv
 ·left;simp at hv;exact hv
 ·rename_i hc4
  split at hv
  ·rename_i hc3
   rw [hc3.1] at hf
   simp [fitsW] at hf
   obtain ⟨a,b,e⟩:=two (by omega)
   rw [e] at hv
   simp at hv
   rcases hv with rfl | rfl
   ·exact .inl rfl
   ·refine .inr ⟨by rw [e];simp,inS_of _ fun e3=>shut _ (.inr (.inl ⟨hc3.1,?_⟩))⟩
    show (W.th i).fs[1]? = _
    rw [e];cases v;simp_all
  ·rename_i hc3
   right
   refine ⟨hv,inS_of v fun e3=>?_⟩
   have e4:v=(3,v.2):=by cases v;simp_all
   have hk:=fitsW_spec hf
   by_cases k12:(W.th i).k=1∨(W.th i).k=2
   ·exact shut _ (.inl ⟨k12,by rw [←e4];exact hv⟩)
   by_cases k3:(W.th i).k=3
   ·have h0:inS is ((W.th i).fs.getD 0 (0,0))=true:=by
     cases hx:inS is ((W.th i).fs.getD 0 (0,0))
     ·exact absurd ⟨k3,hx⟩ hc3
     ·rfl
    rw [k3] at hf
    simp [fitsW] at hf
    obtain ⟨a,b,e⟩:=two (by omega)
    rw [e] at hv h0
    simp at hv h0
    rcases hv with rfl | rfl
    ·simp [inS,e3] at h0;exact h0
    ·exact shut _ (.inr (.inl ⟨k3,by show (W.th i).fs[1]? = _;rw [e,←e4];rfl⟩))
   by_cases k4:(W.th i).k=4
   ·have h0:inS is ((W.th i).fs.getD 0 (0,0))=true:=by
     cases hx:inS is ((W.th i).fs.getD 0 (0,0))
     ·exact absurd ⟨k4,hx⟩ hc4
     ·rfl
    rw [k4] at hf
    simp [fitsW] at hf
    obtain ⟨a,b,e⟩:=two (by omega)
    rw [e] at hv h0
    simp at hv h0
    rcases hv with rfl | rfl
    ·simp [inS,e3] at h0;exact h0
    ·refine shut _ (.inr (.inr (.inl ⟨k4,by show (W.th i).fs[1]? = _;rw [e,←e4];rfl,fun u hu hu3=>?_⟩)))
     have hu':(W.th i).fs[0]? = some u:=hu
     rw [e] at hu'
     simp at hu'
     subst hu'
     simp [inS,hu3] at h0;exact h0
   ·have k5:(W.th i).k=5:=by
     have h1:(W.th i).k≠1:=fun e=>k12 (.inl e)
     have h2:(W.th i).k≠2:=fun e=>k12 (.inr e)
     omega
    rw [k5] at hf
    simp [fitsW] at hf
    have:(W.th i).fs=[]:=by
     cases hx:(W.th i).fs with
     | nil=>rfl
     | cons a l=>rw [hx] at hf;simp at hf
    rw [this] at hv;cases hv
theorem sum_after (is:List Bool):∀ (l:List Th) (n:Nat) (hl:∀ j (h:j<l.length),is.getD (n+j) false=true→l[j].dead=false∧fitsW l[j].k l[j].fs.length=true),
  sumW (l.mapIdx fun i t=>cutT is (n+i) t) (fun t=>!t.dead && !t.old)=0 ∧
  sumW (l.mapIdx fun i t=>cutT is (n+i) t) (fun t=>!t.dead && t.old)=(l.mapIdx fun i t=>if is.getD (n+i) false then t.words else 0).sum
 | [],_,_=>⟨rfl,rfl⟩
 | t :: l,n,hl=>by
  have ih:=sum_after is l (n+1) (fun j h=>by
   have:=hl (j+1) (by simp;omega)
   simp only [List.getElem_cons_succ] at this
   rw [show n+1+j=n+(j+1) by omega];exact this)
  have e:∀ (f:Nat→Th→Th),(fun i t=>f (n+1+i) t)=fun i t=>f (n+(i+1)) t:=fun f=>by funext i t;rw [show n+1+i=n+(i+1) by omega]
  have e2:∀ (f:Nat→Th→Int),(fun i t=>f (n+1+i) t)=fun i t=>f (n+(i+1)) t:=fun f=>by funext i t;rw [show n+1+i=n+(i+1) by omega]
  rw [e (cutT is),e2 (fun i t=>if is.getD i false then t.words else 0)] at ih
  have h0:=hl 0 (by simp)
  simp only [List.getElem_cons_zero,Nat.add_zero] at h0
  simp only [sumW] at ih ⊢
  simp only [List.mapIdx_cons,List.map_cons,List.sum_cons,Nat.add_zero]
  rw [ih.1,ih.2]
  cases hb:is.getD n false
  ·have hd:=cutT_dead (t:=t) hb
   simp [hd]
  ·obtain ⟨h1,h2⟩:=h0 hb
   have hl2:=cutT_live (t:=t) hb
   have hl3:=cutT_len hb h2
   simp only [hl2.1,hl2.2,h1,Th.words,hl3]
   simp
theorem Wd.after_sums {W:Wd} (h:W.ok) (major:Bool):(W.after major).young=0∧(W.after major).olds=sumL (W.pass major).1 W.T:=by
 obtain ⟨m,_⟩:=Wd.pass_mid h major
 have:=sum_after (W.pass major).1 W.T 0 (fun j hj hb=>by
  rw [Nat.zero_add,←atB_nat] at hb
  have hl:=m.live _ hb
  obtain ⟨h',e⟩:=Wd.live_th hl
  simp only [Int.toNat_natCast] at e
  rw [←e]
  exact ⟨hl.2.2,h.tk _ hl⟩)
 simp only [Nat.zero_add] at this
 exact this
theorem Wd.after_th_alive {W:Wd} (h:W.ok) {major:Bool} {i:Int} (hb:atB (W.pass major).1 i=true):((W.after major).th i).k=(W.th i).k:=by
 obtain ⟨m,_⟩:=Wd.pass_mid h major
 have hl:=m.live i hb
 rw [Wd.th_after hl.1 hl.2.1,cutT_kind]
theorem newRegs_mem {is:List Bool} {l:List It} {e:Int × Int} (h:e ∈ newRegs atB nowW is l):∃ i ∈ l,i.1=e∧i.2.1=false∧atB is e.1=true:=by
 unfold newRegs at h
 simp only [List.mem_map,List.mem_filter,Bool.and_eq_true,Bool.not_eq_true'] at h
 obtain ⟨i,⟨hi,h1,h2⟩,rfl⟩:=h
 exact ⟨i,hi,rfl,h1,h2⟩
theorem newWait_mem {is:List Bool} {l:List (Int × Int)} {e:Int × Int} (h:e ∈ newWait atB nowW is l):e ∈ l∧atB is e.1=true:=by
 unfold newWait at h
 simp only [List.mem_map,List.mem_filter] at h
 obtain ⟨i,⟨hi,h1⟩,rfl⟩:=h
 exact ⟨hi,h1⟩
theorem Wd.ok.after {W:Wd} (h:W.ok) {major:Bool} (hroom:sumL (W.pass major).1 W.T≤W.grow):(W.after major).ok:=by
 obtain ⟨m,hfst,hcnt,hits⟩:=Wd.pass_mid h major
 have hs:=Wd.after_sums h major
 have lv:∀ i,atB (W.pass major).1 i=true→(W.after major).live i:=fun i hi=>(Wd.after_live h).2 hi
 have clo1:∀ i,atB (W.first major) i=true→atB (W.pass major).1 i=true:=m.first
 have root:∀ v ∈ W.roots,v.1=3→atB (W.pass major).1 v.2=true:=fun v hv e=>by
  have hl:=Wd.okV_ref (h.rv v hv) e
  have e2:v=(3,v.2):=by cases v;simp_all
  exact m.first _ (Wd.first_at.2 ⟨hl.1,hl.2.1, .inr (by rw [←e2];exact hv)⟩)
 refine ⟨h.hr,fun v hv=>?_,fun i hi=>?_,fun i hi v hv=>?_,fun e he=>?_,fun e he=>?_,?_,h.m1,h.m2,h.g1,h.g2,?_,?_⟩
 ·rcases h.rv v hv with h1 | h1 | h1 | h1
  ·exact .inl h1
  ·exact .inr (.inl h1)
  ·exact .inr (.inr (.inl h1))
  ·exact .inr (.inr (.inr ⟨h1.1,lv _ (root v hv h1.1)⟩))
 ·have hb:=(Wd.after_live h).1 hi
  have hl:=m.live i hb
  rw [Wd.th_after hl.1 hl.2.1,cutT_kind,cutT_len (by rw [atB_toNat hl.1];exact hb) (h.tk i hl)]
  exact h.tk i hl
 ·have hb:=(Wd.after_live h).1 hi
  have hl:=m.live i hb
  rw [Wd.th_after hl.1 hl.2.1] at hv
  rcases cutT_fields h m.shut hl hb v hv with rfl | ⟨hv1,hv2⟩
  ·exact .inr (.inr (.inl ⟨rfl,rfl⟩))
  ·rcases h.tv i hl v hv1 with h1 | h1 | h1 | h1
   ·exact .inl h1
   ·exact .inr (.inl h1)
   ·exact .inr (.inr (.inl h1))
   ·refine .inr (.inr (.inr ⟨h1.1,lv _ ?_⟩))
    simp [inS,h1.1] at hv2
    exact hv2
 ·obtain ⟨i,hi,rfl,hd,hg⟩:=newRegs_mem he
  have h1:(i.1,i.2.1) ∈ (W.pass major).2.2.map (fun i=>(i.1,i.2.1)):=List.mem_map.2 ⟨i,hi,rfl⟩
  rw [hits] at h1
  obtain ⟨e,he',e2⟩:=List.mem_map.1 h1
  have e3:e=i.1:=congrArg (fun p:(Int × Int) × Bool=>p.1) e2
  have e4:(!atB (W.clo W.wait (W.first major)) e.2)=i.2.1:=congrArg (fun p:(Int × Int) × Bool=>p.2) e2
  have hgv:=h.gv e he'
  rw [e3] at hgv e4
  rw [hd] at e4
  refine ⟨lv _ hg,?_,lv _ (hfst _ (by simpa using e4))⟩
  rw [Wd.after_th_alive h hg];exact hgv.2.1
 ·obtain ⟨h1,h2⟩:=newWait_mem he
  have hwv:=m.wv e h1
  refine ⟨lv _ h2,by rw [Wd.after_th_alive h h2];exact hwv.2.1,lv _ (m.shut _ _ h2 (.inr (.inr (.inr ⟨hwv.2.1,h1⟩))))⟩
 ·have hq:=h.hq
  have h1:(W.after major).wait.length≤(W.pass major).2.1.length:=by
   simp only [Wd.after,newWait,List.length_map];exact List.length_filter_le _ _
  have h2:(W.after major).regs.length≤unN (W.pass major).2.2:=by
   simp only [Wd.after,newRegs,List.length_map]
   have hmv:∀ i ∈ (W.pass major).2.2,i.2.1=false→i.2.2=false:=by
    have key:∀ (l:List It) (is:List Bool) (q:List (Int × Int)),(∀ i ∈ l,i.2.1=false→i.2.2=false)→∀ i ∈ (scanM atB W.keepW is q l).2.2.1,i.2.1=false→i.2.2=false:=by
     intro l
     induction l with
     | nil=>intro is q _ i hi;simp [scanM] at hi
     | cons a l ih=>
      intro is q hl i hi
      simp only [scanM] at hi
      split at hi
      ·rename_i hc
       simp only [Bool.and_eq_true] at hc
       rcases List.mem_cons.1 hi with rfl | hi
       ·intro e;rw [hc.1.1] at e;cases e
       ·exact ih _ _ (fun j hj=>hl j (by simp [hj])) i hi
      ·rcases List.mem_cons.1 hi with rfl | hi
       ·exact hl _ (by simp)
       ·exact ih _ _ (fun j hj=>hl j (by simp [hj])) i hi
    have key2:∀ (n:Nat) (l:List It) (is:List Bool) (q:List (Int × Int)),(∀ i ∈ l,i.2.1=false→i.2.2=false)→∀ i ∈ (roundsM atB W.keepW n is q l).2.2,i.2.1=false→i.2.2=false:=by
     intro n
     induction n with
     | zero=>intro l is q hl;exact hl
     | succ n ih=>
      intro l is q hl
      simp only [roundsM]
      split
      ·exact ih _ _ _ (key l is q hl)
      ·exact key l is q hl
    exact key2 _ _ _ _ (fun i hi=>by simp only [itemsM,List.mem_map] at hi;obtain ⟨e,_,rfl⟩:=hi;intro _;rfl)
   unfold unN
   rw [←List.countP_eq_length_filter,←List.countP_eq_length_filter]
   exact List.countP_mono_left fun i hi h=>by
    simp only [Bool.and_eq_true,Bool.not_eq_true'] at h
    simp [hmv i hi h.1]
  show (W.after major).regs.length+(W.after major).wait.length≤24
  omega
 ·show (W.after major).young≤W.most;rw [hs.1];have:=h.m1;omega
 ·show (W.after major).olds≤W.grow;rw [hs.2];exact hroom
theorem Wd.ok.cut {W:Wd} (h:W.ok) (major:Bool):(W.cut major).2.ok:=by
 unfold Wd.cut
 split
 ·exact h
 ·split
  ·exact h
  ·exact h.after (by omega)
theorem Wd.ok.room {W:Wd} (h:W.ok) (n:Int) (hn:n≤13):(W.room n).2.ok∧((W.room n).1=0→n≤(W.room n).2.most-(W.room n).2.young):=by
 unfold Wd.room
 split
 ·refine ⟨h.cut _,fun h0=>?_⟩
  unfold Wd.cut at h0 ⊢
  split
  ·rename_i hc;rw [if_pos hc] at h0;simp at h0
  ·rename_i hc
   rw [if_neg hc] at h0
   split
   ·rename_i hd;rw [if_pos hd] at h0;simp at h0
   ·show n≤W.most-(W.after _).young
    rw [(Wd.after_sums h _).1]
    have:=h.m1;omega
 ·exact ⟨h,fun _=>by show n≤W.most-W.young;omega⟩
theorem Wd.thing_live {W:Wd} (h:W.ok) {k:Int} (hk:¬ W.thing k<0):W.live (W.thing k):=by
 unfold Wd.thing at hk ⊢
 split
 ·rename_i h3;exact Wd.okV_ref (Wd.rt_ok h k) h3
 ·rename_i h3;rw [if_neg h3] at hk;simp at hk
theorem Wd.guard_live {W:Wd} (h:W.ok) {k:Int} (hk:¬ W.guard k<0):W.live (W.guard k)∧(W.th (W.guard k)).k=5∧W.guard k=W.thing k:=by
 unfold Wd.guard at hk ⊢
 split
 ·rename_i h3;rw [if_pos h3] at hk;simp at hk
 ·rename_i h3
  have h5:(W.th (W.thing k)).k=5:=by
   by_cases e:(W.th (W.thing k)).k=5
   ·exact e
   ·exact absurd (Or.inr e) h3
  exact ⟨Wd.thing_live h (fun e=>h3 (.inl e)),h5,rfl⟩
theorem popW_mem:∀ {l:List (Int × Int)} {g:Int} {r:Int × List (Int × Int)},popW l g=some r→(g,r.1) ∈ l∧(∀ e ∈ r.2,e ∈ l)∧r.2.length+1=l.length
 | [],g,r,h=>by simp [popW] at h
 | e :: l,g,r,h=>by
  unfold popW at h
  split at h
  ·rename_i hg
   simp at h;subst h
   refine ⟨?_,fun e he=>by simp [he],rfl⟩
   rw [←hg];simp
  ·simp only [Option.map_eq_some_iff] at h
   obtain ⟨r',h1,rfl⟩:=h
   have ih:=popW_mem h1
   refine ⟨by simp [ih.1],fun x hx=>?_,by simp;omega⟩
   rcases List.mem_cons.1 hx with rfl | hx
   ·simp
   ·simp [ih.2.1 x hx]
theorem Wd.field_at {W:Wd} {x:St} (h:W.fieldC x=0):¬ W.thing x.a<0∧(W.th (W.thing x.a)).k≠5∧0≤x.i∧x.i<(W.th (W.thing x.a)).fs.length:=by
 unfold Wd.fieldC at h
 split at h
 ·simp at h
 ·rename_i hc
  split at h
  ·simp at h
  ·rename_i hd
   exact ⟨fun e=>hc (.inl e),fun e=>hc (.inr e),by omega,by omega⟩
theorem Wd.okV_num {W:Wd} {n:Int} (h1:-big≤n) (h2:n<big):W.okV (1,n):=.inr (.inl ⟨rfl,h1,h2⟩)
theorem checkM_use {x:St} (h:checkM x=0):¬ usesM x.k=-1∧(usesM x.k%2=1→rootOk x.r=true)∧(usesM x.k/2%2=1→rootOk x.a=true)∧(usesM x.k/4%2=1→rootOk x.b=true) ∧
  (x.k=1→-big≤x.n∧x.n<big)∧(x.k=5→0≤x.n∧x.n≤12):=by
 unfold checkM at h
 split at h
 ·simp at h
 ·rename_i h1
  split at h
  ·simp at h
  ·rename_i h2
   split at h
   ·simp at h
   ·rename_i h3
    split at h
    ·simp at h
    ·rename_i h4
     have nb:∀ b:Bool,¬ b=false→b=true:=fun b=>by cases b <;> simp
     exact ⟨h1,fun h=>nb _ fun e=>h2 (.inl ⟨h,e⟩),fun h=>nb _ fun e=>h2 (.inr (.inl ⟨h,e⟩)),fun h=>nb _ fun e=>h2 (.inr (.inr ⟨h,e⟩)),
      fun h=>Classical.not_not.1 fun e=>h3 ⟨h,e⟩,fun h=>Classical.not_not.1 fun e=>h4 ⟨h,e⟩⟩
theorem Wd.new_ok {n o:Int} (h1:16≤n) (h2:n≤256) (h3:0≤o) (h4:o≤1024):(Wd.new n o).ok:=by
 have nl:∀ i,¬ (Wd.new n o).live i:=fun i h=>by have h1:=h.1;have h2:=h.2.1;simp [Wd.new] at h2;omega
 refine ⟨by simp [Wd.new],fun v hv=>?_,fun i hi=>(nl i hi).elim,fun i hi=>(nl i hi).elim,fun e he=>by simp [Wd.new] at he,fun e he=>by simp [Wd.new] at he,by simp [Wd.new],h1,h2,h3,h4,?_,?_⟩
 ·simp [Wd.new] at hv;subst hv;exact .inl ⟨rfl,rfl⟩
 ·show sumW [] _≤n;simp [sumW];omega
 ·show sumW [] _≤o;simp [sumW];omega
end
section
def encV (φ:Int→Int) (v:Vl):Int:=if v.1=3 then 4*φ v.2+1 else if v.1=1 then 4*v.2 else if v.1=2 then 3 else 2
def encE (φ:Int→Int) (e:Int × Int):Int × Int:=(4*φ e.1+1,4*φ e.2+1)
theorem encV_ref (φ:Int→Int) {v:Vl} (h:v.1=3):encV φ v=4*φ v.2+1:=if_pos h
theorem encV_mod {W:Wd} {φ:Int→Int} {v:Vl} (h:W.okV v):encV φ v%4=1↔v.1=3:=by
 rcases h with h | h | h | h
 ·simp [encV,h.1]
 ·simp [encV,h.1]
 ·simp [encV,h.1]
 ·simp only [encV,h.1,if_true,iff_true];omega
theorem encV_plain {φ ψ:Int→Int} {v:Vl} (h:v.1≠3):encV φ v=encV ψ v:=by simp [encV,h]
theorem valO_encV {W:Wd} {φ:Int→Int} {v:Vl} (h:W.okV v):valO (encV φ v)=reV φ v:=by
 rcases h with h | h | h | h
 ·have:v=(0,0):=by cases v;simp_all
  subst this;rfl
 ·have e:encV φ v=4*v.2:=by simp [encV,h.1]
  rw [e]
  have h1:(4*v.2)%4=0:=by omega
  have h2:(4*v.2)/4=v.2:=by omega
  have:=decW_int (x:=4*v.2) h1 (by rw [h2];exact h.2)
  unfold valO reV
  rw [if_neg (by omega),this,if_neg (by rw [h.1];decide),h2]
  cases v;simp_all
 ·have:v=(2,0):=by cases v;simp_all
  subst this;rfl
 ·have e:encV φ v=4*φ v.2+1:=encV_ref φ h.1
  rw [e]
  unfold valO reV
  rw [if_pos (by omega),if_pos h.1]
  congr 1;omega
def Tile (A:Ar):List Int→Int→Int→Prop
 | [],a,b=>a=b
 | p :: l,a,b=>p=a∧(A.thing p).2.2=0∧Tile A l (p+1+(A.thing p).2.1) b
theorem Tile.le {A:Ar}:∀ {l:List Int} {a b:Int},Tile A l a b→a≤b
 | [],a,b,h=>by have:a=b:=h;omega
 | p :: l,a,b,h=>by
  have:=Tile.le h.2.2
  have:=A.thing_fields p
  have:=h.1
  omega
theorem Tile.mem {A:Ar}:∀ {l:List Int} {a b:Int},Tile A l a b→∀ p ∈ l,a≤p∧p+1+(A.thing p).2.1≤b∧(A.thing p).2.2=0
 | q :: l,a,b,h,p,hp=>by
  rcases List.mem_cons.1 hp with rfl | hp
  ·have:=Tile.le h.2.2
   have:=h.1
   exact ⟨by omega,by omega,h.2.1⟩
  ·have h1:=Tile.mem h.2.2 p hp
   have:=A.thing_fields q
   have:=h.1
   exact ⟨by omega,h1.2.1,h1.2.2⟩
theorem Tile.apart {A:Ar}:∀ {l:List Int} {a b:Int},Tile A l a b→l.Pairwise fun p q=>p+1+(A.thing p).2.1≤q
 | [],_,_,_=>List.Pairwise.nil
 | p :: l,a,b,h=>List.Pairwise.cons (fun q hq=>(Tile.mem h.2.2 q hq).1) (Tile.apart h.2.2)
theorem Tile.congr {A B:Ar}:∀ {l:List Int} {a b:Int},(∀ p ∈ l,B.thing p=A.thing p)→Tile A l a b→Tile B l a b
 | [],_,_,_,h=>h
 | p :: l,a,b,hs,h=>by
  refine ⟨h.1,?_,?_⟩
  ·rw [hs p (by simp)];exact h.2.1
  ·rw [hs p (by simp)];exact Tile.congr (fun q hq=>hs q (by simp [hq])) h.2.2
theorem Tile.app {A:Ar} {m:List Int} {c:Int}:∀ {l:List Int} {a b:Int},Tile A l a b→Tile A m b c→Tile A (l ++ m) a c
 | [],a,b,h,k=>by have:a=b:=h;subst this;exact k
 | p :: l,a,b,h,k=>⟨h.1,h.2.1,Tile.app h.2.2 k⟩
theorem Tile.list {A:Ar}:∀ {l:List Int} {a b:Int} {n:Nat},Tile A l a b→(b-a).toNat≤n→A.list n a b=l
 | [],a,b,n,h,hn=>by
  have:a=b:=h
  subst this
  exact Ar.list_end (fun h=>by omega)
 | p :: l,a,b,n,h,hn=>by
  have hle:=Tile.le h.2.2
  have hf:=A.thing_fields p
  have he:=h.1
  subst he
  obtain ⟨n,rfl⟩:∃ m,n=m+1:=⟨n-1,by omega⟩
  rw [Ar.list_step (by omega) h.2.1,Tile.list h.2.2 (by omega)]
theorem Tile.sum {A:Ar}:∀ {l:List Int} {a b:Int},Tile A l a b→b=a+(l.map fun p=>1+(A.thing p).2.1).sum
 | [],a,b,h=>by have:a=b:=h;subst this;simp
 | p :: l,a,b,h=>by
  have:=Tile.sum h.2.2
  have:=h.1
  simp only [List.map_cons,List.sum_cons]
  omega
theorem Ar.load_store {A:Ar} (h:A.ok) (p q x:Int):(A.store p x).load q=if q=p∧A.inUse p=true then x else A.load q:=by
 have hu:∀ r,(A.store p x).inUse r=A.inUse r:=fun r=>by
  unfold Ar.inUse Ar.young Ar.old
  rw [A.store_yng,A.store_nur,A.store_grn]
 unfold Ar.load
 rw [hu]
 by_cases hp:A.inUse p=true
 ·have hl:=h.use_lt hp
  have e:A.store p x={ A with ws:=A.ws.set p.toNat x }:=by unfold Ar.store;rw [if_pos hp]
  by_cases hq:A.inUse q=true
  ·have hlq:=h.use_lt hq
   rw [if_pos hq,if_pos hq,e]
   show (A.ws.set p.toNat x).getD q.toNat 0=_
   simp only [List.getD_eq_getElem?_getD,List.getElem?_set]
   by_cases e2:q=p
   ·subst e2;rw [if_pos rfl,if_pos (by omega),if_pos ⟨rfl,hp⟩];rfl
   ·rw [if_neg (by omega),if_neg (fun h=>e2 h.1)]
  ·rw [if_neg hq,if_neg hq,if_neg (fun hh=>by rw [hh.1] at hq;exact hq hh.2)]
 ·have e:A.store p x=A:=by unfold Ar.store;rw [if_neg hp]
  rw [e,if_neg (fun hh:q=p∧A.inUse p=true=>hp hh.2)]
end
section
def numV (M:List Int) (v:Vl):Vl:=reV (fun x=>((M.idxOf x:Nat):Int)) v
def numN (M:List Int) (n:Nd):Nd:=(n.1,n.2.map (numV M))
theorem numV_app {M m:List Int} {v:Vl} (h:v.1=3→v.2 ∈ M):numV (M ++ m) v=numV M v:=by
 unfold numV reV
 by_cases h3:v.1=3
 ·rw [if_pos h3,if_pos h3]
  dsimp only
  rw [List.idxOf_append,if_pos (h h3)]
 ·rw [if_neg h3,if_neg h3]
theorem numV_map_app {M m:List Int} {l:List Vl} (h:∀ v ∈ l,v.1=3→v.2 ∈ M):l.map (numV (M ++ m))=l.map (numV M):=
 List.map_congr_left fun v hv=>numV_app (h v hv)
structure Told (G:Gr) (L:List Vl) (s s':VS):Prop where
 pre:∃ m,s'.1=s.1 ++ m
 len:s'.2.length=s'.1.length
 nodup:s.1.Nodup→s'.1.Nodup
 met:∀ v ∈ L,v.1=3→v.2 ∈ s'.1
 shut:∀ (k:Nat) (x:Int),s.1.length≤k→s'.1[k]? = some x→∀ v ∈ (G x).2,v.1=3→v.2 ∈ s'.1
 node:∀ (k:Nat) (x:Int),s.1.length≤k→s'.1[k]? = some x→s'.2[k]? = some (numN s'.1 (G x))
 keep:∀ k,k<s.1.length→s'.2[k]? = s.2[k]?
 led:∀ (k:Nat) (x:Int),s.1.length≤k→s'.1[k]? = some x→((3,x):Vl) ∈ L∨∃ (j:Nat) (y:Int),s.1.length≤j∧j<k∧s'.1[j]? = some y∧((3,x):Vl) ∈ (G y).2
theorem Told.refl (G:Gr) {L:List Vl} {s:VS} (hl:s.2.length=s.1.length) (hm:∀ v ∈ L,v.1=3→v.2 ∈ s.1):Told G L s s:=
 have no:∀ (k:Nat) (x:Int),s.1.length≤k→s.1[k]? = some x→False:=fun k x h1 h2=>by
  rw [List.getElem?_eq_none h1] at h2;cases h2
 ⟨⟨[],by simp⟩,hl,fun h=>h,hm,fun k x h1 h2=>(no k x h1 h2).elim,fun k x h1 h2=>(no k x h1 h2).elim,fun _ _=>rfl,fun k x h1 h2=>(no k x h1 h2).elim⟩
theorem getElem?_pre {α:Type} {a m:List α} {k:Nat} (h:k<a.length):(a ++ m)[k]? = a[k]? := List.getElem?_append_left h
theorem Told.then {G:Gr} {L L':List Vl} {s t u:VS} (A:Told G L s t) (B:Told G L' t u):Told G (L ++ L') s u:=by
 obtain ⟨m,hm⟩:=A.pre
 obtain ⟨m',hm'⟩:=B.pre
 have hsub:∀ x ∈ t.1,x ∈ u.1:=fun x hx=>by rw [hm'];simp [hx]
 have ht:s.1.length≤t.1.length:=by rw [hm];simp
 refine ⟨⟨m ++ m',by rw [hm',hm];simp⟩,B.len,fun h=>B.nodup (A.nodup h),fun v hv h3=>?_,fun k x hk hx v hv h3=>?_,fun k x hk hx=>?_,fun k hk=>?_,fun k x hk hx=>?_⟩
 ·rcases List.mem_append.1 hv with h | h
  ·exact hsub _ (A.met v h h3)
  ·exact B.met v h h3
 ·by_cases hlt:k<t.1.length
  ·rw [hm',getElem?_pre hlt] at hx
   exact hsub _ (A.shut k x hk hx v hv h3)
  ·exact B.shut k x (by omega) hx v hv h3
 ·by_cases hlt:k<t.1.length
  ·have hx':t.1[k]? = some x:=by rw [hm',getElem?_pre hlt] at hx;exact hx
   rw [B.keep k hlt,A.node k x hk hx']
   unfold numN
   rw [hm',numV_map_app (A.shut k x hk hx')]
  ·exact B.node k x (by omega) hx
 ·rw [B.keep k (by omega),A.keep k hk]
 ·by_cases hlt:k<t.1.length
  ·have hx':t.1[k]? = some x:=by rw [hm',getElem?_pre hlt] at hx;exact hx
   rcases A.led k x hk hx' with h | ⟨j,y,h1,h0,h2,h3⟩
   ·exact .inl (by simp [h])
   ·exact .inr ⟨j,y,h1,h0,by rw [hm',getElem?_pre (by omega)];exact h2,h3⟩
  ·rcases B.led k x (by omega) hx with h | ⟨j,y,h1,h0,h2,h3⟩
   ·exact .inl (by simp [h])
   ·exact .inr ⟨j,y,by omega,h0,h2,h3⟩
theorem fldM_told {G:Gr} {U:List Int} {n:Nat} {f:Vl→VS→Vl × VS}
  (h:∀ v s,(v.1=3→v.2 ∈ U)→unM U s.1≤n→s.2.length=s.1.length→Told G [v] s (f v s).2∧(f v s).1=numV (f v s).2.1 v) :
  ∀ (l:List Vl) (s:VS),(∀ v ∈ l,v.1=3→v.2 ∈ U)→unM U s.1≤n→s.2.length=s.1.length→Told G l s (fldM f l s).2∧(fldM f l s).1=l.map (numV (fldM f l s).2.1)
 | [],s,_,_,hl=>⟨Told.refl G hl (fun v hv=>by cases hv),rfl⟩
 | v :: l,s,hL,hn,hl=>by
  obtain ⟨A,e⟩:=h v s (hL v (by simp)) hn hl
  obtain ⟨m,hm⟩:=A.pre
  have:=unM_app U s.1 m
  obtain ⟨B,e2⟩:=fldM_told h l (f v s).2 (fun u hu=>hL u (by simp [hu])) (by rw [hm];omega) A.len
  refine ⟨A.then B,?_⟩
  simp only [fldM,List.map_cons]
  obtain ⟨m',hm'⟩:=B.pre
  have h1:numV (fldM f l (f v s).2).2.1 v=numV (f v s).2.1 v:=by rw [hm'];exact numV_app (A.met v (by simp))
  rw [h1,←e,←e2]
theorem valM_told {G:Gr} {U:List Int} (I:InU G U):∀ (n:Nat) (v:Vl) (s:VS),(v.1=3→v.2 ∈ U)→unM U s.1≤n→s.2.length=s.1.length →
  Told G [v] s (valM G n v s).2∧(valM G n v s).1=numV (valM G n v s).2.1 v:=by
 intro n
 induction n with
 | zero=>
  intro v s hv hn hl
  by_cases h3:v.1=3
  ·have hm:=unM_zero (Nat.le_zero.1 hn) (hv h3)
   rw [valM_met G _ h3 hm]
   refine ⟨Told.refl G hl (fun u hu h=>by rw [List.mem_singleton.1 hu];exact hm),?_⟩
   simp [numV,reV,h3,refV]
  ·rw [valM_plain G _ _ h3]
   exact ⟨Told.refl G hl (fun u hu h=>absurd (by rw [←List.mem_singleton.1 hu];exact h) h3),by simp [numV,reV,h3]⟩
 | succ n ih=>
  intro v s hv hn hl
  by_cases h3:v.1=3
  ·by_cases hm:v.2 ∈ s.1
   ·rw [valM_met G _ h3 hm]
    refine ⟨Told.refl G hl (fun u hu h=>by rw [List.mem_singleton.1 hu];exact hm),?_⟩
    simp [numV,reV,h3,refV]
   ·have hu:=unM_push (hv h3) hm
    obtain ⟨A,e⟩:=fldM_told ih (G v.2).2 (s.1 ++ [v.2],s.2 ++ [((G v.2).1,[])]) (I.shut _ (hv h3)) (Nat.le_of_lt_succ (Nat.lt_of_lt_of_le hu hn)) (by simp [hl])
    obtain ⟨m,hmm⟩:=A.pre
    dsimp only at hmm
    rw [valM_new G n h3 hm]
    have hat:(fldM (valM G n) (G v.2).2 (s.1 ++ [v.2],s.2 ++ [((G v.2).1,[])])).2.1[s.1.length]? = some v.2:=by rw [hmm];simp
    have hlt:s.1.length<(fldM (valM G n) (G v.2).2 (s.1 ++ [v.2],s.2 ++ [((G v.2).1,[])])).2.1.length:=by rw [hmm];simp
    refine ⟨⟨⟨v.2 :: m,by dsimp only;rw [hmm];simp⟩,by dsimp only;rw [List.length_set];exact A.len,fun h=>A.nodup (by
      rw [List.nodup_append]
      exact ⟨h,by simp,fun a ha b hb e=>hm (by rw [←List.mem_singleton.1 hb,←e];exact ha)⟩),fun u hu h=>?_,fun k x hk hx u hu h=>?_,fun k x hk hx=>?_,fun k hk=>?_,fun k x hk hx=>?_⟩,?_⟩
    ·rw [List.mem_singleton.1 hu];dsimp only;rw [hmm];simp
    ·by_cases he:k=s.1.length
     ·subst he
      dsimp only at hx ⊢
      rw [hat] at hx;cases hx
      exact A.met u hu h
     ·exact A.shut k x (by simp;omega) hx u hu h
    ·dsimp only at hx ⊢
     by_cases he:k=s.1.length
     ·subst he
      rw [hat] at hx;cases hx
      rw [List.getElem?_set_self (by rw [A.len];exact hlt)]
      unfold numN
      rw [←e]
     ·rw [List.getElem?_set_ne (by omega)]
      exact A.node k x (by simp;omega) hx
    ·dsimp only
     rw [List.getElem?_set_ne (by omega),A.keep k (by simp;omega)]
     dsimp only
     rw [List.getElem?_append_left (by omega)]
    ·dsimp only at hx ⊢
     by_cases he:k=s.1.length
     ·subst he
      rw [hat] at hx;cases hx
      left
      rw [List.mem_singleton,←h3]
     ·right
      rcases A.led k x (by simp;omega) hx with h | ⟨j,y,h1,h0,h2,h4⟩
      ·exact ⟨s.1.length,v.2,Nat.le_refl _,by omega,hat,h⟩
      ·exact ⟨j,y,by simp at h1;omega,h0,h2,h4⟩
    ·dsimp only
     unfold numV reV
     rw [if_pos h3,hmm]
     dsimp only
     rw [List.idxOf_append,if_pos (by simp),List.idxOf_append,if_neg hm]
     simp [refV]
  ·rw [valM_plain G _ _ h3]
   exact ⟨Told.refl G hl (fun u hu h=>absurd (by rw [←List.mem_singleton.1 hu];exact h) h3),by simp [numV,reV,h3]⟩
def metM (G:Gr) (roots:List Vl):List Int:=(fldM (valM G deep) roots ([],[])).2.1
theorem viewM_told {G:Gr} {U:List Int} (I:InU G U) (hU:U.length≤deep) {roots:List Vl} (hr:∀ v ∈ roots,v.1=3→v.2 ∈ U) :
  viewM G roots=(roots.map (numV (metM G roots)),(metM G roots).map fun x=>numN (metM G roots) (G x))∧(metM G roots).Nodup∧(∀ v ∈ roots,v.1=3→v.2 ∈ metM G roots) ∧
  (∀ x ∈ metM G roots, ∀ v ∈ (G x).2,v.1=3→v.2 ∈ metM G roots)∧∀ (k:Nat) (x:Int),(metM G roots)[k]? = some x→((3,x):Vl) ∈ roots∨∃ (j:Nat) (y:Int),j<k∧(metM G roots)[j]? = some y∧((3,x):Vl) ∈ (G y).2:=by
 obtain ⟨A,e⟩:=fldM_told (valM_told I deep) roots ([],[]) hr (Nat.le_trans (unM_nil U) hU) rfl
 unfold viewM
 have hM:metM G roots=(fldM (valM G deep) roots ([],[])).2.1:=rfl
 rw [←hM] at e
 refine ⟨Prod.ext e ?_,A.nodup (by simp),A.met,fun x hx v hv h3=>?_,fun k x hx=>?_⟩
 ·refine List.ext_getElem? fun k=>?_
  dsimp only
  rw [List.getElem?_map,hM]
  cases hk:(fldM (valM G deep) roots ([],[])).2.1[k]? with
  | none=>
   rw [List.getElem?_eq_none_iff] at hk
   rw [List.getElem?_eq_none (by rw [A.len];exact hk)];rfl
  | some x=>rw [A.node k x (by simp) hk];rfl
 ·obtain ⟨k,hk,rfl⟩:=List.mem_iff_getElem.1 hx
  exact A.shut k _ (by simp) (List.getElem?_eq_getElem hk) v hv h3
 ·rcases A.led k x (by simp) hx with h | ⟨j,y,h1,h0,h2,h3⟩
  ·exact .inl h
  ·exact .inr ⟨j,y,h0,h2,h3⟩
end
section
structure Rep (O:Wo) (W:Wd) (φ:Int→Int):Prop where
 ho:O.ok
 hw:W.ok
 ty:Tile O.ar O.ar.things.1 0 O.ar.yng
 tz:Tile O.ar O.ar.things.2 O.ar.nur O.ar.grn
 inj:∀ i j,W.live i→W.live j→φ i=φ j→i=j
 onto:∀ p,p ∈ O.ar.things.1∨p ∈ O.ar.things.2→∃ i,W.live i∧φ i=p
 iny:∀ i,W.live i→(W.th i).old=false→φ i ∈ O.ar.things.1
 ino:∀ i,W.live i→(W.th i).old=true→φ i ∈ O.ar.things.2
 th:∀ i,W.live i→O.ar.thing (φ i)=((W.th i).k,((W.th i).fs.length:Int),0)
 fl:∀ i,W.live i→∀ (j:Nat) (v:Vl),(W.th i).fs[j]? = some v→O.ar.load (φ i+1+j)=encV φ v
 rt:O.rt=W.roots.map (encV φ)
 rg:O.rg=W.regs.map (encE φ)
 wt:O.wt=W.wait.map (encE φ)
 nur:(O.ar.nur:Int)=W.most
 len:(O.ar.ws.length:Int)=W.most+W.grow
 cl:O.cd.length=cardsN W.grow
 card:∀ i,W.live i→(W.th i).old=true→∀ v ∈ (W.th i).fs,v.1=3→(W.th v.2).old=false→dirtyL O.ar.nur O.cd (φ i)=true
section
variable {O:Wo} {W:Wd} {φ:Int→Int}
theorem young_iff {A:Ar} {i:Int}:A.young i=true↔0≤i∧i<A.yng:=by simp [Ar.young]
theorem old_iff {A:Ar} {i:Int}:A.old i=true↔(A.nur:Int)≤i∧i<A.grn:=by simp [Ar.old]
theorem Tile.in_young {A:Ar} {l:List Int} (h:Tile A l 0 A.yng) {p:Int} (hp:p ∈ l) {j:Int} (h0:0≤j) (h1:j≤(A.thing p).2.1):A.young (p+j)=true:=by
 have:=Tile.mem h p hp
 rw [young_iff];omega
theorem Tile.in_old {A:Ar} {l:List Int} (h:Tile A l A.nur A.grn) {p:Int} (hp:p ∈ l) {j:Int} (h0:0≤j) (h1:j≤(A.thing p).2.1):A.old (p+j)=true:=by
 have:=Tile.mem h p hp
 rw [old_iff];omega
theorem Rep.young (R:Rep O W φ) {i:Int} (hi:W.live i) (ho:(W.th i).old=false) {j:Int} (h0:0≤j) (h1:j≤(W.th i).fs.length):O.ar.young (φ i+j)=true:=
 R.ty.in_young (R.iny i hi ho) h0 (by rw [R.th i hi];exact h1)
theorem Rep.old (R:Rep O W φ) {i:Int} (hi:W.live i) (ho:(W.th i).old=true) {j:Int} (h0:0≤j) (h1:j≤(W.th i).fs.length):O.ar.old (φ i+j)=true:=
 R.tz.in_old (R.ino i hi ho) h0 (by rw [R.th i hi];exact h1)
theorem not_both {A:Ar} (h:A.ok) {i:Int} (hy:A.young i=true):A.old i=false:=by
 have:=h.h1
 rw [young_iff] at hy
 cases ho:A.old i
 ·rfl
 ·rw [old_iff] at ho;omega
theorem Rep.young_iff (R:Rep O W φ) {i:Int} (hi:W.live i):O.ar.young (φ i)=true↔(W.th i).old=false:=by
 constructor
 ·intro h
  cases ho:(W.th i).old
  ·rfl
  ·have:=R.old hi ho (j:=0) (by omega) (by omega)
   rw [Int.add_zero,not_both R.ho.ha h] at this;cases this
 ·intro h
  have:=R.young hi h (j:=0) (by omega) (by omega)
  rwa [Int.add_zero] at this
theorem Rep.old_iff (R:Rep O W φ) {i:Int} (hi:W.live i):O.ar.old (φ i)=true↔(W.th i).old=true:=by
 constructor
 ·intro h
  cases ho:(W.th i).old
  ·have:=(R.young_iff hi).2 ho
   rw [not_both R.ho.ha this] at h;cases h
  ·rfl
 ·intro h
  have:=R.old hi h (j:=0) (by omega) (by omega)
  rwa [Int.add_zero] at this
theorem Rep.use (R:Rep O W φ) {i:Int} (hi:W.live i) {j:Int} (h0:0≤j) (h1:j≤(W.th i).fs.length):O.ar.inUse (φ i+j)=true:=by
 unfold Ar.inUse
 rw [Bool.or_eq_true]
 cases ho:(W.th i).old
 ·exact .inl (R.young hi ho h0 h1)
 ·exact .inr (R.old hi ho h0 h1)
theorem Rep.place (R:Rep O W φ) {i:Int} (hi:W.live i):0≤φ i∧φ i<1280∧φ i<O.ar.ws.length:=by
 have:=R.use hi (j:=0) (by omega) (by omega)
 rw [Int.add_zero] at this
 have:=R.ho.ha.use_lt this
 have:=R.ho.ha.h4
 omega
theorem pairwise_two {l:List Int} {f:Int→Int} (h:l.Pairwise fun p q=>p+1+f p≤q) {p q:Int} (hp:p ∈ l) (hq:q ∈ l):p=q∨p+1+f p≤q∨q+1+f q≤p:=by
 induction h with
 | nil=>cases hp
 | cons h1 _ ih=>
  rcases List.mem_cons.1 hp with rfl | hp'
  ·rcases List.mem_cons.1 hq with rfl | hq'
   ·exact .inl rfl
   ·exact .inr (.inl (h1 q hq'))
  ·rcases List.mem_cons.1 hq with rfl | hq'
   ·exact .inr (.inr (h1 p hp'))
   ·exact ih hp' hq'
theorem Rep.apart (R:Rep O W φ) {i j:Int} (hi:W.live i) (hj:W.live j) (h:i≠j):φ i+1+(W.th i).fs.length≤φ j∨φ j+1+(W.th j).fs.length≤φ i:=by
 have hne:φ i≠φ j:=fun e=>h (R.inj i j hi hj e)
 have h1:=R.ho.ha.h1
 have ti:=R.th i hi;have tj:=R.th j hj
 cases oi:(W.th i).old <;> cases oj:(W.th j).old
 ·have:=pairwise_two (f:=fun p=>(O.ar.thing p).2.1) R.ty.apart (R.iny i hi oi) (R.iny j hj oj)
  rw [ti,tj] at this
  dsimp only at this
  omega
 ·have a:=R.ty.mem _ (R.iny i hi oi);have b:=R.tz.mem _ (R.ino j hj oj)
  rw [ti] at a
  dsimp only at a
  omega
 ·have a:=R.tz.mem _ (R.ino i hi oi);have b:=R.ty.mem _ (R.iny j hj oj)
  rw [tj] at b
  dsimp only at b
  omega
 ·have:=pairwise_two (f:=fun p=>(O.ar.thing p).2.1) R.tz.apart (R.ino i hi oi) (R.ino j hj oj)
  rw [ti,tj] at this
  dsimp only at this
  omega
theorem Tile.nodup {A:Ar} {l:List Int} {a b:Int} (h:Tile A l a b):l.Nodup:=by
 refine List.Pairwise.imp ?_ h.apart
 intro p q hpq e
 have:=A.thing_fields p
 omega
theorem map_waits (h:∀ i j,W.live i→W.live j→φ i=φ j→i=j):∀ (l:List (Int × Int)),(∀ e ∈ l,W.okE e)→∀ i,W.live i→waitO (l.map (encE φ)) (4*φ i+1)=(waitAt l i).map fun x=>4*φ x+1
 | [],_,_,_=>rfl
 | e :: l,hl,i,hi=>by
  have ih:=map_waits h l (fun e he=>hl e (by simp [he])) i hi
  have he:=hl e (by simp)
  unfold waitO waitAt at *
  simp only [List.map_cons,List.filter_cons]
  by_cases c:e.1=i
  ·have c':(encE φ e).1=4*φ i+1:=by simp [encE,c]
   rw [if_pos (by simpa using c'),if_pos (by simpa using c)]
   simp only [List.map_cons,ih]
   simp [encE]
  ·have c':¬ (encE φ e).1=4*φ i+1:=by
    intro h'
    simp only [encE] at h'
    exact c (h _ _ he.1 hi (by omega))
   rw [if_neg (by simpa using c'),if_neg (by simpa using c)]
   exact ih
theorem Rep.fields (R:Rep O W φ) {i:Int} (hi:W.live i):O.ar.fields (φ i)=(W.th i).fs.map (encV φ):=by
 unfold Ar.fields
 rw [R.th i hi]
 apply List.ext_getElem
 ·simp
 ·intro k h1 h2
  simp only [List.length_map,List.length_range] at h1 h2
  simp only [List.getElem_map,List.getElem_range]
  exact R.fl i hi k _ (List.getElem?_eq_getElem (by simpa using h2))
theorem Rep.iso (R:Rep O W φ):Iso W.gr O.gr W.live φ:=by
 refine ⟨R.inj,fun i hi=>?_,fun i hi v hv h3=>?_⟩
 ·unfold Wo.gr Wd.gr
  dsimp only
  rw [R.th i hi,R.fields hi]
  dsimp only
  refine Prod.ext rfl ?_
  dsimp only
  rw [List.map_append,List.map_map]
  congr 1
  ·refine List.map_congr_left fun v hv=>?_
   exact valO_encV (R.hw.tv i hi v hv)
  ·by_cases hk:(W.th i).k=5
   ·rw [if_pos hk,if_pos hk,R.wt,map_waits R.inj W.wait R.hw.wv i hi,List.map_map,List.map_map]
    refine List.map_congr_left fun x hx=>?_
    simp only [Function.comp]
    unfold valO reV
    rw [if_pos (by omega),if_pos rfl]
    show ((3:Int),(4*φ x+1)/4)=(3,φ x)
    rw [show (4*φ x+1)/4=φ x by omega]
   ·rw [if_neg hk,if_neg hk];rfl
 ·unfold Wd.gr at hv
  dsimp only at hv
  rcases List.mem_append.1 hv with h1 | h1
  ·exact Wd.okV_ref (R.hw.tv i hi v h1) h3
  ·split at h1
   ·obtain ⟨x,hx,rfl⟩:=List.mem_map.1 h1
    unfold waitAt at hx
    obtain ⟨e,he,rfl⟩:=List.mem_map.1 hx
    exact (R.hw.wv e (List.mem_filter.1 he).1).2.2
   ·cases h1
theorem Rep.view (R:Rep O W φ):O.view=W.view:=by
 unfold Wo.view Wd.view
 rw [R.rt,List.map_map]
 have:W.roots.map (valO ∘ encV φ)=W.roots.map (reV φ):=List.map_congr_left fun v hv=>valO_encV (R.hw.rv v hv)
 rw [this]
 exact viewM_iso R.iso (fun u hu h3=>Wd.okV_ref (R.hw.rv u hu) h3)
def Wd.idx (W:Wd) (old:Bool):List Int:=((List.range W.T.length).map (Int.ofNat ·)).filter fun i=>!(W.th i).dead && ((W.th i).old == old)
theorem Wd.mem_idx {W:Wd} {b:Bool} {i:Int}:i ∈ W.idx b↔W.live i∧(W.th i).old=b:=by
 unfold Wd.idx Wd.live
 simp only [List.mem_filter,List.mem_map,List.mem_range,Bool.and_eq_true,Bool.not_eq_true',beq_iff_eq]
 constructor
 ·rintro ⟨⟨n,hn,rfl⟩,h1,h2⟩
  exact ⟨⟨Int.natCast_nonneg n,Int.ofNat_lt.2 hn,h1⟩,h2⟩
 ·rintro ⟨⟨h0,h1,h2⟩,h3⟩
  have h4:i.toNat<W.T.length:=by omega
  have h5:((i.toNat:Nat):Int)=i:=by omega
  exact ⟨⟨i.toNat,h4,h5⟩,h2,h3⟩
theorem nodup_range_int (n:Nat):((List.range n).map (Int.ofNat ·)).Nodup:=by
 rw [List.Nodup,List.pairwise_map]
 refine List.Pairwise.imp ?_ (List.nodup_range (n:=n))
 intro a b h e
 exact h (Int.ofNat.inj e)
theorem Wd.idx_nodup (W:Wd) (b:Bool):(W.idx b).Nodup:=(nodup_range_int _).filter _
theorem sum_perm {l m:List Int} (h:l.Perm m):l.sum=m.sum:=by
 induction h with
 | nil=>rfl
 | cons x _ ih=>simp [ih]
 | swap x y l=>simp;omega
 | trans _ _ ih1 ih2=>exact ih1.trans ih2
theorem sum_nonneg {l:List Int} (h:∀ x ∈ l,0≤x):0≤l.sum:=by
 induction l with
 | nil=>simp
 | cons a l ih=>simp only [List.sum_cons];have:=h a (by simp);have:=ih (fun x hx=>h x (by simp [hx]));omega
theorem sum_sub {f:Int→Int} (h0:∀ i,0≤f i):∀ {l m:List Int},l.Nodup→(∀ i ∈ l,i ∈ m)→(l.map f).sum≤(m.map f).sum
 | [],m,_,_=>by simpa using sum_nonneg (l:=m.map f) (fun x hx=>by obtain ⟨i,_,rfl⟩:=List.mem_map.1 hx;exact h0 i)
 | a :: l,m,hn,hs=>by
  have ha:=hs a (by simp)
  have hp:m.Perm (a :: m.erase a):=List.perm_cons_erase ha
  rw [sum_perm (hp.map f)]
  simp only [List.map_cons,List.sum_cons]
  rw [List.nodup_cons] at hn
  have:=sum_sub h0 (l:=l) (m:=m.erase a) hn.2 (fun i hi=>(List.mem_erase_of_ne (fun e=>hn.1 (by rw [←e];exact hi))).2 (hs i (by simp [hi])))
  omega
theorem sum_filter {p:Int→Bool} {f:Int→Int}:∀ (l:List Int),((l.filter p).map f).sum=(l.map fun i=>if p i then f i else 0).sum
 | []=>rfl
 | a :: l=>by
  simp only [List.filter_cons,List.map_cons,List.sum_cons]
  cases h:p a
  ·simp [sum_filter l]
  ·simp [sum_filter l]
theorem sumW_range (W:Wd) (p:Th→Bool):sumW W.T p=(((List.range W.T.length).map (Int.ofNat ·)).map fun i=>if p (W.th i) then (W.th i).words else 0).sum:=by
 unfold sumW
 congr 1
 apply List.ext_getElem
 ·simp
 ·intro k h1 h2
  simp only [List.length_map] at h1
  simp only [List.getElem_map,List.getElem_range]
  have e:W.th (Int.ofNat k)=W.T[k]:=by
   unfold Wd.th
   rw [List.getD_eq_getElem?_getD,show (Int.ofNat k).toNat=k from rfl,List.getElem?_eq_getElem h1];rfl
  rw [e]
theorem Wd.sum_idx (W:Wd) (b:Bool):((W.idx b).map fun i=>(W.th i).words).sum=sumW W.T fun t=>!t.dead && (t.old == b):=by
 rw [sumW_range]
 unfold Wd.idx
 rw [sum_filter]
theorem map_nodup {φ:Int→Int} {l:List Int} (h:l.Nodup) (inj:∀ i ∈ l, ∀ j ∈ l,φ i=φ j→i=j):(l.map φ).Nodup:=by
 rw [List.Nodup,List.pairwise_map]
 refine List.Pairwise.imp_of_mem ?_ h
 intro a b ha hb hne e
 exact hne (inj a ha b hb e)
theorem Rep.perm_y (R:Rep O W φ):O.ar.things.1.Perm ((W.idx false).map φ):=by
 rw [List.perm_ext_iff_of_nodup R.ty.nodup (map_nodup (W.idx_nodup _) (fun i hi j hj e=>R.inj i j (Wd.mem_idx.1 hi).1 (Wd.mem_idx.1 hj).1 e))]
 intro p
 constructor
 ·intro hp
  obtain ⟨i,hi,rfl⟩:=R.onto p (.inl hp)
  have:=R.ty.in_young hp (j:=0) (by omega) (R.ho.ha |> fun _=>(O.ar.thing_fields (φ i)).1)
  rw [Int.add_zero] at this
  exact List.mem_map.2 ⟨i,Wd.mem_idx.2 ⟨hi,(R.young_iff hi).1 this⟩,rfl⟩
 ·intro hp
  obtain ⟨i,hi,rfl⟩:=List.mem_map.1 hp
  exact R.iny i (Wd.mem_idx.1 hi).1 (Wd.mem_idx.1 hi).2
theorem Rep.perm_o (R:Rep O W φ):O.ar.things.2.Perm ((W.idx true).map φ):=by
 rw [List.perm_ext_iff_of_nodup R.tz.nodup (map_nodup (W.idx_nodup _) (fun i hi j hj e=>R.inj i j (Wd.mem_idx.1 hi).1 (Wd.mem_idx.1 hj).1 e))]
 intro p
 constructor
 ·intro hp
  obtain ⟨i,hi,rfl⟩:=R.onto p (.inr hp)
  have:=R.tz.in_old hp (j:=0) (by omega) (O.ar.thing_fields (φ i)).1
  rw [Int.add_zero] at this
  exact List.mem_map.2 ⟨i,Wd.mem_idx.2 ⟨hi,(R.old_iff hi).1 this⟩,rfl⟩
 ·intro hp
  obtain ⟨i,hi,rfl⟩:=List.mem_map.1 hp
  exact R.ino i (Wd.mem_idx.1 hi).1 (Wd.mem_idx.1 hi).2
theorem Rep.sy (R:Rep O W φ):(O.ar.yng:Int)=W.young:=by
 have h1:=R.ty.sum
 rw [sum_perm (R.perm_y.map _),List.map_map] at h1
 have e:(W.idx false).map ((fun p=>1+(O.ar.thing p).2.1) ∘ φ)=(W.idx false).map fun i=>(W.th i).words:=
  List.map_congr_left fun i hi=>by simp only [Function.comp];rw [R.th i (Wd.mem_idx.1 hi).1];rfl
 rw [e,Wd.sum_idx] at h1
 unfold Wd.young
 rw [h1]
 have:(fun t:Th=>!t.dead && (t.old == false))=fun t:Th=>!t.dead && !t.old:=by funext t;cases t.old <;> rfl
 rw [this];omega
theorem Rep.so (R:Rep O W φ):(O.ar.grn:Int)-O.ar.nur=W.olds:=by
 have h1:=R.tz.sum
 rw [sum_perm (R.perm_o.map _),List.map_map] at h1
 have e:(W.idx true).map ((fun p=>1+(O.ar.thing p).2.1) ∘ φ)=(W.idx true).map fun i=>(W.th i).words:=
  List.map_congr_left fun i hi=>by simp only [Function.comp];rw [R.th i (Wd.mem_idx.1 hi).1];rfl
 rw [e,Wd.sum_idx] at h1
 unfold Wd.olds
 rw [h1]
 have:(fun t:Th=>!t.dead && (t.old == true))=fun t:Th=>!t.dead && t.old:=by funext t;cases t.old <;> rfl
 rw [this];omega
end
end
section
section
variable {O:Wo} {W:Wd} {φ ψ:Int→Int}
theorem Tile.things {A:Ar} (h:A.ok) {Y Z:List Int} (hy:Tile A Y 0 A.yng) (hz:Tile A Z A.nur A.grn):A.things=(Y,Z):=by
 have:=h.h1;have:=h.h2;have:=h.h3;have:=h.h4
 unfold Ar.things
 rw [hy.list (by omega),hz.list (by omega)]
theorem encV_congr {v:Vl} (h:v.1=3→ψ v.2=φ v.2):encV ψ v=encV φ v:=by
 unfold encV
 by_cases h3:v.1=3
 ·rw [if_pos h3,if_pos h3,h h3]
 ·rw [if_neg h3,if_neg h3]
theorem encV_R64 (R:Rep O W φ) {v:Vl} (hv:W.okV v):R64 (encV φ v):=by
 unfold R64
 rcases hv with h | h | h | h
 ·have e:encV φ v=2:=by simp [encV,h.1]
  rw [e];decide
 ·have e:encV φ v=4*v.2:=by simp [encV,h.1]
  have:=h.2
  unfold big at this
  rw [e];omega
 ·have e:encV φ v=3:=by simp [encV,h.1]
  rw [e];decide
 ·rw [encV_ref φ h.1]
  have:=R.place h.2
  omega
theorem Rep.new {n o:Int} (h:Ar.fits n o=true):Rep (Wo.new n o) (Wd.new n o) id:=by
 have h':=h
 simp [Ar.fits] at h'
 have no:∀ i,¬ (Wd.new n o).live i:=fun i hi=>by have:=hi.2.1;have:=hi.1;simp [Wd.new] at *;omega
 have hok:(Wo.new n o).ok:=by
  refine ⟨Ar.new_ok h,by simp [Wo.new],fun x hx=>?_,fun e he=>by simp [Wo.new] at he,fun e he=>by simp [Wo.new] at he,by simp [Wo.new],?_⟩
  ·simp [Wo.new] at hx;subst hx;unfold R64;omega
  ·simp [Wo.new,cardsN];omega
 have t1:Tile (Wo.new n o).ar [] 0 (Wo.new n o).ar.yng:=by simp [Wo.new,Ar.new,Tile]
 have t2:Tile (Wo.new n o).ar [] (Wo.new n o).ar.nur (Wo.new n o).ar.grn:=by simp [Wo.new,Ar.new,Tile]
 have ht:=Tile.things hok.ha t1 t2
 refine ⟨hok,Wd.new_ok (by omega) (by omega) (by omega) (by omega),by rw [ht];exact t1,by rw [ht];exact t2,fun i j hi=>(no i hi).elim,fun p hp=>?_,fun i hi=>(no i hi).elim,fun i hi=>(no i hi).elim,fun i hi=>(no i hi).elim,fun i hi=>(no i hi).elim,?_,rfl,rfl,?_,?_,?_,fun i hi=>(no i hi).elim⟩
 ·rw [ht] at hp;simp at hp
 ·simp [Wo.new,Wd.new,encV]
 ·simp [Wo.new,Ar.new,Wd.new];omega
 ·simp [Wo.new,Ar.new,Wd.new];omega
 ·simp [Wo.new,Wd.new]
theorem Rep.setR (R:Rep O W φ) {v:Vl} (hv:W.okV v) (r:Int):Rep { O with rt:=O.rt.set r.toNat (encV φ v) } (W.setR r v) φ:=by
 refine ⟨⟨R.ho.ha,by simpa using R.ho.h12,fun x hx=>?_,R.ho.hg,R.ho.hw,R.ho.hq,R.ho.hc⟩,R.hw.setR hv r,R.ty,R.tz,R.inj,R.onto,R.iny,R.ino,R.th,R.fl,?_,R.rg,R.wt,R.nur,R.len,R.cl,R.card⟩
 ·rcases List.mem_or_eq_of_mem_set hx with h1 | rfl
  ·exact R.ho.hR x h1
  ·exact encV_R64 R hv
 ·show O.rt.set r.toNat (encV φ v)=(W.roots.set r.toNat v).map (encV φ)
  rw [R.rt,List.map_set]
def extF (n y:Int) (φ:Int→Int) (i:Int):Int:=if i=n then y else φ i
theorem thing_of_load {A B:Ar} {p:Int} (h:B.load p=A.load p):B.thing p=A.thing p:=by unfold Ar.thing;rw [h]
theorem Rep.put (R:Rep O W φ) {A':Ar} {k r:Int} {l:List Vl} (hA:A'.ok) (h1:A'.nur=O.ar.nur) (h2:A'.grn=O.ar.grn) (h3:A'.ws.length=O.ar.ws.length) (h4:(A'.yng:Int)=O.ar.yng+(1+l.length))
  (hq:∀ q,O.ar.inUse q=true→A'.load q=O.ar.load q) (ht:A'.thing O.ar.yng=(k,(l.length:Int),0)) (hl:∀ (j:Nat) (v:Vl),l[j]? = some v→A'.load (O.ar.yng+1+j)=encV φ v)
  (hok:∀ v ∈ l,W.okV v) (hf:fitsW k l.length=true) :
  Rep { O with ar:=A',rt:=O.rt.set r.toNat (4*O.ar.yng+1) } (W.put r k l) (extF W.T.length O.ar.yng φ):=by
 have hroom:1+(l.length:Int)≤W.most-W.young:=by
  have:=hA.h1;have:=R.sy;have:=R.nur;omega
 have old:∀ {i},W.live i→¬ i=(W.T.length:Int):=fun hi e=>by have:=hi.2.1;omega
 have fe:∀ {i},W.live i→(extF W.T.length O.ar.yng φ) i=φ i:=fun hi=>if_neg (old hi)
 have fn:(extF W.T.length O.ar.yng φ) (W.T.length:Int)=O.ar.yng:=if_pos rfl
 have ee:∀ {v},W.okV v→encV (extF W.T.length O.ar.yng φ) v=encV φ v:=fun hv=>encV_congr (fun h3=>fe (Wd.okV_ref hv h3))
 have thp:∀ p,O.ar.inUse p=true→A'.thing p=O.ar.thing p:=fun p hp=>thing_of_load (hq p hp)
 have tho:∀ {i},W.live i→(W.put r k l).th i=W.th i:=fun hi=>Wd.th_put hi.1 hi.2.1
 have useY:∀ p ∈ O.ar.things.1,O.ar.inUse p=true:=fun p hp=>by
  have:=R.ty.in_young hp (j:=0) (by omega) (O.ar.thing_fields p).1
  rw [Int.add_zero] at this;unfold Ar.inUse;rw [this];rfl
 have useO:∀ p ∈ O.ar.things.2,O.ar.inUse p=true:=fun p hp=>by
  have:=R.tz.in_old hp (j:=0) (by omega) (O.ar.thing_fields p).1
  rw [Int.add_zero] at this;unfold Ar.inUse;rw [this];simp
 have t1:Tile A' (O.ar.things.1 ++ [(O.ar.yng:Int)]) 0 A'.yng:=by
  refine Tile.app (Tile.congr (fun p hp=>thp p (useY p hp)) R.ty) ⟨rfl,by rw [ht],?_⟩
  rw [ht]
  show (O.ar.yng:Int)+1+l.length=A'.yng
  omega
 have t2:Tile A' O.ar.things.2 A'.nur A'.grn:=by rw [h1,h2];exact Tile.congr (fun p hp=>thp p (useO p hp)) R.tz
 have hth:=Tile.things hA t1 t2
 have nl:(W.put r k l).live W.T.length:=by
  refine ⟨by omega,by simp [Wd.put];omega,?_⟩
  rw [Wd.th_put_new]
 have lt:∀ {i},W.live i→φ i≠O.ar.yng:=fun {i} hi e=>by
  have:=R.use hi (j:=0) (by omega) (by omega)
  rw [Int.add_zero] at this
  unfold Ar.inUse at this
  have h1':=R.ho.ha.h1;have h5:=hA.h1;rw [h1] at h5
  rw [Bool.or_eq_true,Go.Proofs.Ytjifdalflepcoac.young_iff,Go.Proofs.Ytjifdalflepcoac.old_iff] at this
  omega
 refine ⟨⟨hA,by simpa using R.ho.h12,fun x hx=>?_,R.ho.hg,R.ho.hw,R.ho.hq,R.ho.hc⟩,R.hw.put hf hok hroom,by rw [hth];exact t1,by rw [hth];exact t2,fun i j hi hj e=>?_,fun p hp=>?_,fun i hi ho=>?_,fun i hi ho=>?_,fun i hi=>?_,fun i hi j v hv=>?_,?_,?_,?_,?_,?_,R.cl,fun i hi ho v hv h3' hy=>?_⟩
 ·rcases List.mem_or_eq_of_mem_set hx with h5 | rfl
  ·exact R.ho.hR x h5
  ·have:=R.ho.ha.h1;have:=R.ho.ha.h2;have:=R.ho.ha.h3;have:=R.ho.ha.h4
   unfold R64;omega
 ·rcases Wd.put_live hi with hi | rfl <;> rcases Wd.put_live hj with hj | rfl
  ·rw [fe hi,fe hj] at e;exact R.inj i j hi hj e
  ·rw [fe hi,fn] at e;exact (lt hi e).elim
  ·rw [fe hj,fn] at e;exact (lt hj e.symm).elim
  ·rfl
 ·rw [hth] at hp
  dsimp only at hp
  rw [List.mem_append,List.mem_singleton] at hp
  rcases hp with (h5 | rfl) | h5
  ·obtain ⟨i,hi,rfl⟩:=R.onto p (.inl h5);exact ⟨i,Wd.live_put hi,fe hi⟩
  ·exact ⟨_,nl,fn⟩
  ·obtain ⟨i,hi,rfl⟩:=R.onto p (.inr h5);exact ⟨i,Wd.live_put hi,fe hi⟩
 ·rw [hth]
  rcases Wd.put_live hi with hi | rfl
  ·rw [tho hi] at ho;rw [fe hi];exact List.mem_append_left _ (R.iny i hi ho)
  ·rw [fn];simp
 ·rw [hth]
  rcases Wd.put_live hi with hi | rfl
  ·rw [tho hi] at ho;rw [fe hi];exact R.ino i hi ho
  ·rw [Wd.th_put_new] at ho;cases ho
 ·rcases Wd.put_live hi with hi | rfl
  ·have:=R.use hi (j:=0) (by omega) (by omega)
   rw [Int.add_zero] at this
   rw [fe hi,tho hi];exact (thp _ this).trans (R.th i hi)
  ·rw [fn,Wd.th_put_new];exact ht
 ·rcases Wd.put_live hi with hi | rfl
  ·rw [tho hi] at hv
   have hj:j<(W.th i).fs.length:=(List.getElem?_eq_some_iff.1 hv).1
   have:=R.use hi (j:=1+j) (by omega) (by omega)
   rw [←Int.add_assoc] at this
   rw [fe hi,ee (R.hw.tv i hi v (List.mem_of_getElem? hv))]
   exact (hq _ this).trans (R.fl i hi j v hv)
  ·rw [Wd.th_put_new] at hv
   rw [fn,ee (hok v (List.mem_of_getElem? hv))]
   exact hl j v hv
 ·show O.rt.set r.toNat (4*O.ar.yng+1)=(W.roots.set r.toNat (refV W.T.length)).map _
  rw [List.map_set,R.rt]
  congr 1
  ·exact List.map_congr_left fun v hv=>(ee (R.hw.rv v hv)).symm
  ·show _=encV _ (3,(W.T.length:Int))
   rw [encV_ref _ rfl];dsimp only;rw [fn]
 ·show O.rg=W.regs.map _
  rw [R.rg]
  exact List.map_congr_left fun e he=>by have:=R.hw.gv e he;unfold encE;rw [fe this.1,fe this.2.2]
 ·show O.wt=W.wait.map _
  rw [R.wt]
  exact List.map_congr_left fun e he=>by have:=R.hw.wv e he;unfold encE;rw [fe this.1,fe this.2.2]
 ·show (A'.nur:Int)=W.most;rw [h1];exact R.nur
 ·show (A'.ws.length:Int)=W.most+W.grow;rw [h3];exact R.len
 ·show dirtyL A'.nur O.cd _=true
  rcases Wd.put_live hi with hi | rfl
  ·rw [tho hi] at ho hv
   have hl3:=Wd.okV_ref (R.hw.tv i hi v hv) h3'
   rw [tho hl3] at hy
   rw [fe hi,h1]
   exact R.card i hi ho v hv h3' hy
  ·rw [Wd.th_put_new] at ho;cases ho
theorem lay_head {l m:List Int} {i:Nat} {x:Int} (h:i+(x :: m).length≤l.length):(lay l i (x :: m)).getD i 0=x:=by
 rw [lay_getD h,if_pos ⟨Nat.le_refl _,by simp⟩];simp
theorem Ar.make_loads {A:Ar} (hA:A.ok) {k f:Int} (h:fitsW k f=true∧1+f≤(A.nur:Int)-A.yng) :
  (∀ q,A.inUse q=true→(A.make k f).2.load q=A.load q)∧(A.make k f).2.load A.yng=16*f+k∧(∀ j:Int,0≤j→j<f→(A.make k f).2.load (A.yng+1+j)=2)∧((A.make k f).2.yng:Int)=A.yng+(1+f) ∧
  (A.make k f).2.nur=A.nur∧(A.make k f).2.grn=A.grn∧(A.make k f).2.ws.length=A.ws.length:=by
 have hf:=fitsW_spec h.1
 have hl:=thingW_length (k:=k) hf.2.2.1
 have a1:=hA.h1;have a2:=hA.h2;have a3:=hA.h3
 have hle:A.yng+(thingW k f).length≤A.ws.length:=by rw [hl];omega
 rw [Ar.make_yes h]
 have hload:∀ q:Int,0≤q→q<A.yng+(1+f)→Ar.load { A with yng:=A.yng+(1+f).toNat,ws:=lay A.ws A.yng (thingW k f) } q=(lay A.ws A.yng (thingW k f)).getD q.toNat 0:=by
  intro q h0 h1
  unfold Ar.load
  rw [if_pos]
  unfold Ar.inUse
  rw [Bool.or_eq_true]
  left
  rw [young_iff]
  refine ⟨h0,?_⟩
  show q<((A.yng+(1+f).toNat:Nat):Int)
  omega
 refine ⟨fun q hq=>?_,?_,fun j h0 h1=>?_,?_,rfl,rfl,?_⟩
 ·have hu:Ar.inUse { A with yng:=A.yng+(1+f).toNat,ws:=lay A.ws A.yng (thingW k f) } q=true:=by
   unfold Ar.inUse at *
   rw [Bool.or_eq_true] at *
   rw [young_iff,old_iff] at *
   dsimp only
   omega
  unfold Ar.load
  rw [hu,hq]
  simp only [if_true]
  rw [lay_getD hle,if_neg]
  rw [hl]
  unfold Ar.inUse at hq
  rw [Bool.or_eq_true,young_iff,old_iff] at hq
  omega
 ·rw [hload _ (by omega) (by omega)]
  unfold thingW at *
  rw [Int.toNat_natCast]
  exact lay_head hle
 ·rw [hload _ (by omega) (by omega),lay_getD hle,if_pos (by rw [hl];omega)]
  unfold thingW
  rw [show ((A.yng:Int)+1+j).toNat-A.yng=j.toNat+1 by omega,List.getD_cons_succ]
  simp only [List.getD_eq_getElem?_getD]
  rw [List.getElem?_replicate,if_pos (by omega)];rfl
 ·dsimp only;omega
 ·dsimp only;exact lay_length hle
theorem partsW_of {k f:Int} (h:fitsW k f=true):partsW (16*f+k)=(k,f,0):=by
 have hf:=fitsW_spec h
 unfold partsW
 rw [show (16*f+k)%16=k by omega,show (16*f+k)/16=f by omega,if_pos h]
theorem dirtyL_iff {base:Int} {l:List Bool} {p:Int}:dirtyL base l p=true↔base≤p∧(p-base)/8<l.length∧l.getD ((p-base)/8).toNat false=true:=by
 unfold dirtyL
 rw [Bool.and_eq_true,decide_eq_true_eq]
 unfold cardOf
 by_cases c:base≤p∧(p-base)/8<l.length
 ·rw [if_pos c]
  constructor
  ·rintro ⟨_,h⟩;exact ⟨c.1,c.2,h⟩
  ·rintro ⟨_,_,h⟩;exact ⟨by omega,h⟩
 ·rw [if_neg c]
  constructor
  ·rintro ⟨h,_⟩;omega
  ·rintro ⟨h1,h2,_⟩;exact absurd ⟨h1,h2⟩ c
theorem dirtyL_mark {base:Int} {l:List Bool} {p:Int} (q:Int) (h:dirtyL base l p=true):dirtyL base (markL base l q) p=true:=by
 rw [dirtyL_iff] at *
 rw [markL_length]
 refine ⟨h.1,h.2.1,?_⟩
 unfold markL
 split
 ·rw [List.getD_eq_getElem?_getD,List.getElem?_set]
  split
  ·split
   ·rfl
   ·rename_i h1 h2;omega
  ·rw [←List.getD_eq_getElem?_getD];exact h.2.2
 ·exact h.2.2
theorem dirtyL_self {base:Int} {l:List Bool} {p:Int} (h1:base≤p) (h2:(p-base)/8<l.length):dirtyL base (markL base l p) p=true:=by
 have hc:cardOf base l.length p=(p-base)/8:=by unfold cardOf;rw [if_pos ⟨h1,h2⟩]
 rw [dirtyL_iff,markL_length]
 refine ⟨h1,h2,?_⟩
 unfold markL
 rw [hc,if_pos (by omega),List.getD_eq_getElem?_getD,List.getElem?_set,if_pos rfl,if_pos (by omega)];rfl
theorem Rep.thingAt (R:Rep O W φ) {v:Vl} (hv:W.okV v):O.ar.thingAt (encV φ v)=if v.1=3 then (φ v.2,(W.th v.2).k,((W.th v.2).fs.length:Int),0) else (0,0,0,2):=by
 unfold Ar.thingAt
 by_cases h3:v.1=3
 ·rw [if_pos h3]
  have e:=encV_ref φ h3
  have e4:encV φ v/4=φ v.2:=by rw [e];omega
  rw [e4,R.th _ (Wd.okV_ref hv h3),if_pos ⟨(encV_mod hv).2 h3,rfl⟩]
 ·rw [if_neg h3,if_neg (fun h=>h3 ((encV_mod hv).1 h.1))]
theorem Rep.get (R:Rep O W φ) {v:Vl} (hv:W.okV v) (i:Int):O.ar.get (encV φ v) i =
  if v.1≠3∨(W.th v.2).k=5 then (0,2) else if i<0∨((W.th v.2).fs.length:Int)≤i then (0,1) else (encV φ ((W.th v.2).fs.getD i.toNat (0,0)),0):=by
 unfold Ar.get
 rw [R.thingAt hv]
 by_cases h3:v.1=3
 ·rw [if_pos h3]
  dsimp only
  by_cases hk:(W.th v.2).k=5
  ·rw [if_pos (.inr hk),if_pos (.inr hk)]
  ·have c0:¬ ((0:Int)≠0∨(W.th v.2).k=5):=fun h=>by rcases h with h | h;exact h rfl;exact hk h
   have c1:¬ (v.1≠3∨(W.th v.2).k=5):=fun h=>by rcases h with h | h;exact h h3;exact hk h
   rw [if_neg c0,if_neg c1]
   by_cases hi:i<0∨((W.th v.2).fs.length:Int)≤i
   ·rw [if_pos hi,if_pos hi]
   ·rw [if_neg hi,if_neg hi]
    have hlt:i.toNat<(W.th v.2).fs.length:=by omega
    have:=R.fl v.2 (Wd.okV_ref hv h3) i.toNat _ (List.getElem?_eq_getElem hlt)
    rw [show ((i.toNat:Nat):Int)=i by omega] at this
    have e4:encV φ v/4=φ v.2:=by rw [encV_ref φ h3];omega
    rw [e4,this,List.getD_eq_getElem?_getD,List.getElem?_eq_getElem hlt];rfl
 ·rw [if_neg h3,if_pos (.inl (by decide)),if_pos (.inl h3)]
theorem Rep.setF (R:Rep O W φ) {a i:Int} {u:Vl} (ha:W.live a) (h0:0≤i) (h1:i<(W.th a).fs.length) (hu:W.okV u) {cd:List Bool}
  (hc1:cd.length=O.cd.length) (hc2:∀ p,dirtyL O.ar.nur O.cd p=true→dirtyL O.ar.nur cd p=true) (hc3:u.1=3→(W.th u.2).old=false→(W.th a).old=true→dirtyL O.ar.nur cd (φ a)=true) :
  Rep { O with ar:=O.ar.store (φ a+1+i) (encV φ u),cd:=cd } (W.setF a ((W.th a).fs.set i.toNat u)) φ:=by
 have hlv:=fun j=>Wd.setF_live (fs:=(W.th a).fs.set i.toNat u) ha j
 have hth:∀ {j},W.live j→(W.setF a ((W.th a).fs.set i.toNat u)).th j=if j=a then { W.th a with fs:=(W.th a).fs.set i.toNat u } else W.th j:=fun hj=>Wd.th_setF hj.1 ha
 have hold:∀ {j},W.live j→((W.setF a ((W.th a).fs.set i.toNat u)).th j).old=(W.th j).old:=fun hj=>by
  rw [hth hj];split
  ·rename_i e;subst e;rfl
  ·rfl
 have huse:O.ar.inUse (φ a+1+i)=true:=by rw [Int.add_assoc];exact R.use ha (by omega) (by omega)
 have hload:=fun q=>Ar.load_store R.ho.ha (φ a+1+i) q (encV φ u)
 have hst:∀ j,W.live j→(O.ar.store (φ a+1+i) (encV φ u)).thing (φ j)=O.ar.thing (φ j):=fun j hj=>by
  refine thing_of_load ?_
  rw [hload,if_neg]
  rintro ⟨e,_⟩
  by_cases ej:j=a
  ·subst ej;omega
  ·have:=R.apart hj ha ej
   omega
 have hok:(O.ar.store (φ a+1+i) (encV φ u)).ok:=R.ho.ha.store _ _ (encV_R64 R hu)
 have tp:∀ p,p ∈ O.ar.things.1∨p ∈ O.ar.things.2→(O.ar.store (φ a+1+i) (encV φ u)).thing p=O.ar.thing p:=fun p hp=>by
  obtain ⟨j,hj,rfl⟩:=R.onto p hp
  exact hst j hj
 have t1:Tile (O.ar.store (φ a+1+i) (encV φ u)) O.ar.things.1 0 (O.ar.store (φ a+1+i) (encV φ u)).yng:=by
  rw [Ar.store_yng];exact Tile.congr (fun p hp=>tp p (.inl hp)) R.ty
 have t2:Tile (O.ar.store (φ a+1+i) (encV φ u)) O.ar.things.2 (O.ar.store (φ a+1+i) (encV φ u)).nur (O.ar.store (φ a+1+i) (encV φ u)).grn:=by
  rw [Ar.store_nur,Ar.store_grn];exact Tile.congr (fun p hp=>tp p (.inr hp)) R.tz
 have hthi:=Tile.things hok t1 t2
 refine ⟨⟨hok,R.ho.h12,R.ho.hR,R.ho.hg,R.ho.hw,R.ho.hq,by show cd.length≤1000;rw [hc1];exact R.ho.hc⟩,R.hw.setF ha (by simp) (fun v hv=>?_),by rw [hthi];exact t1,by rw [hthi];exact t2,
  fun j k hj hk e=>R.inj j k ((hlv j).1 hj) ((hlv k).1 hk) e,fun p hp=>?_,fun j hj ho=>?_,fun j hj ho=>?_,fun j hj=>?_,fun j hj n v hv=>?_,R.rt,R.rg,R.wt,?_,?_,by show cd.length=_;rw [hc1];exact R.cl,fun j hj ho v hv h3 hy=>?_⟩
 ·rcases List.mem_or_eq_of_mem_set hv with h5 | rfl
  ·exact R.hw.tv a ha v h5
  ·exact hu
 ·rw [hthi] at hp
  obtain ⟨j,hj,e⟩:=R.onto p hp
  exact ⟨j,(hlv j).2 hj,e⟩
 ·rw [hthi]
  have hj':=(hlv j).1 hj
  rw [hold hj'] at ho
  exact R.iny j hj' ho
 ·rw [hthi]
  have hj':=(hlv j).1 hj
  rw [hold hj'] at ho
  exact R.ino j hj' ho
 ·have hj':=(hlv j).1 hj
  show (O.ar.store _ _).thing (φ j)=_
  rw [hst j hj',R.th j hj',hth hj']
  split
  ·rename_i e;subst e;simp
  ·rfl
 ·have hj':=(hlv j).1 hj
  rw [hth hj'] at hv
  show (O.ar.store _ _).load _=_
  rw [hload]
  by_cases e:j=a
  ·subst e
   rw [if_pos rfl] at hv
   dsimp only at hv
   rw [List.getElem?_set] at hv
   by_cases en:i.toNat=n
   ·rw [if_pos en] at hv
    subst en
    rw [if_pos (by omega)] at hv
    cases hv
    rw [if_pos ⟨by omega,huse⟩]
   ·rw [if_neg en] at hv
    rw [if_neg (fun h=>by omega)]
    exact R.fl j hj' n v hv
  ·rw [if_neg e] at hv
   have hn:n<(W.th j).fs.length:=(List.getElem?_eq_some_iff.1 hv).1
   have:=R.apart hj' ha e
   rw [if_neg (fun h=>by omega)]
   exact R.fl j hj' n v hv
 ·show ((O.ar.store _ _).nur:Int)=W.most;rw [Ar.store_nur];exact R.nur
 ·show ((O.ar.store _ _).ws.length:Int)=W.most+W.grow;rw [Ar.store_len];exact R.len
 ·show dirtyL (O.ar.store _ _).nur cd (φ j)=true
  rw [Ar.store_nur]
  have hj':=(hlv j).1 hj
  rw [hold hj'] at ho
  have inF:∀ w ∈ (W.th j).fs,w=v→dirtyL O.ar.nur cd (φ j)=true:=fun w hw e=>by
   subst e
   have hl3:=Wd.okV_ref (R.hw.tv j hj' w hw) h3
   rw [hold hl3] at hy
   exact hc2 _ (R.card j hj' ho w hw h3 hy)
  rw [hth hj'] at hv
  by_cases e:j=a
  ·subst e
   rw [if_pos rfl] at hv
   rcases List.mem_or_eq_of_mem_set hv with h5 | rfl
   ·exact inF v h5 rfl
   ·rw [hold (Wd.okV_ref hu h3)] at hy
    exact hc3 h3 hy ho
  ·rw [if_neg e] at hv
   exact inF v hv rfl
theorem Rep.set (R:Rep O W φ) {v u:Vl} (hv:W.okV v) (hu:W.okV u) (i:Int) :
  (O.set (encV φ v) i (encV φ u)).1=(if v.1≠3∨(W.th v.2).k=5 then 2 else if i<0∨((W.th v.2).fs.length:Int)≤i then 1 else 0) ∧
  ((O.set (encV φ v) i (encV φ u)).1≠0→(O.set (encV φ v) i (encV φ u)).2=O) ∧
  ((O.set (encV φ v) i (encV φ u)).1=0→Rep (O.set (encV φ v) i (encV φ u)).2 (W.setF v.2 ((W.th v.2).fs.set i.toNat u)) φ):=by
 have hg:=R.get hv i
 by_cases hc:(O.ar.get (encV φ v) i).2=0
 ·rw [Wo.set_yes' hc]
  rw [hg] at hc
  by_cases c1:v.1≠3∨(W.th v.2).k=5
  ·rw [if_pos c1] at hc;cases hc
  ·rw [if_neg c1] at hc ⊢
   by_cases c2:i<0∨((W.th v.2).fs.length:Int)≤i
   ·rw [if_pos c2] at hc;cases hc
   ·rw [if_neg c2]
    refine ⟨rfl,fun h=>(h rfl).elim,fun _=>?_⟩
    have h3:v.1=3:=Decidable.byContradiction fun h=>c1 (.inl h)
    have ha:=Wd.okV_ref hv h3
    have e4:encV φ v/4=φ v.2:=by rw [encV_ref φ h3];omega
    dsimp only
    rw [e4]
    have hst:∀ p q x,(O.ar.store q x).young p=O.ar.young p∧(O.ar.store q x).old p=O.ar.old p:=fun p q x=>by
     unfold Ar.young Ar.old;rw [Ar.store_yng,Ar.store_nur,Ar.store_grn];exact ⟨rfl,rfl⟩
    refine R.setF ha (by omega) (by omega) hu ?_ (fun p hp=>?_) (fun hu3 huo hao=>?_)
    ·split
     ·exact markL_length _ _ _
     ·rfl
    ·split
     ·exact dirtyL_mark _ hp
     ·exact hp
    ·have hul:=Wd.okV_ref hu hu3
     have e5:encV φ u/4=φ u.2:=by rw [encV_ref φ hu3];omega
     rw [if_pos ⟨(encV_mod hu).2 hu3,by rw [(hst _ _ _).1,e5];exact (R.young_iff hul).2 huo,by rw [(hst _ _ _).2];exact (R.old_iff ha).2 hao⟩]
     have hp:=(R.old_iff ha).2 hao
     rw [Go.Proofs.Ytjifdalflepcoac.old_iff] at hp
     have hl:=R.len;have hn:=R.nur;have hcl:=R.cl;have h3':=R.ho.ha.h3;have hg1:=R.hw.g1
     refine dirtyL_self hp.1 ?_
     rw [hcl]
     unfold cardsN
     omega
 ·rw [Wo.set_no' hc]
  rw [hg] at hc ⊢
  by_cases c1:v.1≠3∨(W.th v.2).k=5
  ·rw [if_pos c1,if_pos c1];exact ⟨rfl,fun _=>rfl,fun h=>by cases h⟩
  ·rw [if_neg c1] at hc ⊢
   rw [if_neg c1]
   by_cases c2:i<0∨((W.th v.2).fs.length:Int)≤i
   ·rw [if_pos c2,if_pos c2];exact ⟨rfl,fun _=>rfl,fun h=>by cases h⟩
   ·rw [if_neg c2] at hc;exact (hc rfl).elim
theorem Rep.reg (R:Rep O W φ) {e:Int × Int} (he:W.okE e) (hr:W.regs.length+W.wait.length<24):Rep { O with rg:=O.rg ++ [encE φ e] } { W with regs:=W.regs ++ [e] } φ:=by
 have hle:=R.place he.1;have hle2:=R.place he.2.2
 refine ⟨⟨R.ho.ha,R.ho.h12,R.ho.hR,fun x hx=>?_,R.ho.hw,?_,R.ho.hc⟩,?_,R.ty,R.tz,R.inj,R.onto,R.iny,R.ino,R.th,R.fl,R.rt,?_,R.wt,R.nur,R.len,R.cl,R.card⟩
 ·rcases List.mem_append.1 hx with h1 | h1
  ·exact R.ho.hg x h1
  ·rw [List.mem_singleton.1 h1]
   unfold encE R64e R64
   dsimp only
   omega
 ·have h1:O.rg.length=W.regs.length:=by rw [R.rg];simp
  have h2:O.wt.length=W.wait.length:=by rw [R.wt];simp
  simp;omega
 ·have h:=R.hw
  refine ⟨h.hr,h.rv,h.tk,h.tv,fun x hx=>?_,h.wv,by simp;omega,h.m1,h.m2,h.g1,h.g2,h.uy,h.uo⟩
  rcases List.mem_append.1 hx with h1 | h1
  ·exact h.gv x h1
  ·rw [List.mem_singleton.1 h1];exact he
 ·show O.rg ++ [encE φ e]=(W.regs ++ [e]).map (encE φ)
  rw [R.rg];simp
end
end
section
def refW (x:Int):Int:=IntKind.i64.wrap (4*x+1)
def mAlive (A:Ar) (x:Int):Bool:=!(decide (x%4=1) && A.young (x/4)) || decide (A.load (x/4)<0)
def mNow (A:Ar) (x:Int):Int:=if x%4=1∧A.young (x/4)=true∧A.load (x/4)<0 then refW (-1-A.load (x/4)) else x
def mBring (A:Ar) (x:Int):Ar:=if mAlive A x=true then A else (A.copy (x/4)).2.store (x/4) (-1-(A.copy (x/4)).1)
def mField (A:Ar) (i:Int):Ar:=(mBring A (A.load i)).store i (mNow (mBring A (A.load i)) (A.load i))
def mFields:Nat→Ar→Int→Ar
 | 0,A,_=>A
 | n+1,A,i=>mFields n (mField A i) (i+1)
structure Ms where
 A:Ar
 wk:List Int
 ep:List Int
def mLook (s:Ms) (i:Int):Ms:=
 if (s.A.thing i).1=1∨(s.A.thing i).1=2 then { s with A:=mFields (s.A.thing i).2.1.toNat s.A (i+1) }
 else if (s.A.thing i).1=3 then ⟨mField s.A (i+2),s.wk ++ [i],s.ep⟩
 else if (s.A.thing i).1=4 then { s with ep:=s.ep ++ [i] }
 else s
def mScan:Nat→Ms→Int→Ms × Int
 | 0,s,c=>(s,c)
 | n+1,s,c=>if c<s.A.grn then mScan n (mLook s c) (c+(1+(s.A.thing c).2.1)) else (s,c)
def mEph1 (A:Ar) (i:Int):Ar:=if mAlive A (A.load (i+1))=true then mField (mField A (i+1)) (i+2) else A
def mEph (A:Ar) (l:List Int):Ar:=l.foldl mEph1 A
def mKp (A:Ar) (x:Int):Ar × Int:=(mBring A x,mNow (mBring A x) x)
structure Md where
 s:Ms
 c:Int
 q:List (Int × Int)
def mRound (d:Md):Md:=
 let r:=mScan 2000 d.s d.c
 let w:=wakeM mAlive mKp (mEph r.1.A r.1.ep) d.q
 ⟨{ r.1 with A:=w.1 },r.2,w.2.1⟩
def mDrain:Nat→Md→Md
 | 0,d=>d
 | n+1,d=>if (mRound d).c<(mRound d).s.A.grn then mDrain n (mRound d) else mRound d
abbrev Mt:=Ms × Int
def mtAlive (t:Mt) (x:Int):Bool:=mAlive t.1.A x
def mtNow (t:Mt) (x:Int):Int:=mNow t.1.A x
def mtKeep (t:Mt) (q:List (Int × Int)) (x:Int):Mt × List (Int × Int) × Int:=
 let d:=mDrain 2000 ⟨{ t.1 with A:=mBring t.1.A x },t.2,q⟩
 ((d.s,d.c),d.q,mNow (mBring t.1.A x) x)
def mFix (A:Ar) (i:Int) (dead:Bool):Ar:=A.store i (if dead then 3 else mNow A (A.load i))
def mGoneW (A:Ar) (l:List Int):Ar:=l.foldl (fun A i=>mFix A (i+1) (!mAlive A (A.load (i+1)))) A
def mGoneE1 (A:Ar) (i:Int):Ar:=mFix (mFix A (i+1) (!mAlive A (A.load (i+1)))) (i+2) (!mAlive A (A.load (i+1)))
def mGone (s:Ms):Ar:=s.ep.foldl mGoneE1 (mGoneW s.A s.wk)
def mRoots (A:Ar):List Int→Ar × List Int
 | []=>(A,[])
 | x :: l=>((mRoots (mBring A x) l).1,mNow (mBring A x) x :: (mRoots (mBring A x) l).2)
def mDirty (base:Int) (cd:List Bool) (s:Ms) (l:List Int):Ms:=l.foldl (fun s i=>if dirtyL base cd i=true then mLook s i else s) s
def mPre (O:Wo):Md:=
 mDrain 2000 ⟨mDirty O.ar.nur O.cd ⟨(mRoots O.ar O.rt).1,[],[]⟩ O.ar.things.2,O.ar.grn,O.wt⟩
def mPass (O:Wo):Mt × List (Int × Int) × List It:=passM mtAlive mtKeep ((mPre O).s,(mPre O).c) O.rg (mPre O).q
def mCut (O:Wo):Int × Wo:=
 if (O.ar.yng:Int) > (O.ar.ws.length:Int)-O.ar.grn then (3,O)
 else (0,⟨(mGone (mPass O).1.1).clear,O.cd.map fun _=>false,(mRoots O.ar O.rt).2,
  newRegs mtAlive mtNow (mPass O).1 (mPass O).2.2,newWait mtAlive mtNow (mPass O).1 (mPass O).2.1⟩)
structure Sm (A B:Ar):Prop where
 ok:B.ok
 nur:B.nur=A.nur
 yng:B.yng=A.yng
 len:B.ws.length=A.ws.length
 grn:A.grn≤B.grn
theorem Sm.refl {A:Ar} (h:A.ok):Sm A A:=⟨h,rfl,rfl,rfl,Nat.le_refl _⟩
theorem Sm.trans {A B C:Ar} (h:Sm A B) (k:Sm B C):Sm A C:=⟨k.ok,k.nur.trans h.nur,k.yng.trans h.yng,k.len.trans h.len,Nat.le_trans h.grn k.grn⟩
theorem Sm.store {A:Ar} (h:A.ok) (i:Int) {x:Int} (hx:R64 x):Sm A (A.store i x):=⟨h.store i x hx,A.store_nur i x,A.store_yng i x,A.store_len i x,by rw [A.store_grn];exact Nat.le_refl _⟩
theorem Sm.copy {A:Ar} (h:A.ok) (i:Int):Sm A (A.copy i).2:=by
 refine ⟨h.copy i,?_,?_,?_,?_⟩
 all_goals unfold Ar.copy;dsimp only;split
 all_goals first | rfl | exact Nat.le_add_right _ _ | exact Nat.le_refl _ | skip
 rename_i hc
 have hf:=A.thing_fields i
 have hs:=Ar.whole_spec h hf.1 hc.2.1
 have:=h.h1;have:=h.h2;have:=h.h3
 exact lay_length (by simp;omega)
theorem Ar.copy_range {A:Ar} (h:A.ok) (i:Int):-1≤(A.copy i).1∧(A.copy i).1≤1280:=by
 have:=h.h3;have:=h.h4
 unfold Ar.copy
 dsimp only
 split
 ·dsimp only;omega
 ·dsimp only;omega
theorem R64_wrap (x:Int):R64 (IntKind.i64.wrap x):=by
 unfold R64
 rw [IntKind.wrap_i64]
 omega
theorem Sm.bring {A:Ar} (h:A.ok) (x:Int):Sm A (mBring A x):=by
 unfold mBring
 split
 ·exact Sm.refl h
 ·have:=Ar.copy_range h (x/4)
  exact (Sm.copy h _).trans (Sm.store (h.copy _) _ (by unfold R64;omega))
theorem mNow_R64 {A:Ar} {x:Int} (hx:R64 x):R64 (mNow A x):=by
 unfold mNow
 split
 ·exact R64_wrap _
 ·exact hx
theorem Sm.field {A:Ar} (h:A.ok) (i:Int):Sm A (mField A i):=
 (Sm.bring h _).trans (Sm.store (Sm.bring h _).ok _ (mNow_R64 (h.load i)))
theorem Sm.fields {A:Ar} (h:A.ok):∀ (n:Nat) (i:Int),Sm A (mFields n A i):=by
 intro n
 induction n generalizing A with
 | zero=>intro i;exact Sm.refl h
 | succ n ih=>intro i;exact (Sm.field h i).trans (ih (Sm.field h i).ok (i+1))
theorem Sm.look {s:Ms} (h:s.A.ok) (i:Int):Sm s.A (mLook s i).A:=by
 unfold mLook
 split
 ·exact Sm.fields h _ _
 ·split
  ·exact Sm.field h _
  ·split <;> exact Sm.refl h
theorem Sm.scan:∀ (n:Nat) (s:Ms) (c:Int),s.A.ok→Sm s.A (mScan n s c).1.A
 | 0,s,c,h=>Sm.refl h
 | n+1,s,c,h=>by
  unfold mScan
  split
  ·exact (Sm.look h c).trans (Sm.scan n _ _ (Sm.look h c).ok)
  ·exact Sm.refl h
theorem Sm.eph1 {A:Ar} (h:A.ok) (i:Int):Sm A (mEph1 A i):=by
 unfold mEph1
 split
 ·exact (Sm.field h _).trans (Sm.field (Sm.field h _).ok _)
 ·exact Sm.refl h
theorem Sm.eph:∀ (l:List Int) {A:Ar} (h:A.ok),Sm A (mEph A l)
 | [],A,h=>Sm.refl h
 | i :: l,A,h=>(Sm.eph1 h i).trans (Sm.eph l (Sm.eph1 h i).ok)
theorem Sm.wake:∀ (l:List (Int × Int)) {A:Ar} (h:A.ok),Sm A (wakeM mAlive mKp A l).1
 | [],A,h=>Sm.refl h
 | e :: l,A,h=>by
  unfold wakeM
  split
  ·exact (Sm.bring h e.2).trans (Sm.wake l (Sm.bring h e.2).ok)
  ·exact Sm.wake l h
theorem Sm.round (d:Md) (h:d.s.A.ok):Sm d.s.A (mRound d).s.A:=by
 have h1:=Sm.scan 2000 d.s d.c h
 have h2:=Sm.eph (mScan 2000 d.s d.c).1.ep h1.ok
 exact (h1.trans h2).trans (Sm.wake d.q h2.ok)
theorem Sm.fix {A:Ar} (h:A.ok) (i:Int) (b:Bool):Sm A (mFix A i b):=by
 refine Sm.store h i ?_
 split
 ·unfold R64;omega
 ·exact mNow_R64 (h.load i)
theorem wakeM_len {τ:Type} (alive:τ→Int→Bool) (kp:τ→Int→τ × Int):∀ (l:List (Int × Int)) (t:τ),(wakeM alive kp t l).2.1.length=l.length
 | [],_=>rfl
 | e :: l,t=>by
  unfold wakeM
  split
  ·simp [wakeM_len alive kp l]
  ·simp [wakeM_len alive kp l]
theorem mDrain_len:∀ (n:Nat) (d:Md),(mDrain n d).q.length=d.q.length
 | 0,d=>rfl
 | n+1,d=>by
  have h:(mRound d).q.length=d.q.length:=wakeM_len _ _ _ _
  unfold mDrain
  split
  ·rw [mDrain_len n,h]
  ·exact h
end
section
def Wrd (φ ψ:Int→Int) (S:Int→Prop) (x:Int) (v:Vl):Prop:=x=encV φ v∨((v.1=3→S v.2)∧x=encV ψ v)
structure Cu (O:Wo) (W:Wd) (φ:Int→Int) (A:Ar) (S:Int→Prop) (ψ:Int→Int) (N:List Int):Prop where
 sm:Sm O.ar A
 sl:∀ i,S i→W.live i
 so:∀ i,W.live i→(W.th i).old=true→S i
 po:∀ i,W.live i→(W.th i).old=true→ψ i=φ i
 nd:N.Nodup
 nm:∀ i,i ∈ N↔S i∧(W.th i).old=false
 tile:Tile A (N.map ψ) O.ar.grn A.grn
 th:∀ i,S i→A.thing (ψ i)=((W.th i).k,((W.th i).fs.length:Int),0)
 yet:∀ i,W.live i→(W.th i).old=false→¬ S i→∀ j:Int,0≤j→j≤(W.th i).fs.length→A.load (φ i+j)=O.ar.load (φ i+j)
 fwd:∀ i ∈ N,A.load (φ i)=-1-ψ i
 fd:∀ i,S i→∀ (j:Nat) (v:Vl),(W.th i).fs[j]? = some v→Wrd φ ψ S (A.load (ψ i+1+j)) v
section
variable {O:Wo} {W:Wd} {φ ψ ψ':Int→Int} {A A':Ar} {S S':Int→Prop} {N N':List Int}
def Up (W:Wd) (A:Ar) (S:Int→Prop) (ψ:Int→Int) (i:Int) (j:Nat) (v:Vl):Prop:=(v.1=3→S v.2)∧A.load (ψ i+1+j)=encV ψ v
structure Ext (W:Wd) (A:Ar) (S:Int→Prop) (ψ:Int→Int) (N:List Int) (A':Ar) (S':Int→Prop) (ψ':Int→Int) (N':List Int):Prop where
 sub:∀ i,S i→S' i
 at_:∀ i,S i→ψ' i=ψ i
 pre:∃ m,N'=N ++ m
 up:∀ i,S i→∀ (j:Nat) (v:Vl),(W.th i).fs[j]? = some v→Up W A S ψ i j v→Up W A' S' ψ' i j v
 grn:A.grn≤A'.grn
theorem Ext.refl:Ext W A S ψ N A S ψ N:=⟨fun _ h=>h,fun _ _=>rfl,⟨[],by simp⟩,fun _ _ _ _ _ h=>h,Nat.le_refl _⟩
theorem Ext.trans {A2:Ar} {S2:Int→Prop} {ψ2:Int→Int} {N2:List Int} (h:Ext W A S ψ N A' S' ψ' N') (k:Ext W A' S' ψ' N' A2 S2 ψ2 N2):Ext W A S ψ N A2 S2 ψ2 N2:=by
 obtain ⟨m,e⟩:=h.pre;obtain ⟨m',e'⟩:=k.pre
 exact ⟨fun i hi=>k.sub i (h.sub i hi),fun i hi=>(k.at_ i (h.sub i hi)).trans (h.at_ i hi),⟨m ++ m',by rw [e',e];simp⟩,fun i hi j v hv hu=>k.up i (h.sub i hi) j v hv (h.up i hi j v hv hu),Nat.le_trans h.grn k.grn⟩
theorem Ext.wrd (h:Ext W A S ψ N A' S' ψ' N') {x:Int} {v:Vl} (hw:Wrd φ ψ S x v):Wrd φ ψ' S' x v:=by
 rcases hw with h1 | ⟨h1,h2⟩
 ·exact .inl h1
 ·exact .inr ⟨fun h3=>h.sub _ (h1 h3),by rw [h2];exact (encV_congr (fun h3=>h.at_ _ (h1 h3))).symm⟩
theorem inj_of_nodup {f:Int→Int}:∀ {l:List Int},(l.map f).Nodup→∀ {a b:Int},a ∈ l→b ∈ l→f a=f b→a=b
 | x :: l,h,a,b,ha,hb,e=>by
  simp only [List.map_cons,List.nodup_cons] at h
  rcases List.mem_cons.1 ha with ea | ha'
  ·rcases List.mem_cons.1 hb with eb | hb'
   ·rw [ea,eb]
   ·rw [ea] at e;exact (h.1 (List.mem_map.2 ⟨b,hb',e.symm⟩)).elim
  ·rcases List.mem_cons.1 hb with eb | hb'
   ·rw [eb] at e;exact (h.1 (List.mem_map.2 ⟨a,ha',e⟩)).elim
   ·exact inj_of_nodup h.2 ha' hb' e
theorem Cu.old_of (C:Cu O W φ A S ψ N) {i:Int} (hi:S i) (hn:¬ i ∈ N):(W.th i).old=true:=by
 cases h:(W.th i).old
 ·exact (hn ((C.nm i).2 ⟨hi,h⟩)).elim
 ·rfl
theorem Cu.place (R:Rep O W φ) (C:Cu O W φ A S ψ N) {i:Int} (hi:S i) :
  (A.nur:Int)≤ψ i∧ψ i+1+(W.th i).fs.length≤A.grn∧(i ∈ N→(O.ar.grn:Int)≤ψ i)∧(¬ i ∈ N→ψ i+1+(W.th i).fs.length≤O.ar.grn):=by
 have hg:=C.sm.grn
 have hn:=C.sm.nur
 have h2:=R.ho.ha.h2
 by_cases h:i ∈ N
 ·have:=C.tile.mem (ψ i) (List.mem_map.2 ⟨i,h,rfl⟩)
  rw [C.th i hi] at this
  dsimp only at this
  exact ⟨by omega,by omega,fun _=>by omega,fun h'=>(h' h).elim⟩
 ·have ho:=C.old_of hi h
  have hl:=C.sl i hi
  have:=R.tz.mem _ (R.ino i hl ho)
  rw [R.th i hl] at this
  dsimp only at this
  rw [C.po i hl ho]
  exact ⟨by omega,by omega,fun h'=>(h h').elim,fun _=>by omega⟩
theorem Cu.inO (R:Rep O W φ) (C:Cu O W φ A S ψ N) {i:Int} (hi:S i) {j:Int} (h0:0≤j) (h1:j≤(W.th i).fs.length):A.old (ψ i+j)=true:=by
 have:=C.place R hi
 rw [old_iff];omega
theorem Cu.inU (R:Rep O W φ) (C:Cu O W φ A S ψ N) {i:Int} (hi:S i) {j:Int} (h0:0≤j) (h1:j≤(W.th i).fs.length):A.inUse (ψ i+j)=true:=by
 unfold Ar.inUse;rw [C.inO R hi h0 h1];simp
theorem Cu.apart (R:Rep O W φ) (C:Cu O W φ A S ψ N) {i j:Int} (hi:S i) (hj:S j) (h:i≠j):ψ i+1+(W.th i).fs.length≤ψ j∨ψ j+1+(W.th j).fs.length≤ψ i:=by
 have pi:=C.place R hi;have pj:=C.place R hj
 have ti:=C.th i hi;have tj:=C.th j hj
 by_cases ni:i ∈ N <;> by_cases nj:j ∈ N
 ·have:=pairwise_two (f:=fun p=>(A.thing p).2.1) C.tile.apart (List.mem_map.2 ⟨i,ni,rfl⟩) (List.mem_map.2 ⟨j,nj,rfl⟩)
  rw [ti,tj] at this
  dsimp only at this
  rcases this with e | e | e
  ·exact (h (inj_of_nodup C.tile.nodup ni nj e)).elim
  ·exact .inl e
  ·exact .inr e
 ·have:=pi.2.2.1 ni;have:=pj.2.2.2 nj;omega
 ·have:=pi.2.2.2 ni;have:=pj.2.2.1 nj;omega
 ·have oi:=C.old_of hi ni;have oj:=C.old_of hj nj
  have li:=C.sl i hi;have lj:=C.sl j hj
  rw [C.po i li oi,C.po j lj oj]
  exact R.apart li lj h
theorem Cu.inj (R:Rep O W φ) (C:Cu O W φ A S ψ N) {i j:Int} (hi:S i) (hj:S j) (e:ψ i=ψ j):i=j:=by
 by_cases h:i=j
 ·exact h
 ·have:=C.apart R hi hj h;omega
theorem thing_of_load' {A B:Ar} {p q:Int} (h:B.load p=A.load q):B.thing p=A.thing q:=by unfold Ar.thing;rw [h]
theorem thing_pos {A:Ar} {p:Int} (h:(A.thing p).2.2=0):0<A.load p:=by
 unfold Ar.thing partsW at h
 split at h
 ·rename_i hf
  have:=fitsW_spec hf
  omega
 ·simp at h
theorem Cu.fresh_load (R:Rep O W φ) (C:Cu O W φ A S ψ N) {i:Int} (hl:W.live i) (ho:(W.th i).old=false) (hs:¬ S i):A.load (φ i)=O.ar.load (φ i)∧0<A.load (φ i):=by
 have:=C.yet i hl ho hs 0 (by omega) (by omega)
 rw [Int.add_zero] at this
 have h2:=R.th i hl
 exact ⟨this,by rw [this];exact thing_pos (by rw [h2])⟩
theorem Cu.young_phi (R:Rep O W φ) (C:Cu O W φ A S ψ N) {i:Int} (hl:W.live i):A.young (φ i)=true↔(W.th i).old=false:=by
 have:A.young (φ i)=O.ar.young (φ i):=by unfold Ar.young;rw [C.sm.yng]
 rw [this];exact R.young_iff hl
theorem Cu.young_psi (R:Rep O W φ) (C:Cu O W φ A S ψ N) {i:Int} (hi:S i):A.young (ψ i)=false:=by
 have:=C.place R hi
 have h1:=C.sm.ok.h1
 cases h:A.young (ψ i)
 ·rfl
 ·rw [young_iff] at h;omega
theorem mAlive_plain {A:Ar} {x:Int} (h:¬ x%4=1):mAlive A x=true:=by unfold mAlive;simp [h]
theorem mNow_plain {A:Ar} {x:Int} (h:¬ x%4=1):mNow A x=x:=if_neg (fun h'=>h h'.1)
theorem Cu.alive (R:Rep O W φ) (C:Cu O W φ A S ψ N) {x:Int} {v:Vl} (hv:W.okV v) (hx:Wrd φ ψ S x v):mAlive A x=true↔(v.1=3→S v.2):=by
 by_cases h3:v.1=3
 ·have hl:=Wd.okV_ref hv h3
  rcases hx with rfl | ⟨hs,rfl⟩
  ·have e:=encV_ref φ h3
   have e4:encV φ v/4=φ v.2:=by rw [e];omega
   have e1:encV φ v%4=1:=by rw [e];omega
   unfold mAlive
   rw [e4]
   cases ho:(W.th v.2).old
   ·rw [(C.young_phi R hl).2 ho]
    by_cases hs:S v.2
    ·have:=C.fwd v.2 ((C.nm _).2 ⟨hs,ho⟩)
     have hp:=C.place R hs
     have h0:(0:Int)≤A.nur:=by omega
     simp [e1,this,hs];omega
    ·have:=(C.fresh_load R hl ho hs).2
     simp [e1,h3,hs];omega
   ·have:A.young (φ v.2)=false:=by
     cases h:A.young (φ v.2)
     ·rfl
     ·rw [C.young_phi R hl,ho] at h;cases h
    rw [this]
    simp [C.so _ hl ho]
  ·have e:=encV_ref ψ h3
   have e4:encV ψ v/4=ψ v.2:=by rw [e];omega
   unfold mAlive
   rw [e4,C.young_psi R (hs h3)]
   simp [hs h3]
 ·have e:x=encV φ v:=by
   rcases hx with h | ⟨_,h⟩
   ·exact h
   ·rw [h];exact encV_plain h3
  subst e
  rw [mAlive_plain (fun h=>h3 ((encV_mod hv).1 h))]
  simp [h3]
theorem Cu.now (R:Rep O W φ) (C:Cu O W φ A S ψ N) {x:Int} {v:Vl} (hv:W.okV v) (hx:Wrd φ ψ S x v) (hs:v.1=3→S v.2):mNow A x=encV ψ v:=by
 by_cases h3:v.1=3
 ·have hl:=Wd.okV_ref hv h3
  have hS:=hs h3
  have hp:=C.place R hS
  have hok:=C.sm.ok
  have b1:=hok.h3;have b2:=hok.h4
  have e':=encV_ref ψ h3
  rcases hx with rfl | ⟨_,rfl⟩
  ·have e:=encV_ref φ h3
   have e4:encV φ v/4=φ v.2:=by rw [e];omega
   have e1:encV φ v%4=1:=by rw [e];omega
   unfold mNow
   rw [e4]
   cases ho:(W.th v.2).old
   ·have hf:=C.fwd v.2 ((C.nm _).2 ⟨hS,ho⟩)
    rw [if_pos ⟨e1,(C.young_phi R hl).2 ho,by rw [hf];omega⟩,hf,e']
    unfold refW
    rw [show 4*(-1-(-1-ψ v.2))+1=4*ψ v.2+1 by omega,IntKind.wrap_i64]
    omega
   ·have:¬ A.young (φ v.2)=true:=by rw [C.young_phi R hl,ho];decide
    rw [if_neg (fun h=>this h.2.1),e,e',C.po _ hl ho]
  ·have e4:encV ψ v/4=ψ v.2:=by rw [e'];omega
   unfold mNow
   rw [e4,C.young_psi R hS,if_neg (fun h=>by cases h.2.1)]
 ·have e:x=encV φ v:=by
   rcases hx with h | ⟨_,h⟩
   ·exact h
   ·rw [h];exact encV_plain h3
  subst e
  rw [mNow_plain (fun h=>h3 ((encV_mod hv).1 h))]
  exact encV_plain h3
theorem Cu.room (R:Rep O W φ) (C:Cu O W φ A S ψ N) (hr:(O.ar.yng:Int)≤(O.ar.ws.length:Int)-O.ar.grn) {i:Int} (hl:W.live i) (ho:(W.th i).old=false) (hs:¬ S i) :
  1+((W.th i).fs.length:Int)≤(A.ws.length:Int)-A.grn:=by
 have hn:¬ i ∈ N:=fun h=>hs ((C.nm i).1 h).1
 have h1:=C.tile.sum
 rw [List.map_map] at h1
 have e:N.map ((fun p=>1+(A.thing p).2.1) ∘ ψ)=N.map fun i=>(W.th i).words:=
  List.map_congr_left fun j hj=>by simp only [Function.comp];rw [C.th j ((C.nm j).1 hj).1];rfl
 rw [e] at h1
 have h2:=sum_sub (f:=fun i=>(W.th i).words) (fun i=>by unfold Th.words;omega) (l:=i :: N) (m:=W.idx false) (List.nodup_cons.2 ⟨hn,C.nd⟩) (by
  intro j hj
  rcases List.mem_cons.1 hj with rfl | hj
  ·exact Wd.mem_idx.2 ⟨hl,ho⟩
  ·have:=(C.nm j).1 hj;exact Wd.mem_idx.2 ⟨C.sl j this.1,this.2⟩)
 rw [Wd.sum_idx] at h2
 have h3:(sumW W.T fun t=>!t.dead && (t.old == false))=W.young:=by
  unfold Wd.young
  congr 1
  funext t;cases t.old <;> rfl
 rw [h3,←R.sy] at h2
 simp only [List.map_cons,List.sum_cons] at h2
 have h4:=C.sm.len
 have h5:(W.th i).words=1+((W.th i).fs.length:Int):=rfl
 omega
theorem Ar.copy_loads {A:Ar} (hA:A.ok) {p:Int} (h:(A.thing p).2.2=0∧A.whole p (A.thing p).2.1=true∧1+(A.thing p).2.1≤(A.ws.length:Int)-A.grn) :
  (A.copy p).1=A.grn∧(∀ q,A.inUse q=true→(A.copy p).2.load q=A.load q)∧(∀ j:Int,0≤j→j≤(A.thing p).2.1→(A.copy p).2.load (A.grn+j)=A.load (p+j))∧((A.copy p).2.grn:Int)=A.grn+(1+(A.thing p).2.1):=by
 have hf:=A.thing_fields p
 have hs:=Ar.whole_spec hA hf.1 h.2.1
 have a1:=hA.h1;have a2:=hA.h2;have a3:=hA.h3
 have hl:((A.ws.drop p.toNat).take (1+(A.thing p).2.1).toNat).length=(1+(A.thing p).2.1).toNat:=by simp;omega
 have hle:A.grn+((A.ws.drop p.toNat).take (1+(A.thing p).2.1).toNat).length≤A.ws.length:=by rw [hl];omega
 rw [Ar.copy_yes h]
 refine ⟨rfl,fun q hq=>?_,fun j h0 h1=>?_,by dsimp only;omega⟩
 ·have hu:Ar.inUse { A with grn:=A.grn+(1+(A.thing p).2.1).toNat,ws:=lay A.ws A.grn ((A.ws.drop p.toNat).take (1+(A.thing p).2.1).toNat) } q=true:=by
   unfold Ar.inUse at *
   rw [Bool.or_eq_true] at *
   rw [young_iff,old_iff] at *
   dsimp only
   omega
  unfold Ar.load
  rw [hu,hq]
  simp only [if_true]
  rw [lay_getD hle,if_neg]
  rw [hl]
  unfold Ar.inUse at hq
  rw [Bool.or_eq_true,young_iff,old_iff] at hq
  omega
 ·have hu:Ar.inUse { A with grn:=A.grn+(1+(A.thing p).2.1).toNat,ws:=lay A.ws A.grn ((A.ws.drop p.toNat).take (1+(A.thing p).2.1).toNat) } (A.grn+j)=true:=by
   unfold Ar.inUse
   rw [Bool.or_eq_true,old_iff]
   right
   dsimp only
   omega
  have hup:A.inUse (p+j)=true:=by
   unfold Ar.whole at h
   unfold Ar.inUse
   have h2:=h.2.1
   simp only [Bool.or_eq_true,Bool.and_eq_true,young_iff,old_iff] at h2 ⊢
   omega
  unfold Ar.load
  rw [hu,hup]
  simp only [if_true]
  rw [lay_getD hle,if_pos (by rw [hl];omega)]
  simp only [List.getD_eq_getElem?_getD]
  rw [List.getElem?_take,if_pos (by omega),List.getElem?_drop]
  congr 2;omega
end
end
section
section
variable {O:Wo} {W:Wd} {φ ψ ψ':Int→Int} {A A':Ar} {S S':Int→Prop} {N N':List Int}
def CuTo (O:Wo) (W:Wd) (φ:Int→Int) (A:Ar) (S:Int→Prop) (ψ:Int→Int) (N:List Int) (A':Ar) (Al:Int→Prop) (T:(Int→Prop)→(Int→Int)→List Int→Prop):Prop:=
 ∃ S' ψ' N',Cu O W φ A' S' ψ' N'∧Ext W A S ψ N A' S' ψ' N'∧(∀ k,S' k→S k∨Al k)∧T S' ψ' N'
theorem Cu.bring (R:Rep O W φ) (C:Cu O W φ A S ψ N) (hr:(O.ar.yng:Int)≤(O.ar.ws.length:Int)-O.ar.grn) {x:Int} {v:Vl} (hv:W.okV v) (hx:Wrd φ ψ S x v) :
  CuTo O W φ A S ψ N (mBring A x) (fun k=>v.1=3∧k=v.2) fun S' ψ' N'=>mNow (mBring A x) x=encV ψ' v∧(v.1=3→S' v.2)∧∀ q,A.old q=true→(mBring A x).load q=A.load q:=by
 by_cases ha:mAlive A x=true
 ·have e:mBring A x=A:=by unfold mBring;rw [if_pos ha]
  have hs:=(C.alive R hv hx).1 ha
  rw [e]
  exact ⟨S,ψ,N,C,Ext.refl,fun k hk=>.inl hk,C.now R hv hx hs,hs,fun _ _=>rfl⟩
 ·have hns:¬ (v.1=3→S v.2):=fun h=>ha ((C.alive R hv hx).2 h)
  have h3:v.1=3:=Decidable.byContradiction fun h=>hns (fun h'=>(h h').elim)
  have hs:¬ S v.2:=fun h=>hns (fun _=>h)
  obtain ⟨i,hi⟩:∃ i,v.2=i:=⟨_,rfl⟩
  have hl:=Wd.okV_ref hv h3
  rw [hi] at hs hl
  have ho:(W.th i).old=false:=by
   cases h:(W.th i).old
   ·rfl
   ·exact (hs (C.so i hl h)).elim
  have hxe:x=encV φ v:=by
   rcases hx with h | ⟨h,_⟩
   ·exact h
   ·exact (hns h).elim
  have e4:x/4=φ i:=by rw [hxe,encV_ref φ h3,hi];omega
  have hA:=C.sm.ok
  have hfl:=C.fresh_load R hl ho hs
  have hth:A.thing (φ i)=((W.th i).k,((W.th i).fs.length:Int),0):=(thing_of_load hfl.1).trans (R.th i hl)
  have hyA:∀ j:Int,0≤j→j≤(W.th i).fs.length→A.young (φ i+j)=true:=fun j h0 h1=>by
   have:=R.young hl ho h0 h1
   unfold Ar.young at *;rw [C.sm.yng];exact this
  have hy0:A.young (φ i)=true:=by have:=hyA 0 (by omega) (by omega);rwa [Int.add_zero] at this
  have hcond:(A.thing (φ i)).2.2=0∧A.whole (φ i) (A.thing (φ i)).2.1=true∧1+(A.thing (φ i)).2.1≤(A.ws.length:Int)-A.grn:=by
   rw [hth]
   refine ⟨rfl,?_,C.room R hr hl ho hs⟩
   unfold Ar.whole
   rw [hy0,hyA _ (by omega) (Int.le_refl _)];rfl
  obtain ⟨c1,c2,c3,c4⟩:=Ar.copy_loads hA hcond
  rw [hth] at c3 c4
  dsimp only at c3 c4
  have hB:(A.copy (φ i)).2.ok:=hA.copy _
  obtain ⟨B,hBe⟩:∃ B,(A.copy (φ i)).2=B:=⟨_,rfl⟩
  have e:mBring A x=B.store (φ i) (-1-A.grn):=by
   unfold mBring;rw [if_neg ha,e4,c1,hBe]
  rw [hBe] at c2 c3 c4 hB
  have hsB:Sm A B:=by rw [←hBe];exact Sm.copy hA _
  have hsm:Sm O.ar (mBring A x):=C.sm.trans (Sm.bring hA x)
  have hp:=R.place hl
  have y0:=young_iff.1 hy0
  have a1:=hA.h1;have a2:=hA.h2
  have useB:B.inUse (φ i)=true:=by unfold Ar.inUse;rw [Bool.or_eq_true,young_iff,hsB.yng];exact .inl y0
  have hload:=fun q=>Ar.load_store hB (φ i) q (-1-(A.grn:Int))
  have hlo:∀ q,q≠φ i→(B.store (φ i) (-1-(A.grn:Int))).load q=B.load q:=fun q hq=>by rw [hload,if_neg (fun h=>hq h.1)]
  have hlq:∀ q,A.inUse q=true→q≠φ i→(B.store (φ i) (-1-(A.grn:Int))).load q=A.load q:=fun q hq h=>(hlo q h).trans (c2 q hq)
  have hold:∀ q,A.old q=true→(B.store (φ i) (-1-(A.grn:Int))).load q=A.load q:=fun q hq=>by
   refine hlq q (by unfold Ar.inUse;rw [hq];simp) ?_
   have:=old_iff.1 hq
   omega
  have hnew:∀ j:Int,0≤j→j≤(W.th i).fs.length→(B.store (φ i) (-1-(A.grn:Int))).load (A.grn+j)=O.ar.load (φ i+j):=fun j h0 h1=>by
   rw [hlo _ (by omega),c3 j h0 h1,C.yet i hl ho hs j h0 h1]
  rw [e]
  rw [e] at hsm
  have hni:¬ i ∈ N:=fun h=>hs ((C.nm i).1 h).1
  have fe:∀ k,k≠i→extF i A.grn ψ k=ψ k:=fun k hk=>if_neg hk
  have fi:extF i A.grn ψ i=A.grn:=if_pos rfl
  have fS:∀ k,S k→extF i A.grn ψ k=ψ k:=fun k hk=>fe k (fun h=>hs (h ▸ hk))
  have hgr:((B.store (φ i) (-1-(A.grn:Int))).grn:Int)=A.grn+(1+(W.th i).fs.length):=by rw [Ar.store_grn];exact c4
  have hti:(B.store (φ i) (-1-(A.grn:Int))).thing A.grn=((W.th i).k,((W.th i).fs.length:Int),0):=by
   have:=hnew 0 (by omega) (by omega)
   rw [Int.add_zero,Int.add_zero] at this
   exact (thing_of_load' this).trans (R.th i hl)
  have hts:∀ k,S k→(B.store (φ i) (-1-(A.grn:Int))).thing (ψ k)=A.thing (ψ k):=fun k hk=>by
   refine thing_of_load (hold _ ?_)
   have:=C.inO R hk (j:=0) (by omega) (by omega)
   rwa [Int.add_zero] at this
  have wr:∀ {y:Int} {u:Vl},Wrd φ ψ S y u→Wrd φ (extF i A.grn ψ) (fun k=>S k∨k=i) y u:=fun hw=>by
   rcases hw with h1 | ⟨h1,h2⟩
   ·exact .inl h1
   ·exact .inr ⟨fun h=>.inl (h1 h),by rw [h2];exact (encV_congr (fun h=>fS _ (h1 h))).symm⟩
  refine ⟨fun k=>S k∨k=i,extF i A.grn ψ,N ++ [i],⟨hsm,fun k hk=>?_,fun k hk h=>.inl (C.so k hk h),fun k hk h=>?_,?_,fun k=>?_,?_,fun k hk=>?_,fun k hk hko hks j h0 h1=>?_,fun k hk=>?_,fun k hk j u hu=>?_⟩,
   ⟨fun k hk=>.inl hk,fS,⟨[i],rfl⟩,fun k hk j u hu hup=>?_,by have:=hsB.grn;rw [Ar.store_grn];exact this⟩,fun k hk=>?_,?_,fun _=>.inr hi,hold⟩
  ·rcases hk with hk | rfl
   ·exact C.sl k hk
   ·exact hl
  ·rw [fe k (fun e=>by rw [e,ho] at h;cases h)];exact C.po k hk h
  ·rw [List.nodup_append]
   exact ⟨C.nd,by simp,fun a ha b hb e=>hni (by rw [←List.mem_singleton.1 hb,←e];exact ha)⟩
  ·rw [List.mem_append,List.mem_singleton,C.nm]
   constructor
   ·rintro (⟨h1,h2⟩ | rfl)
    ·exact ⟨.inl h1,h2⟩
    ·exact ⟨.inr rfl,ho⟩
   ·rintro ⟨h1 | rfl,h2⟩
    ·exact .inl ⟨h1,h2⟩
    ·exact .inr rfl
  ·rw [List.map_append]
   have e1:N.map (extF i A.grn ψ)=N.map ψ:=List.map_congr_left fun k hk=>fS k ((C.nm k).1 hk).1
   rw [e1]
   refine Tile.app (Tile.congr (fun p hp'=>?_) C.tile) ⟨by rw [fi],by rw [fi,hti],?_⟩
   ·obtain ⟨k,hk,rfl⟩:=List.mem_map.1 hp'
    exact hts k ((C.nm k).1 hk).1
   ·rw [fi,hti]
    show (A.grn:Int)+1+(W.th i).fs.length=_
    rw [hgr];omega
  ·rcases hk with hk | rfl
   ·rw [fS k hk];exact (hts k hk).trans (C.th k hk)
   ·rw [fi];exact hti
  ·have hki:k≠i:=fun e=>hks (.inr e)
   have hkS:¬ S k:=fun h=>hks (.inl h)
   have hyk:=R.young hk hko h0 h1
   refine (hlq _ ?_ ?_).trans (C.yet k hk hko hkS j h0 h1)
   ·unfold Ar.inUse Ar.young at *;rw [C.sm.yng,hyk];rfl
   ·have:=R.apart hk hl hki
    have:=R.apart hl hk (Ne.symm hki)
    omega
  ·rcases List.mem_append.1 hk with hk | hk
   ·have hkS:=(C.nm k).1 hk
    have hki:k≠i:=fun e=>hs (e ▸ hkS.1)
    rw [fS k hkS.1]
    refine (hlq _ ?_ (fun e=>hki (R.inj k i (C.sl k hkS.1) hl e))).trans (C.fwd k hk)
    unfold Ar.inUse;rw [(C.young_phi R (C.sl k hkS.1)).2 hkS.2];rfl
   ·rw [List.mem_singleton.1 hk,fi,hload,if_pos ⟨rfl,useB⟩]
  ·rcases hk with hk | rfl
   ·have hj:j<(W.th k).fs.length:=(List.getElem?_eq_some_iff.1 hu).1
    rw [fS k hk,hold _ (by rw [Int.add_assoc];exact C.inO R hk (by omega) (by omega))]
    exact wr (C.fd k hk j u hu)
   ·have hj:j<(W.th k).fs.length:=(List.getElem?_eq_some_iff.1 hu).1
    rw [fi,Int.add_assoc,hnew (1+j) (by omega) (by omega),←Int.add_assoc]
    exact .inl (R.fl k hl j u hu)
  ·have hj:j<(W.th k).fs.length:=(List.getElem?_eq_some_iff.1 hu).1
   refine ⟨fun h=>.inl (hup.1 h),?_⟩
   rw [fS k hk,hold _ (by rw [Int.add_assoc];exact C.inO R hk (by omega) (by omega)),hup.2]
   exact (encV_congr (fun h=>fS _ (hup.1 h))).symm
  ·rcases hk with hk | rfl
   ·exact .inl hk
   ·exact .inr ⟨h3,hi.symm⟩
  ·unfold mNow
   have hyB:(B.store (φ i) (-1-(A.grn:Int))).young (φ i)=true:=by rw [young_iff,Ar.store_yng,hsB.yng];exact y0
   have hlp:(B.store (φ i) (-1-(A.grn:Int))).load (φ i)=-1-A.grn:=by rw [hload,if_pos ⟨rfl,useB⟩]
   rw [e4,hlp,if_pos ⟨by rw [hxe,encV_ref φ h3];omega,hyB,by omega⟩,encV_ref _ h3,hi,fi]
   have:=hB.h3;have:=hB.h4
   unfold refW
   rw [show 4*(-1-(-1-(A.grn:Int)))+1=4*(A.grn:Int)+1 by omega,IntKind.wrap_i64]
   omega
theorem Cu.put (R:Rep O W φ) (C:Cu O W φ A S ψ N) {i:Int} (hi:S i) {j:Nat} {v:Vl} (hj:(W.th i).fs[j]? = some v) (hs:v.1=3→S v.2) :
  Cu O W φ (A.store (ψ i+1+j) (encV ψ v)) S ψ N∧Ext W A S ψ N (A.store (ψ i+1+j) (encV ψ v)) S ψ N∧Up W (A.store (ψ i+1+j) (encV ψ v)) S ψ i j v:=by
 have hA:=C.sm.ok
 have hjl:j<(W.th i).fs.length:=(List.getElem?_eq_some_iff.1 hj).1
 have hpi:=C.place R hi
 have b1:=hA.h1;have b2:=hA.h2;have b3:=hA.h3;have b4:=hA.h4
 have hok:=R.hw.tv i (C.sl i hi) v (List.mem_of_getElem? hj)
 have hR:R64 (encV ψ v):=by
  unfold R64
  rcases hok with h | h | h | h
  ·have e:encV ψ v=2:=by simp [encV,h.1]
   rw [e];decide
  ·have e:encV ψ v=4*v.2:=by simp [encV,h.1]
   have:=h.2
   unfold big at this
   rw [e];omega
  ·have e:encV ψ v=3:=by simp [encV,h.1]
   rw [e];decide
  ·rw [encV_ref ψ h.1]
   have:=C.place R (hs h.1)
   omega
 have huse:A.inUse (ψ i+1+j)=true:=by rw [Int.add_assoc];exact C.inU R hi (by omega) (by omega)
 have hload:=fun q=>Ar.load_store hA (ψ i+1+(j:Int)) q (encV ψ v)
 have hne:∀ q,q≠ψ i+1+j→(A.store (ψ i+1+j) (encV ψ v)).load q=A.load q:=fun q hq=>by rw [hload,if_neg (fun h=>hq h.1)]
 have heq:(A.store (ψ i+1+j) (encV ψ v)).load (ψ i+1+j)=encV ψ v:=by rw [hload,if_pos ⟨rfl,huse⟩]
 have hth:∀ k,S k→(A.store (ψ i+1+j) (encV ψ v)).thing (ψ k)=A.thing (ψ k):=fun k hk=>by
  refine thing_of_load (hne _ ?_)
  by_cases e:k=i
  ·subst e;omega
  ·have:=C.apart R hk hi e;omega
 have hyo:∀ q,A.young q=true→(A.store (ψ i+1+j) (encV ψ v)).load q=A.load q:=fun q hq=>by
  refine hne _ ?_
  have:=young_iff.1 hq
  omega
 have hfd:∀ k,S k→∀ (n:Nat) (u:Vl),(W.th k).fs[n]? = some u→(k=i∧n=j∧u=v)∨(A.store (ψ i+1+j) (encV ψ v)).load (ψ k+1+n)=A.load (ψ k+1+n):=fun k hk n u hu=>by
  have hn:n<(W.th k).fs.length:=(List.getElem?_eq_some_iff.1 hu).1
  by_cases e:k=i
  ·subst e
   by_cases en:n=j
   ·subst en
    rw [hj] at hu;cases hu
    exact .inl ⟨rfl,rfl,rfl⟩
   ·exact .inr (hne _ (by omega))
  ·have:=C.apart R hk hi e
   exact .inr (hne _ (by omega))
 have hup:Up W (A.store (ψ i+1+j) (encV ψ v)) S ψ i j v:=⟨hs,heq⟩
 refine ⟨⟨C.sm.trans (Sm.store hA _ hR),C.sl,C.so,C.po,C.nd,C.nm,?_,fun k hk=>(hth k hk).trans (C.th k hk),fun k hk hko hks n h0 h1=>?_,fun k hk=>?_,fun k hk n u hu=>?_⟩,⟨fun _ h=>h,fun _ _=>rfl,⟨[],by simp⟩,fun k hk n u hu h=>?_,by rw [Ar.store_grn];exact Nat.le_refl _⟩,hup⟩
 ·rw [Ar.store_grn]
  refine Tile.congr (fun p hp=>?_) C.tile
  obtain ⟨k,hk,rfl⟩:=List.mem_map.1 hp
  exact hth k ((C.nm k).1 hk).1
 ·have hyk:=R.young hk hko h0 h1
  rw [hyo _ (by unfold Ar.young at *;rw [C.sm.yng];exact hyk)]
  exact C.yet k hk hko hks n h0 h1
 ·have hkS:=(C.nm k).1 hk
  rw [hyo _ ((C.young_phi R (C.sl k hkS.1)).2 hkS.2)]
  exact C.fwd k hk
 ·rcases hfd k hk n u hu with ⟨rfl,rfl,rfl⟩ | h
  ·exact .inr hup
  ·rw [h];exact C.fd k hk n u hu
 ·rcases hfd k hk n u hu with ⟨rfl,rfl,rfl⟩ | e
  ·exact hup
  ·exact ⟨h.1,e.trans h.2⟩
theorem Cu.field (R:Rep O W φ) (C:Cu O W φ A S ψ N) (hr:(O.ar.yng:Int)≤(O.ar.ws.length:Int)-O.ar.grn) {i:Int} (hi:S i) {j:Nat} {v:Vl} (hj:(W.th i).fs[j]? = some v) :
  CuTo O W φ A S ψ N (mField A (ψ i+1+j)) (fun k=>v.1=3∧k=v.2) fun S' ψ' N'=>Up W (mField A (ψ i+1+j)) S' ψ' i j v:=by
 have hok:=R.hw.tv i (C.sl i hi) v (List.mem_of_getElem? hj)
 obtain ⟨S1,ψ1,N1,C1,E1,h1,h2,h3,h4⟩:=C.bring R hr hok (C.fd i hi j v hj)
 have e:mField A (ψ i+1+j)=(mBring A (A.load (ψ i+1+j))).store (ψ1 i+1+j) (encV ψ1 v):=by
  unfold mField;rw [h2,E1.at_ i hi]
 rw [e]
 obtain ⟨C2,E2,hup⟩:=C1.put R (E1.sub i hi) hj h3
 exact ⟨S1,ψ1,N1,C2,E1.trans E2,h1,hup⟩
end
end
section
section
variable {O:Wo} {W:Wd} {φ ψ ψ':Int→Int} {A A':Ar} {S S' Al:Int→Prop} {N N':List Int} {qw:List (Int × Int)}
theorem Cu.fields (R:Rep O W φ) (hr:(O.ar.yng:Int)≤(O.ar.ws.length:Int)-O.ar.grn) {i:Int}:∀ (n:Nat) {A:Ar} {S:Int→Prop} {ψ:Int→Int} {N:List Int} (j:Nat),Cu O W φ A S ψ N→S i→j+n≤(W.th i).fs.length →
  CuTo O W φ A S ψ N (mFields n A (ψ i+1+j)) (fun k=>∃ v ∈ (W.th i).fs,v.1=3∧k=v.2) fun S' ψ' N'=>∀ (m:Nat) (v:Vl),j≤m→m<j+n→(W.th i).fs[m]? = some v→Up W (mFields n A (ψ i+1+j)) S' ψ' i m v
 | 0,A,S,ψ,N,j,C,hi,hn=>⟨S,ψ,N,C,Ext.refl,fun k h=>.inl h,fun m v h1 h2=>by omega⟩
 | n+1,A,S,ψ,N,j,C,hi,hn=>by
  have hj:(W.th i).fs[j]? = some (W.th i).fs[j]:=List.getElem?_eq_getElem (by omega)
  obtain ⟨S1,ψ1,N1,C1,E1,h1,u1⟩:=C.field R hr hi hj
  obtain ⟨S2,ψ2,N2,C2,E2,h2,u2⟩:=Cu.fields R hr n (j+1) C1 (E1.sub i hi) (by omega)
  have e:mFields (n+1) A (ψ i+1+j)=mFields n (mField A (ψ i+1+j)) (ψ1 i+1+((j+1:Nat):Int)):=by
   rw [E1.at_ i hi]
   show mFields n (mField A (ψ i+1+j)) (ψ i+1+j+1)=_
   congr 1;omega
  rw [e]
  refine ⟨S2,ψ2,N2,C2,E1.trans E2,fun k hk=>?_,fun m v h3 h4 hv=>?_⟩
  ·rcases h2 k hk with h | h
   ·rcases h1 k h with h | ⟨h,h'⟩
    ·exact .inl h
    ·exact .inr ⟨_,List.getElem_mem (by omega),h,h'⟩
   ·exact .inr h
  ·by_cases em:m=j
   ·subst em
    rw [hj] at hv;cases hv
    exact E2.up i (E1.sub i hi) _ _ hj u1
   ·exact u2 m v (by omega) (by omega) hv
structure Sc (O:Wo) (W:Wd) (φ:Int→Int) (Al:Int→Prop) (s:Ms) (S:Int→Prop) (ψ:Int→Int) (N:List Int):Prop where
 C:Cu O W φ s.A S ψ N
 al:∀ k,S k→Al k
 wk:∀ p ∈ s.wk, ∃ i,S i∧(W.th i).k=3∧p=ψ i
 ep:∀ p ∈ s.ep, ∃ i,S i∧(W.th i).k=4∧p=ψ i
structure SE (W:Wd) (s:Ms) (S:Int→Prop) (ψ:Int→Int) (N:List Int) (s':Ms) (S':Int→Prop) (ψ':Int→Int) (N':List Int):Prop where
 E:Ext W s.A S ψ N s'.A S' ψ' N'
 wk:∀ p ∈ s.wk,p ∈ s'.wk
 ep:∀ p ∈ s.ep,p ∈ s'.ep
variable {s s':Ms}
theorem SE.refl:SE W s S ψ N s S ψ N:=⟨Ext.refl,fun _ h=>h,fun _ h=>h⟩
theorem SE.trans {s2:Ms} {S2:Int→Prop} {ψ2:Int→Int} {N2:List Int} (h:SE W s S ψ N s' S' ψ' N') (k:SE W s' S' ψ' N' s2 S2 ψ2 N2):SE W s S ψ N s2 S2 ψ2 N2:=
 ⟨h.E.trans k.E,fun p hp=>k.wk p (h.wk p hp),fun p hp=>k.ep p (h.ep p hp)⟩
def Looked (W:Wd) (s:Ms) (S:Int→Prop) (ψ:Int→Int) (i:Int):Prop:=
 (((W.th i).k=1∨(W.th i).k=2)→∀ (j:Nat) (v:Vl),(W.th i).fs[j]? = some v→Up W s.A S ψ i j v) ∧
 ((W.th i).k=3→ψ i ∈ s.wk∧∀ v,(W.th i).fs[1]? = some v→Up W s.A S ψ i 1 v)∧((W.th i).k=4→ψ i ∈ s.ep)
def Clean (W:Wd) (i:Int):Prop:=(W.th i).old=true∧∀ v ∈ (W.th i).fs,v.1=3→(W.th v.2).old=true
theorem Looked.mono (h:SE W s S ψ N s' S' ψ' N') {i:Int} (hi:S i) (hl:Looked W s S ψ i):Looked W s' S' ψ' i:=
 ⟨fun hk j v hv=>h.E.up i hi j v hv (hl.1 hk j v hv),fun hk=>⟨by rw [h.E.at_ i hi];exact h.wk _ (hl.2.1 hk).1,fun v hv=>h.E.up i hi 1 v hv ((hl.2.1 hk).2 v hv)⟩,fun hk=>by rw [h.E.at_ i hi];exact h.ep _ (hl.2.2 hk)⟩
theorem Sc.lists (H:Sc O W φ Al s S ψ N) {A':Ar} (E:Ext W s.A S ψ N A' S' ψ' N'):(∀ p ∈ s.wk, ∃ i,S' i∧(W.th i).k=3∧p=ψ' i)∧∀ p ∈ s.ep, ∃ i,S' i∧(W.th i).k=4∧p=ψ' i:=by
 constructor
 ·intro p hp
  obtain ⟨i,h1,h2,h3⟩:=H.wk p hp
  exact ⟨i,E.sub i h1,h2,by rw [E.at_ i h1];exact h3⟩
 ·intro p hp
  obtain ⟨i,h1,h2,h3⟩:=H.ep p hp
  exact ⟨i,E.sub i h1,h2,by rw [E.at_ i h1];exact h3⟩
theorem fits_two {k f:Int} (h:fitsW k f=true) (hk:k=3∨k=4∨k=1):f=2:=by
 unfold fitsW at h
 rcases hk with rfl | rfl | rfl <;> simp at h <;> exact h
theorem Wd.two {W:Wd} (h:W.ok) {i:Int} (hl:W.live i) (hk:(W.th i).k=3∨(W.th i).k=4∨(W.th i).k=1):(W.th i).fs.length=2:=by
 have:=fits_two (h.tk i hl) hk
 omega
theorem Sc.look (R:Rep O W φ) (hr:(O.ar.yng:Int)≤(O.ar.ws.length:Int)-O.ar.grn) (hal:Closed W.nd qw Al) (H:Sc O W φ Al s S ψ N) {i:Int} (hi:S i) :
  ∃ S' ψ' N',Sc O W φ Al (mLook s (ψ i)) S' ψ' N'∧SE W s S ψ N (mLook s (ψ i)) S' ψ' N'∧Looked W (mLook s (ψ i)) S' ψ' i:=by
 have hth:=H.C.th i hi
 have hl:=H.C.sl i hi
 unfold mLook
 rw [hth]
 dsimp only
 by_cases k12:(W.th i).k=1∨(W.th i).k=2
 ·rw [if_pos k12]
  obtain ⟨S1,ψ1,N1,C1,E1,h1,u1⟩:=Cu.fields R hr (W.th i).fs.length 0 H.C hi (by omega)
  rw [show ψ i+1+((0:Nat):Int)=ψ i+1 by omega] at C1 E1 u1
  rw [Int.toNat_natCast]
  have hL:=H.lists E1
  refine ⟨S1,ψ1,N1,⟨C1,fun k hk=>?_,hL.1,hL.2⟩,⟨E1,fun _ h=>h,fun _ h=>h⟩,fun _ j v hv=>u1 j v (by omega) (by have:=(List.getElem?_eq_some_iff.1 hv).1;omega) hv,fun h=>by omega,fun h=>by omega⟩
  rcases h1 k hk with h | ⟨v,hv,h3,rfl⟩
  ·exact H.al k h
  ·exact hal i _ (H.al i hi) (.inl ⟨k12,by show ((3,v.2):Vl) ∈ (W.th i).fs;rw [←h3];exact hv⟩)
 ·rw [if_neg k12]
  by_cases k3:(W.th i).k=3
  ·rw [if_pos k3]
   have h2:=Wd.two R.hw hl (.inl k3)
   have hj:(W.th i).fs[1]? = some (W.th i).fs[1]:=List.getElem?_eq_getElem (by omega)
   obtain ⟨S1,ψ1,N1,C1,E1,h1,u1⟩:=H.C.field R hr hi hj
   rw [show ψ i+1+((1:Nat):Int)=ψ i+2 by omega] at C1 E1 u1
   have hL:=H.lists E1
   refine ⟨S1,ψ1,N1,⟨C1,fun k hk=>?_,fun p hp=>?_,hL.2⟩,⟨E1,fun p hp=>by simp [hp],fun _ h=>h⟩,fun h=>(k12 h).elim,fun _=>⟨by rw [E1.at_ i hi];simp,fun v hv=>?_⟩,fun h=>by omega⟩
   ·rcases h1 k hk with h | ⟨h3,rfl⟩
    ·exact H.al k h
    ·refine hal i _ (H.al i hi) (.inr (.inl ⟨k3,?_⟩))
     show (W.th i).fs[1]? = _
     rw [hj];congr 1;exact Prod.ext h3 rfl
   ·rcases List.mem_append.1 hp with h | h
    ·exact hL.1 p h
    ·rw [List.mem_singleton.1 h];exact ⟨i,E1.sub i hi,k3,(E1.at_ i hi).symm⟩
   ·rw [hj] at hv;cases hv;exact u1
  ·rw [if_neg k3]
   by_cases k4:(W.th i).k=4
   ·rw [if_pos k4]
    refine ⟨S,ψ,N,⟨H.C,H.al,H.wk,fun p hp=>?_⟩,⟨Ext.refl,fun _ h=>h,fun p hp=>by simp [hp]⟩,fun h=>(k12 h).elim,fun h=>(k3 h).elim,fun _=>by simp⟩
    rcases List.mem_append.1 hp with h | h
    ·exact H.ep p h
    ·rw [List.mem_singleton.1 h];exact ⟨i,hi,k4,rfl⟩
   ·rw [if_neg k4]
    exact ⟨S,ψ,N,H,SE.refl,fun h=>(k12 h).elim,fun h=>(k3 h).elim,fun h=>(k4 h).elim⟩
theorem Tile.split {A:Ar} {m:List Int}:∀ {l:List Int} {a b:Int},Tile A (l ++ m) a b→∃ c,Tile A l a c∧Tile A m c b
 | [],a,b,h=>⟨a,rfl,h⟩
 | p :: l,a,b,h=>by
  obtain ⟨c,h1,h2⟩:=Tile.split h.2.2
  exact ⟨c,⟨h.1,h.2.1,h1⟩,h2⟩
theorem Tile.end_ {A:Ar}:∀ {l:List Int} {a b c:Int},Tile A l a b→Tile A l a c→b=c
 | [],a,b,c,h,k=>by have h1:a=b:=h;have h2:a=c:=k;omega
 | p :: l,a,b,c,h,k=>Tile.end_ h.2.2 k.2.2
structure Sn (O:Wo) (W:Wd) (s:Ms) (S:Int→Prop) (ψ:Int→Int) (N:List Int) (c:Int):Prop where
 sp:∃ N1 N2,N=N1 ++ N2∧Tile s.A (N1.map ψ) O.ar.grn c∧∀ i ∈ N1,Looked W s S ψ i
 old:∀ i,W.live i→(W.th i).old=true→Looked W s S ψ i∨Clean W i
theorem Sn.more (C:Cu O W φ s.A S ψ N) (C':Cu O W φ s'.A S' ψ' N') (E:SE W s S ψ N s' S' ψ' N') {c:Int} (h:Sn O W s S ψ N c):Sn O W s' S' ψ' N' c:=by
 obtain ⟨N1,N2,e,ht,hl⟩:=h.sp
 obtain ⟨m,em⟩:=E.E.pre
 have inS:∀ i ∈ N1,S i:=fun i hi=>((C.nm i).1 (by rw [e];simp [hi])).1
 refine ⟨⟨N1,N2 ++ m,by rw [em,e];simp,?_,fun i hi=>(hl i hi).mono E (inS i hi)⟩,fun i hi ho=>?_⟩
 ·have e1:N1.map ψ'=N1.map ψ:=List.map_congr_left fun i hi=>E.E.at_ i (inS i hi)
  rw [e1]
  refine Tile.congr (fun p hp=>?_) ht
  obtain ⟨i,hi,rfl⟩:=List.mem_map.1 hp
  rw [C.th i (inS i hi),←E.E.at_ i (inS i hi),C'.th i (E.E.sub i (inS i hi))]
 ·rcases h.old i hi ho with h1 | h1
  ·exact .inl (h1.mono E (C.so i hi ho))
  ·exact .inr h1
theorem Sn.all (R:Rep O W φ) (C:Cu O W φ s.A S ψ N) {c:Int} (h:Sn O W s S ψ N c) (hc:c=s.A.grn):∀ i ∈ N,Looked W s S ψ i:=by
 obtain ⟨N1,N2,e,ht,hl⟩:=h.sp
 have hw:=C.tile
 rw [e,List.map_append] at hw
 obtain ⟨m,h1,h2⟩:=hw.split
 have:=h1.end_ ht
 subst this
 cases N2 with
 | nil=>rw [e];simpa using hl
 | cons i N2=>
  have h3:=Tile.le h2.2.2
  have h4:=s.A.thing_fields (ψ i)
  have h5:ψ i=m:=h2.1
  omega
theorem Sc.scan (R:Rep O W φ) (hr:(O.ar.yng:Int)≤(O.ar.ws.length:Int)-O.ar.grn) (hal:Closed W.nd qw Al):∀ (n:Nat) {s:Ms} {S:Int→Prop} {ψ:Int→Int} {N:List Int} (c:Int),
  Sc O W φ Al s S ψ N→Sn O W s S ψ N c→c≤s.A.grn→((O.ar.ws.length:Int)-c).toNat<n →
  ∃ S' ψ' N',Sc O W φ Al (mScan n s c).1 S' ψ' N'∧SE W s S ψ N (mScan n s c).1 S' ψ' N'∧Sn O W (mScan n s c).1 S' ψ' N' (mScan n s c).2∧(mScan n s c).2=(mScan n s c).1.A.grn
 | 0,s,S,ψ,N,c,H,hs,hc,hn=>by omega
 | n+1,s,S,ψ,N,c,H,hs,hc,hn=>by
  unfold mScan
  by_cases hlt:c<s.A.grn
  ·rw [if_pos hlt]
   obtain ⟨N1,N2,e,ht,hl⟩:=hs.sp
   have hw:=H.C.tile
   rw [e,List.map_append] at hw
   obtain ⟨m,h1,h2⟩:=hw.split
   have hm:=h1.end_ ht
   subst hm
   cases N2 with
   | nil=>have h2':m=(s.A.grn:Int):=h2;omega
   | cons i N2=>
    have hic:ψ i=m:=h2.1
    have hi:S i:=((H.C.nm i).1 (by rw [e];simp)).1
    subst hic
    have hth:=H.C.th i hi
    obtain ⟨S1,ψ1,M1,H1,E1,hL⟩:=H.look R hr hal hi
    have hsn:=hs.more H.C H1.C E1
    have inS:∀ k ∈ N1,S k:=fun k hk=>((H.C.nm k).1 (by rw [e];simp [hk])).1
    have hth1:=H1.C.th i (E1.E.sub i hi)
    rw [E1.E.at_ i hi] at hth1
    obtain ⟨mm,em⟩:=E1.E.pre
    have hsn':Sn O W (mLook s (ψ i)) S1 ψ1 M1 (ψ i+(1+(s.A.thing (ψ i)).2.1)):=by
     refine ⟨⟨N1 ++ [i],N2 ++ mm,by rw [em,e];simp,?_,fun k hk=>?_⟩,hsn.old⟩
     ·have e1:N1.map ψ1=N1.map ψ:=List.map_congr_left fun k hk=>E1.E.at_ k (inS k hk)
      rw [List.map_append,e1]
      refine Tile.app (Tile.congr (fun p hp=>?_) ht) ⟨E1.E.at_ i hi,by rw [E1.E.at_ i hi,hth1],?_⟩
      ·obtain ⟨k,hk,rfl⟩:=List.mem_map.1 hp
       rw [H.C.th k (inS k hk),←E1.E.at_ k (inS k hk),H1.C.th k (E1.E.sub k (inS k hk))]
      ·rw [E1.E.at_ i hi,hth1,hth]
       show ψ i+1+((W.th i).fs.length:Int)=ψ i+(1+(W.th i).fs.length)
       omega
     ·rcases List.mem_append.1 hk with h | h
      ·exact (hl k h).mono E1 (inS k h)
      ·rw [List.mem_singleton.1 h];exact hL
    have hp:=H1.C.place R (E1.E.sub i hi)
    rw [E1.E.at_ i hi] at hp
    have hth':=hth
    rw [hth] at hsn' ⊢
    dsimp only at hsn' ⊢
    obtain ⟨S2,ψ2,M2,H2,E2,hn2,hc2⟩:=Sc.scan R hr hal n _ H1 hsn' (by omega) (by have:=H.C.sm.ok.h3;have:=H.C.sm.len;omega)
    exact ⟨S2,ψ2,M2,H2,E1.trans E2,hn2,hc2⟩
  ·rw [if_neg hlt]
   exact ⟨S,ψ,N,H,SE.refl,hs,by show c=(s.A.grn:Int);omega⟩
theorem Sc.withA (H:Sc O W φ Al s S ψ N) {A':Ar} (C:Cu O W φ A' S' ψ' N') (E:Ext W s.A S ψ N A' S' ψ' N') (hal:∀ k,S' k→Al k):Sc O W φ Al { s with A:=A' } S' ψ' N'∧SE W s S ψ N { s with A:=A' } S' ψ' N':=
 ⟨⟨C,hal,(H.lists E).1,(H.lists E).2⟩,⟨E,fun _ h=>h,fun _ h=>h⟩⟩
theorem Cu.eph (R:Rep O W φ) (hr:(O.ar.yng:Int)≤(O.ar.ws.length:Int)-O.ar.grn) (hal:Closed W.nd qw Al):∀ (l:List Int) {A:Ar} {S:Int→Prop} {ψ:Int→Int} {N:List Int},
  Cu O W φ A S ψ N→(∀ k,S k→Al k)→(∀ p ∈ l, ∃ i,S i∧(W.th i).k=4∧p=ψ i) →
  ∃ S' ψ' N',Cu O W φ (mEph A l) S' ψ' N'∧Ext W A S ψ N (mEph A l) S' ψ' N'∧(∀ k,S' k→Al k) ∧
   ∀ i,S i→(W.th i).k=4→ψ i ∈ l→(∀ v,(W.th i).fs[0]? = some v→v.1=3→S v.2)→∀ v,(W.th i).fs[1]? = some v→v.1=3→S' v.2
 | [],A,S,ψ,N,C,ha,hl=>⟨S,ψ,N,C,Ext.refl,ha,fun i _ _ h=>by cases h⟩
 | p :: l,A,S,ψ,N,C,ha,hl=>by
  obtain ⟨i,hi,k4,rfl⟩:=hl p (by simp)
  have hli:=C.sl i hi
  have h2:=Wd.two R.hw hli (.inr (.inl k4))
  have hj0:(W.th i).fs[0]? = some (W.th i).fs[0]:=List.getElem?_eq_getElem (by omega)
  have hj1:(W.th i).fs[1]? = some (W.th i).fs[1]:=List.getElem?_eq_getElem (by omega)
  have hok:=R.hw.tv i hli _ (List.mem_of_getElem? hj0)
  have hfd:=C.fd i hi 0 _ hj0
  rw [show ψ i+1+((0:Nat):Int)=ψ i+1 by omega] at hfd
  have halive:=C.alive R hok hfd
  have step:∃ S1 ψ1 N1,Cu O W φ (mEph1 A (ψ i)) S1 ψ1 N1∧Ext W A S ψ N (mEph1 A (ψ i)) S1 ψ1 N1∧(∀ k,S1 k→Al k)∧((∀ v,(W.th i).fs[0]? = some v→v.1=3→S v.2)→∀ v,(W.th i).fs[1]? = some v→v.1=3→S1 v.2):=by
   unfold mEph1
   by_cases hm:mAlive A (A.load (ψ i+1))=true
   ·rw [if_pos hm]
    have hkey:=halive.1 hm
    obtain ⟨S1,ψ1,N1,C1,E1,h1,u1⟩:=C.field R hr hi hj0
    rw [show ψ i+1+((0:Nat):Int)=ψ i+1 by omega] at C1 E1 u1
    obtain ⟨S2,ψ2,N2,C2,E2,h3,u2⟩:=C1.field R hr (E1.sub i hi) hj1
    rw [E1.at_ i hi,show ψ i+1+((1:Nat):Int)=ψ i+2 by omega] at C2 E2 u2
    refine ⟨S2,ψ2,N2,C2,E1.trans E2,fun k hk=>?_,fun _ v hv h=>by rw [hj1] at hv;cases hv;exact u2.1 h⟩
    rcases h3 k hk with h | ⟨h4,rfl⟩
    ·rcases h1 k h with h | ⟨h4,rfl⟩
     ·exact ha k h
     ·exact ha _ (hkey h4)
    ·refine hal i _ (ha i hi) (.inr (.inr (.inl ⟨k4,?_,fun v hv h5=>?_⟩)))
     ·show (W.th i).fs[1]? = _
      rw [hj1];congr 1;exact Prod.ext h4 rfl
     ·have hv':(W.th i).fs[0]? = some v:=hv
      rw [hj0] at hv';cases hv'
      exact ha _ (hkey h5)
   ·rw [if_neg hm]
    exact ⟨S,ψ,N,C,Ext.refl,ha,fun h=>(hm (halive.2 (fun h3=>h _ hj0 h3))).elim⟩
  obtain ⟨S1,ψ1,N1,C1,E1,ha1,hk1⟩:=step
  obtain ⟨S2,ψ2,N2,C2,E2,ha2,hk2⟩:=Cu.eph R hr hal l C1 ha1 (fun p hp=>by
   obtain ⟨k,h3,h4,h5⟩:=hl p (by simp [hp])
   exact ⟨k,E1.sub k h3,h4,by rw [E1.at_ k h3];exact h5⟩)
  have e:mEph A (ψ i :: l)=mEph (mEph1 A (ψ i)) l:=rfl
  rw [e]
  refine ⟨S2,ψ2,N2,C2,E1.trans E2,ha2,fun k hk k4' hkl hkey v hv h3=>?_⟩
  rcases List.mem_cons.1 hkl with h | h
  ·have hki:=C.inj R hk hi h
   subst hki
   exact E2.sub _ (hk1 hkey v hv h3)
  ·exact hk2 k (E1.sub k hk) k4' (by rw [E1.at_ k hk];exact h) (fun v hv h3=>E1.sub _ (hkey v hv h3)) v hv h3
def Qrel (φ ψ:Int→Int) (S:Int→Prop):List (Int × Int)→List (Int × Int)→Prop
 | [],[]=>True
 | e :: l,f :: m=>(e.1=encV φ (3,f.1)∧Wrd φ ψ S e.2 (3,f.2))∧Qrel φ ψ S l m
 | _,_=>False
theorem Qrel.mono (E:Ext W A S ψ N A' S' ψ' N'):∀ {l m:List (Int × Int)},Qrel φ ψ S l m→Qrel φ ψ' S' l m
 | [],[],_=>trivial
 | e :: l,f :: m,h=>⟨⟨h.1.1,E.wrd h.1.2⟩,Qrel.mono E h.2⟩
theorem Qrel.app {e f:Int × Int} (he:e.1=encV φ (3,f.1)∧Wrd φ ψ S e.2 (3,f.2)):∀ {l m:List (Int × Int)},Qrel φ ψ S l m→Qrel φ ψ S (l ++ [e]) (m ++ [f])
 | [],[],_=>⟨he,trivial⟩
 | _ :: l,_ :: m,h=>⟨h.1,Qrel.app he h.2⟩
theorem Cu.wake (R:Rep O W φ) (hr:(O.ar.yng:Int)≤(O.ar.ws.length:Int)-O.ar.grn) (hal:Closed W.nd qw Al) (hqw:∀ e ∈ qw,W.okE e):∀ (l m:List (Int × Int)) {A:Ar} {S:Int→Prop} {ψ:Int→Int} {N:List Int},
  Cu O W φ A S ψ N→(∀ k,S k→Al k)→Qrel φ ψ S l m→(∀ f ∈ m,f ∈ qw) →
  ∃ S' ψ' N',Cu O W φ (wakeM mAlive mKp A l).1 S' ψ' N'∧Ext W A S ψ N (wakeM mAlive mKp A l).1 S' ψ' N'∧(∀ k,S' k→Al k)∧Qrel φ ψ' S' (wakeM mAlive mKp A l).2.1 m∧∀ f ∈ m,S f.1→S' f.2
 | [],[],A,S,ψ,N,C,ha,hq,hm=>⟨S,ψ,N,C,Ext.refl,ha,trivial,fun f h=>by cases h⟩
 | e :: l,f :: m,A,S,ψ,N,C,ha,hq,hm=>by
  have hf:=hqw f (hm f (by simp))
  have okg:W.okV (3,f.1):=.inr (.inr (.inr ⟨rfl,hf.1⟩))
  have okt:W.okV (3,f.2):=.inr (.inr (.inr ⟨rfl,hf.2.2⟩))
  have ag:=C.alive R okg (x:=e.1) (.inl hq.1.1)
  have at_:=C.alive R okt hq.1.2
  simp only [forall_const] at ag at_
  unfold wakeM
  by_cases hc:(mAlive A e.1 && !mAlive A e.2)=true
  ·rw [if_pos hc]
   rw [Bool.and_eq_true] at hc
   have hg:=ag.1 hc.1
   obtain ⟨S1,ψ1,N1,C1,E1,h1,h2,h3,_⟩:=C.bring R hr okt hq.1.2
   have ha1:∀ k,S1 k→Al k:=fun k hk=>by
    rcases h1 k hk with h | ⟨_,rfl⟩
    ·exact ha k h
    ·exact hal f.1 _ (ha _ hg) (.inr (.inr (.inr ⟨hf.2.1,by show (f.1,f.2) ∈ qw;exact hm f (by simp)⟩)))
   obtain ⟨S2,ψ2,N2,C2,E2,ha2,hq2,hk2⟩:=Cu.wake R hr hal hqw l m C1 ha1 (hq.2.mono E1) (fun f hf=>hm f (by simp [hf]))
   have hw:Wrd φ ψ1 S1 (mKp A e.2).2 (3,f.2):=.inr ⟨h3,h2⟩
   refine ⟨S2,ψ2,N2,C2,E1.trans E2,ha2,⟨⟨hq.1.1,E2.wrd hw⟩,hq2⟩,fun f' hf' hs=>?_⟩
   rcases List.mem_cons.1 hf' with rfl | h
   ·exact E2.sub _ (h3 rfl)
   ·exact hk2 f' h (E1.sub _ hs)
  ·rw [if_neg hc]
   obtain ⟨S2,ψ2,N2,C2,E2,ha2,hq2,hk2⟩:=Cu.wake R hr hal hqw l m C ha hq.2 (fun f hf=>hm f (by simp [hf]))
   refine ⟨S2,ψ2,N2,C2,E2,ha2,⟨⟨hq.1.1,E2.wrd hq.1.2⟩,hq2⟩,fun f' hf' hs=>?_⟩
   rcases List.mem_cons.1 hf' with rfl | h
   ·have h1:=ag.2 hs
    rw [h1] at hc
    simp at hc
    exact E2.sub _ (at_.1 hc)
   ·exact hk2 f' h hs
end
end
section
section
variable {O:Wo} {W:Wd} {φ ψ ψ':Int→Int} {A A':Ar} {S S' Al:Int→Prop} {N N':List Int} {qw:List (Int × Int)}
theorem Ext.same (R:Rep O W φ) (C:Cu O W φ A S ψ N) (C':Cu O W φ A' S' ψ' N') (E:Ext W A S ψ N A' S' ψ' N') (h:A'.grn=A.grn):∀ k,S' k→S k:=by
 obtain ⟨m,em⟩:=E.pre
 have hm:m=[]:=by
  have ht':=C'.tile
  rw [em,List.map_append] at ht'
  obtain ⟨c,h1,h2⟩:=ht'.split
  have e1:N.map ψ'=N.map ψ:=List.map_congr_left fun i hi=>E.at_ i ((C.nm i).1 hi).1
  have h3:Tile A' (N.map ψ') O.ar.grn A.grn:=by
   rw [e1]
   refine Tile.congr (fun p hp=>?_) C.tile
   obtain ⟨i,hi,rfl⟩:=List.mem_map.1 hp
   have hS:=((C.nm i).1 hi).1
   rw [C.th i hS,←E.at_ i hS,C'.th i (E.sub i hS)]
  have:=h1.end_ h3
  subst this
  cases m with
  | nil=>rfl
  | cons p m=>
   have h5:ψ' p=(A.grn:Int):=h2.1
   have h6:=Tile.le h2.2.2
   have h7:=A'.thing_fields (ψ' p)
   rw [h] at h6
   omega
 intro k hk
 cases ho:(W.th k).old
 ·have:=(C'.nm k).2 ⟨hk,ho⟩
  rw [em,hm,List.append_nil] at this
  exact ((C.nm k).1 this).1
 ·exact C.so k (C'.sl k hk) ho
theorem Sc.round (R:Rep O W φ) (hr:(O.ar.yng:Int)≤(O.ar.ws.length:Int)-O.ar.grn) (hal:Closed W.nd qw Al) (hqw:∀ e ∈ qw,W.okE e) {d:Md} (H:Sc O W φ Al d.s S ψ N) (hs:Sn O W d.s S ψ N d.c) (hc:d.c≤d.s.A.grn) (hq:Qrel φ ψ S d.q qw) :
  ∃ S' ψ' N',Sc O W φ Al (mRound d).s S' ψ' N'∧SE W d.s S ψ N (mRound d).s S' ψ' N'∧Sn O W (mRound d).s S' ψ' N' (mRound d).c∧(mRound d).c≤(mRound d).s.A.grn∧(d.s.A.grn:Int)≤(mRound d).c∧Qrel φ ψ' S' (mRound d).q qw ∧
   (¬ (mRound d).c<(mRound d).s.A.grn→Closed W.nd qw S'):=by
 have hlen:=H.C.sm.len
 have h3':=H.C.sm.ok.h3
 have h4':=H.C.sm.ok.h4
 have hc0:(0:Int)≤d.c:=by
  obtain ⟨N1,N2,e,ht,hl⟩:=hs.sp
  have:=ht.le
  omega
 obtain ⟨S1,ψ1,N1,H1,E1,n1,c1⟩:=H.scan R hr hal 2000 d.c hs hc (by omega)
 obtain ⟨S2,ψ2,N2,C2,X2,a2,k2⟩:=Cu.eph R hr hal (mScan 2000 d.s d.c).1.ep H1.C H1.al H1.ep
 obtain ⟨S3,ψ3,N3,C3,X3,a3,q3,k3⟩:=Cu.wake R hr hal hqw d.q qw C2 a2 ((hq.mono E1.E).mono X2) (fun f hf=>hf)
 obtain ⟨H3,E3⟩:=H1.withA C3 (X2.trans X3) a3
 have e1:(mRound d).s={ (mScan 2000 d.s d.c).1 with A:=(wakeM mAlive mKp (mEph (mScan 2000 d.s d.c).1.A (mScan 2000 d.s d.c).1.ep) d.q).1 }:=rfl
 have e2:(mRound d).c=(mScan 2000 d.s d.c).2:=rfl
 have e3:(mRound d).q=(wakeM mAlive mKp (mEph (mScan 2000 d.s d.c).1.A (mScan 2000 d.s d.c).1.ep) d.q).2.1:=rfl
 have g3:=(X2.trans X3).grn
 have n3:=n1.more H1.C H3.C E3
 rw [e1,e2,e3]
 refine ⟨S3,ψ3,N3,H3,E1.trans E3,n3,by rw [c1];exact Int.ofNat_le.2 g3,by rw [c1];exact Int.ofNat_le.2 E1.E.grn,q3,fun hno=>?_⟩
 have hg:(wakeM mAlive mKp (mEph (mScan 2000 d.s d.c).1.A (mScan 2000 d.s d.c).1.ep) d.q).1.grn=(mScan 2000 d.s d.c).1.A.grn:=by
  rw [c1] at hno
  have:¬ ((mScan 2000 d.s d.c).1.A.grn:Int)<((wakeM mAlive mKp (mEph (mScan 2000 d.s d.c).1.A (mScan 2000 d.s d.c).1.ep) d.q).1.grn:Int):=hno
  omega
 have back1:=(X2.trans X3).same R H1.C C3 hg
 have back2:∀ k,S3 k→S2 k:=fun k hk=>X2.sub k (back1 k hk)
 have all:=n3.all R C3 (by show (mScan 2000 d.s d.c).2=_;rw [c1];exact (congrArg Int.ofNat hg).symm)
 have seen:∀ i,S3 i→Looked W { (mScan 2000 d.s d.c).1 with A:=(wakeM mAlive mKp (mEph (mScan 2000 d.s d.c).1.A (mScan 2000 d.s d.c).1.ep) d.q).1 } S3 ψ3 i∨Clean W i:=fun i hi=>by
  cases ho:(W.th i).old
  ·exact .inl (all i ((C3.nm i).2 ⟨hi,ho⟩))
  ·exact n3.old i (C3.sl i hi) ho
 intro i j hi hl
 have hli:=C3.sl i hi
 have inF:∀ {n:Nat},(W.th i).fs[n]? = some (3,j)→Clean W i→S3 j:=fun hv hcl=>
  C3.so j (Wd.okV_ref (R.hw.tv i hli _ (List.mem_of_getElem? hv)) rfl) (hcl.2 _ (List.mem_of_getElem? hv) rfl)
 rcases hl with ⟨hk,hm⟩ | ⟨hk,hm⟩ | ⟨hk,hm,hkey⟩ | ⟨hk,hm⟩
 ·obtain ⟨n,hn,he⟩:=List.mem_iff_getElem.1 (show ((3,j):Vl) ∈ (W.th i).fs from hm)
  have hv:(W.th i).fs[n]? = some (3,j):=by rw [List.getElem?_eq_getElem hn,he]
  rcases seen i hi with h | h
  ·exact (h.1 hk n _ hv).1 rfl
  ·exact inF hv h
 ·rcases seen i hi with h | h
  ·exact ((h.2.1 hk).2 _ hm).1 rfl
  ·exact inF hm h
 ·rcases seen i hi with h | h
  ·have hep:=h.2.2 hk
   have hi1:=back1 i hi
   have h2:ψ1 i ∈ (mScan 2000 d.s d.c).1.ep:=by
    rw [←(X2.trans X3).at_ i hi1];exact hep
   exact X3.sub _ (k2 i hi1 hk h2 (fun v hv h3=>back1 _ (hkey v hv h3)) _ hm rfl)
  ·exact inF hm h
 ·exact k3 (i,j) hm (back2 i hi)
theorem Sc.drain (R:Rep O W φ) (hr:(O.ar.yng:Int)≤(O.ar.ws.length:Int)-O.ar.grn) (hal:Closed W.nd qw Al) (hqw:∀ e ∈ qw,W.okE e):∀ (n:Nat) {d:Md} {S:Int→Prop} {ψ:Int→Int} {N:List Int},
  Sc O W φ Al d.s S ψ N→Sn O W d.s S ψ N d.c→d.c≤d.s.A.grn→Qrel φ ψ S d.q qw→((O.ar.ws.length:Int)-d.s.A.grn).toNat<n →
  ∃ S' ψ' N',Sc O W φ Al (mDrain n d).s S' ψ' N'∧SE W d.s S ψ N (mDrain n d).s S' ψ' N'∧Sn O W (mDrain n d).s S' ψ' N' (mDrain n d).c∧(mDrain n d).c=(mDrain n d).s.A.grn∧Qrel φ ψ' S' (mDrain n d).q qw∧Closed W.nd qw S'
 | 0,d,S,ψ,N,H,hs,hc,hq,hn=>by omega
 | n+1,d,S,ψ,N,H,hs,hc,hq,hn=>by
  obtain ⟨S1,ψ1,N1,H1,E1,n1,l1,g1,q1,k1⟩:=H.round R hr hal hqw hs hc hq
  unfold mDrain
  by_cases hlt:(mRound d).c<(mRound d).s.A.grn
  ·rw [if_pos hlt]
   have h3:=H1.C.sm.ok.h3
   have h4:=H1.C.sm.len
   obtain ⟨S2,ψ2,N2,H2,E2,n2,c2,q2,k2⟩:=Sc.drain R hr hal hqw n H1 n1 l1 q1 (by omega)
   exact ⟨S2,ψ2,N2,H2,E1.trans E2,n2,c2,q2,k2⟩
  ·rw [if_neg hlt]
   exact ⟨S1,ψ1,N1,H1,E1,n1,by omega,q1,k1 hlt⟩
end
end
end Go.Proofs.Ytjifdalflepcoac
