/-
  Parts of the proof, merged: what the functions do, and plain laws.
-/
import Derived.WalkKit
import Derived.WalkSpells
import Derived.WalkLawsBesides
import Derived.Deep.QuietTactic
import Derived.BigQuiet
import Derived.Lib.Hide
import Derived.ProofKit
import Derived.OpenShut
import Derived.Deep.Slices
import Derived.Deep.Fields
import Derived.ChangeSame
import Derived.Lib.SmallJoins
import Derived.Carry
import Derived.Deep.MidRow
import Derived.Test.YtjifdalflepcoacGreatProg
import Derived.Laws.CopyRow
import Derived.Deep.DeepCutAuto
import Derived.Outline
set_option maxHeartbeats 16000000
set_option maxRecDepth 100000
set_option linter.unusedVariables false
set_option linter.unusedSimpArgs false
namespace Go.Proofs.YtjifdalflepcoacGreat
section
open Go.RowKit
theorem Hz {p:Prop} (h:p):Hid p:=Lib.hid h
theorem int_eq {k:IntKind} {a b:Int} (h:a=b):Value.int k a=Value.int k b:=by rw [h]
theorem ret_of {a b:Value} (h:a=b):Ending.returned a=Ending.returned b:=by rw [h]
theorem ret_int {k:IntKind} {a b:Int} (h:a=b):Ending.returned (.int k a)=Ending.returned (.int k b):=by rw [h]
theorem ret_bool {a b:Bool} (h:a=b):Ending.returned (.bool a)=Ending.returned (.bool b):=by rw [h]
def Blk (w:World) (b:Nat) (c:List Value) (T:TypeId):Prop:=w.heap[b]? = some (.cells c.toArray T (0,0))
theorem Blk.lt {w:World} {b:Nat} {c:List Value} {T:TypeId} (h:Blk w b c T):b<w.heap.size:=lt_of_block h
theorem Blk.cell {w:World} {b:Nat} {c:List Value} {T:TypeId} (h:Blk w b c T) (i:Nat):w.cell? ⟨b,i,none⟩=c[i]? := by
 unfold Blk at h;simp [World.cell?,h]
theorem Blk.free {w:World} {b:Nat} {c:List Value} {T:TypeId} (h:Blk w b c T) (i:Nat):w.frozen? ⟨b,i,none⟩=false:=by
 unfold Blk at h;simp [World.frozen?,h]
theorem Blk.ne {w:World} {a b:Nat} {c d:List Value} {T U:TypeId} (h:Blk w a c T) (k:Blk w b d U) (hTU:T≠U):a≠b:=by
 rintro rfl
 unfold Blk at h k
 rw [h] at k
 simp at k
 exact hTU k.2
theorem Blk.setSame {w:World} {b:Nat} {c:List Value} {T:TypeId} (h:Blk w b c T) (i:Nat) (v:Value):Blk (w.setCell ⟨b,i,none⟩ v) b (c.set i v) T:=by
 unfold Blk at *
 simp [World.setCell,Array.getElem?_modify,h]
theorem Blk.setOther {w:World} {b:Nat} {c:List Value} {T:TypeId} (h:Blk w b c T) {a:Addr} (hn:b≠a.block) (v:Value):Blk (w.setCell a v) b c T:=by
 unfold Blk at *
 rw [Below.heap_setCell _ _ _ _ hn];exact h
theorem Blk.alloc {w:World} {b:Nat} {c:List Value} {T:TypeId} (h:Blk w b c T) (o:Obj):Blk (w.alloc o) b c T:=by
 have:=h.lt
 unfold Blk at *
 rw [Below.heap_alloc _ _ _ this];exact h
theorem Blk.drew {w:World} {b:Nat} {c:List Value} {T:TypeId} (h:Blk w b c T):Blk w.drew b c T:=h
theorem Blk.new (w:World) (c:List Value) (T:TypeId):Blk (w.alloc (.cells c.toArray T)) w.heap.size c T:=by
 unfold Blk
 show (w.heap.push _)[w.heap.size]? = _
 simp
theorem Blk.newAt {w:World} {b:Nat} {c:List Value} {T:TypeId} (a:Array Value) (hb:b=w.heap.size) (hc:a.toList=c):Blk (w.alloc (.cells a T)) b c T:=by
 subst hb;subst hc
 simpa using Blk.new w a.toList T
structure Keeps (S:Nat→Prop) (w w':World):Prop where
 os:w'.os=w.os
 tape:w'.tape=w.tape
 output:w'.output=w.output
 size:w.heap.size≤w'.heap.size
 block:∀ k,k<w.heap.size→¬ S k→w'.heap[k]? = w.heap[k]?
theorem Keeps.refl (S:Nat→Prop) (w:World):Keeps S w w:=⟨rfl,rfl,rfl,Nat.le_refl _,fun _ _ _=>rfl⟩
theorem Kz (w:World):Keeps (fun _=>False) w w:=Keeps.refl _ w
theorem Keeps.trans {S:Nat→Prop} {a b c:World} (h:Keeps S a b) (k:Keeps S b c):Keeps S a c:=
 ⟨k.os.trans h.os,k.tape.trans h.tape,k.output.trans h.output,Nat.le_trans h.size k.size,
  fun i hi hn=>(k.block i (Nat.lt_of_lt_of_le hi h.size) hn).trans (h.block i hi hn)⟩
theorem Keeps.mono {S T:Nat→Prop} {w w':World} (h:Keeps S w w') (hST:∀ k,k<w.heap.size→S k→T k):Keeps T w w':=
 ⟨h.os,h.tape,h.output,h.size,fun i hi hn=>h.block i hi (fun hs=>hn (hST i hi hs))⟩
theorem Keeps.blk {S:Nat→Prop} {w w':World} (h:Keeps S w w') {b:Nat} {c:List Value} {T:TypeId} (k:Blk w b c T) (hn:¬ S b):Blk w' b c T:=by
 have:=h.block b k.lt hn
 unfold Blk at *;rw [this];exact k
theorem Keeps.drew {S:Nat→Prop} {w w':World} (h:Keeps S w w'):Keeps S w w'.drew:=⟨h.os,h.tape,h.output,h.size,h.block⟩
theorem Keeps.alloc {S:Nat→Prop} {w w':World} (h:Keeps S w w') (o:Obj):Keeps S w (w'.alloc o):=
 h.trans ⟨rfl,rfl,rfl,by simp,fun k hk _=>Below.heap_alloc _ _ _ hk⟩
theorem Keeps.setCell {S:Nat→Prop} {w w':World} (h:Keeps S w w') {p:Addr} (hp:S p.block∨w.heap.size≤p.block) (u:Value):Keeps S w (w'.setCell p u):=by
 refine ⟨h.os,h.tape,h.output,by simpa using h.size,fun k hk hn=>?_⟩
 rw [Below.heap_setCell _ _ _ _ (by rintro rfl;rcases hp with hp | hp;exact hn hp;omega)]
 exact h.block k hk hn
theorem Keeps.below {S:Nat→Prop} {w w':World} (h:Keeps S w w') (hS:∀ k,k<w.heap.size→¬ S k):Below w.heap.size w w':=
 ⟨h.os,h.tape,h.output,h.size,fun k hk=>h.block k hk (hS k hk)⟩
theorem Keeps.from {S:Nat→Prop} {w₀ w w':World} (h₀:Keeps S w₀ w) (h:Keeps (fun k=>S k∨w₀.heap.size≤k) w w'):Keeps S w₀ w':=
 ⟨h.os.trans h₀.os,h.tape.trans h₀.tape,h.output.trans h₀.output,Nat.le_trans h₀.size h.size,
  fun i hi hn=>(h.block i (Nat.lt_of_lt_of_le hi h₀.size) (by rintro (hs | hs);exact hn hs;omega)).trans (h₀.block i hi hn)⟩
theorem Keeps.then {S T:Nat→Prop} {w₀ w w':World} (h₀:Keeps S w₀ w) (h:Keeps T w w') (hT:∀ k,T k→S k∨w₀.heap.size≤k):Keeps S w₀ w':=
 h₀.from (h.mono fun k _ hk=>hT k hk)
end
section
open Go.RowKit
theorem Blk.setRow {w:World} {b:Nat} {c:List Value} {T:TypeId} (h:Blk w b c T) (d:List Value):Blk (w.setRow b d.toArray) b d T:=
 setRow_heap w b _ _ T _ h
theorem heap_setRow_other (w:World) (g k:Nat) (cs:Array Value) (h:k≠g):(w.setRow g cs).heap[k]? = w.heap[k]? := by
 unfold World.setRow
 simp only [Array.getElem?_modify]
 rw [if_neg (fun e=>h e.symm)]
theorem size_setRow (w:World) (g:Nat) (cs:Array Value):(w.setRow g cs).heap.size=w.heap.size:=by simp [World.setRow]
theorem Blk.setRowOther {w:World} {b:Nat} {c:List Value} {T:TypeId} (h:Blk w b c T) {g:Nat} (hn:b≠g) (cs:Array Value):Blk (w.setRow g cs) b c T:=by
 unfold Blk at *
 rw [heap_setRow_other _ _ _ _ hn];exact h
theorem Keeps.setRow {S:Nat→Prop} {w w':World} (h:Keeps S w w') {g:Nat} (hp:S g∨w.heap.size≤g) (cs:Array Value):Keeps S w (w'.setRow g cs):=by
 refine ⟨h.os,h.tape,h.output,by rw [size_setRow];exact h.size,fun k hk hn=>?_⟩
 rw [heap_setRow_other _ _ _ _ (by rintro rfl;rcases hp with hp | hp;exact hn hp;omega)]
 exact h.block k hk hn
theorem madeCells_one (z:Value) (hz:z.cells=#[z]) (n:Nat):madeCells z.cells n=(List.replicate n z).toArray:=by
 rw [hz]
 apply Array.ext
 ·simp [size_madeCells]
 ·intro i h1 h2
  simp [madeCells,Nat.mod_one]
theorem zeroCells_one (z:Value) (hz:z.cells=#[z]) (n:Nat):Builtin.zeroCells z.cells n=(List.replicate n z).toArray:=by
 rw [hz]
 apply Array.ext
 ·simp [Builtin.zeroCells]
 ·intro i h1 h2
  simp [Builtin.zeroCells,Nat.mod_one]
theorem run_make_one {P:Program} (w:World) (t e:TypeId) (i:TypeInfo) (z:Value) (ht:P.underlying t=some (.slice e)) (hi:P.info? e=some i) (hz:i.zero=some z) (hc:z.cells=#[z]) (hs:i.size=1)
  (n:Nat) (hbytes:i.bytes*n≤281474976710656) (h63:n≤9223372036854775807) :
  (Instr.makeSlice t (.int .i64 n) (.int .i64 n)).run P w=.ok (.slice (some ⟨w.heap.size,0,none⟩) n n) (w.alloc (.cells (List.replicate n z).toArray e)):=by
 have hb':(i.bytes:Int)*(n:Int)≤281474976710656:=by
  have h:((i.bytes*n:Nat):Int)≤281474976710656:=by omega
  rwa [Int.natCast_mul] at h
 rw [run_make (P:=P) w t e i z ht hi hz .i64 .i64 n n (by omega) (Int.le_refl _) hb' (by omega)]
 simp only [Int.toNat_natCast,hs,Nat.mul_one]
 rw [madeCells_one z hc]
theorem run_clear_one {P:Program} (w:World) (t ty e:TypeId) (z:Value) (ht:P.underlying t=some (.slice e)) (hz:∀ w,(zeroValue e).run P w=.ok z w) (hc:z.cells=#[z]) (h1:z.oneCell'=true)
  (g n cap:Nat) (c:List Value) (hg:Blk w g c e) (hn:c.length=n) :
  (Builtin.clear_ #[t] ty #[.slice (some ⟨g,0,none⟩) n cap]).run P w=.ok (.tuple #[]) (w.setRow g (List.replicate n z).toArray):=by
 subst hn
 cases c with
 | nil=>
  have:w.setRow g (List.replicate 0 z).toArray=w:=by
   have:=setRow_self w g _ e (0,0) hg
   simpa using this
  simp only [List.length_nil]
  rw [this]
  simp [Builtin.clear_,run_underlying ht]
 | cons a l=>
  have hst:=run_storeCells_at P g 0 e (List.replicate (l.length+1) z) 0 (a :: l).toArray w hg (by simp) (by intro v hv;rw [(List.mem_replicate.1 hv).2];exact h1)
  simp only [Nat.add_zero,List.take_zero,List.nil_append,Nat.zero_add,List.length_replicate] at hst
  simp only [List.length_cons]
  have hd:List.drop (l.length+1) (a :: l)=[]:=by simp
  simp only [List.toList_toArray,hd,List.append_nil] at hst
  simp [Builtin.clear_,run_underlying ht,hz,zeroCells_one z hc,hst]
def Rd (w:World) (ao:Option Addr) (xs:List Value):Prop:=
 xs≠[]→∃ g o,ao=some ⟨g,o,none⟩∧g<w.heap.size∧∀ j,j<xs.length→w.cell? ⟨g,o+j,none⟩=xs[j]?
theorem Rd.nil (w:World) (ao:Option Addr):Rd w ao []:=fun h=>(h rfl).elim
theorem Rd.keep {w w':World} {ao:Option Addr} {xs:List Value} {S:Nat→Prop} (h:Rd w ao xs) (k:Keeps S w w') (hn:∀ a,ao=some a→a.block<w.heap.size→¬ S a.block):Rd w' ao xs:=by
 intro hx
 obtain ⟨g,o,rfl,hg,hc⟩:=h hx
 refine ⟨g,o,rfl,Nat.lt_of_lt_of_le hg k.size,fun j hj=>?_⟩
 rw [←hc j hj]
 exact World.cell?_of_block (w:=w) (a:=⟨g,o+j,none⟩) (k.block g hg (hn _ rfl hg))
theorem Rd.blk {w:World} {g:Nat} {c:List Value} {T:TypeId} (h:Blk w g c T) (o:Nat) (xs:List Value) (hx:(c.drop o).take xs.length=xs):Rd w (some ⟨g,o,none⟩) xs:=by
 intro _
 refine ⟨g,o,rfl,h.lt,fun j hj=>?_⟩
 rw [h.cell]
 have:((c.drop o).take xs.length)[j]? = xs[j]? := by rw [hx]
 rw [←this,List.getElem?_take,if_pos hj,List.getElem?_drop]
theorem Rd.int {w:World} {ao:Option Addr} {k:IntKind} {l:List Int} (h:Rd w ao (l.map (Value.int k))) (i:Nat) (hi:i<l.length) :
  ∃ g o,ao=some ⟨g,o,none⟩∧w.cell? ⟨g,o+i,none⟩=some (.int k (l.getD i 0)):=by
 obtain ⟨g,o,rfl,_,hc⟩:=h (by intro e;simp at e;subst e;simp at hi)
 refine ⟨g,o,rfl,?_⟩
 rw [hc i (by simpa using hi)]
 simp [List.getD,hi]
def ownB (v:Value) (k:Nat):Prop:=v.ownBlock=some k
def Sl (w:World) (e size:Nat) (v:Value) (n:Nat) (xs:List Value):Prop:=
 xs.length=n*size∧((v=.slice none 0 0∧n=0) ∨
  ∃ g o cap cur,v=.slice (some ⟨g,o,none⟩) n cap∧Blk w g cur e∧n≤cap∧cap≤maxLen∧o+cap*size≤cur.length∧(cur.drop o).take (n*size)=xs)
theorem Sl.nil (w:World) (e size:Nat):Sl w e size (.slice none 0 0) 0 []:=⟨by simp, .inl ⟨rfl,rfl⟩⟩
theorem Sl.own {w:World} {e size:Nat} {v:Value} {n:Nat} {xs:List Value} (h:Sl w e size v n xs) {k:Nat} (hk:ownB v k):k<w.heap.size∧∃ cur,Blk w k cur e:=by
 obtain ⟨_,⟨rfl,_⟩ | ⟨g,o,cap,cur,rfl,hb,_⟩⟩:=h
 ·simp [ownB,Value.ownBlock] at hk
 ·simp [ownB,Value.ownBlock] at hk;subst hk;exact ⟨hb.lt,_,hb⟩
theorem Sl.keep {w w':World} {e size:Nat} {v:Value} {n:Nat} {xs:List Value} {S:Nat→Prop} (h:Sl w e size v n xs) (k:Keeps S w w') (hn:∀ g,ownB v g→¬ S g):Sl w' e size v n xs:=by
 refine ⟨h.1,?_⟩
 rcases h.2 with h | ⟨g,o,cap,cur,rfl,hb,r⟩
 ·exact .inl h
 ·exact .inr ⟨g,o,cap,cur,rfl,k.blk hb (hn g rfl),r⟩
theorem Sl.rd {w:World} {e size:Nat} {v:Value} {n:Nat} {xs:List Value} (h:Sl w e size v n xs):∃ ao cap,v=.slice ao n cap∧Rd w ao xs∧n≤maxLen∧n≤cap:=by
 obtain ⟨hl,⟨rfl,rfl⟩ | ⟨g,o,cap,cur,rfl,hb,h1,h2,h3,h4⟩⟩:=h
 ·refine ⟨none,0,rfl,?_,Nat.zero_le _,Nat.le_refl _⟩
  have:xs=[]:=by simpa using hl
  subst this;exact Rd.nil _ _
 ·exact ⟨_,cap,rfl,Rd.blk hb o xs (by rw [hl];exact h4),Nat.le_trans h1 h2,h1⟩
theorem Sl.len {w:World} {e size:Nat} {v:Value} {n:Nat} {xs:List Value} (h:Sl w e size v n xs):xs.length=n*size:=h.1
theorem addr_add (g o j:Nat):(⟨g,o,none⟩:Addr).add j=⟨g,o+j,none⟩:=by unfold Addr.add;split <;> simp_all
theorem run_app {P:Program} (w:World) (t ty e:TypeId) (i:TypeInfo) (z:Value) (size bytes:Nat) (ht:P.underlying t=some (.slice e)) (hi:P.info? e=some i) (hz:i.zero=some z)
  (hsize:i.size=size) (hby:i.bytes=bytes) (hzs:z.cells.size=size) (hsz:0<size)
  (v:Value) (n:Nat) (xs:List Value) (hs:Sl w e size v n xs)
  (a:Addr) (m c:Nat) (news:List Value) (hl:news.length=m*size) (hnews:∀ j u,news[j]? = some u→w.cell? (a.add j)=some u) (h1:∀ u ∈ news,u.oneCell'=true)
  (h63:n+m≤maxLen) (hbytes:(n+m)*bytes≤140737488355328) :
  ∃ v' w',(Builtin.append_ #[t,t] ty #[v, .slice (some a) m c]).run P w=.ok v' w'∧Sl w' e size v' (n+m) (xs ++ news)∧Keeps (ownB v) w w'∧(∀ k,ownB v' k→ownB v k∨w.heap.size≤k):=by
 subst hsize
 subst hby
 obtain ⟨hxl,hv⟩:=hs
 have hlen:(xs ++ news).length=(n+m)*i.size:=by rw [List.length_append,hxl,hl,Nat.add_mul]
 have h63':n+m≤9223372036854775807:=by simpa [maxLen] using h63
 have grown:∀ (old:Nat) (S:Nat→Prop),
   Sl (w.drew.alloc (.cells (xs.toArray ++ news.toArray ++ Builtin.zeroCells z.cells (grownCap w (n+m) old e-(n+m))) e)) e i.size (.slice (some ⟨w.heap.size,0,none⟩) (n+m) (grownCap w (n+m) old e)) (n+m) (xs ++ news) ∧
   Keeps S w (w.drew.alloc (.cells (xs.toArray ++ news.toArray ++ Builtin.zeroCells z.cells (grownCap w (n+m) old e-(n+m))) e)):=by
  intro old S
  have hge:=grownCap_ge w (n+m) old e
  have hcm:grownCap w (n+m) old e≤maxLen:=grownCap_le_maxLen w (n+m) old e h63
  refine ⟨⟨hlen, .inr ⟨w.heap.size,0,_,_,rfl,Blk.newAt _ rfl rfl,hge,hcm,?_,?_⟩⟩,((Keeps.refl _ _).drew).alloc _⟩
  ·simp only [Array.length_toList,Array.size_append,List.size_toArray,size_zeroCells,hzs,hxl,hl,←Nat.add_mul,Nat.zero_add]
   apply Nat.mul_le_mul_right
   omega
  ·simp only [Array.toList_append,List.append_assoc,List.drop_zero]
   rw [←List.append_assoc,←hlen]
   exact List.take_left
 rcases hv with ⟨rfl,rfl⟩ | ⟨g,o,cap,cur,rfl,hb,hnc,hcm,hoc,hx⟩
 ·have hx:xs=[]:=List.eq_nil_of_length_eq_zero (by simpa using hxl)
  subst hx
  by_cases hm:m=0
  ·subst hm
   have hn:news=[]:=List.eq_nil_of_length_eq_zero (by simpa using hl)
   subst hn
   refine ⟨.slice none 0 0,w,?_,Sl.nil _ _ _,Keeps.refl _ _,fun k hk=>.inl hk⟩
   simp [Builtin.append_,run_underlying ht,sizeOf,typeInfo,hi,Builtin.lenOf,Builtin.firstCells,loadCells,loadCellsFrom]
  ·have hr:=run_append_nil (P:=P) w t ty e i z ht hi hz a m c news hl hnews (by omega) (by omega) (by have hb:=hbytes;simp only [Nat.zero_add] at hb;omega)
   have hgr:=grown 0 (ownB (.slice none 0 0))
   simp only [Nat.zero_add,List.nil_append,Array.empty_append] at hgr ⊢
   refine ⟨_,_,hr,hgr.1,hgr.2,fun k hk=>.inr ?_⟩
   simp [ownB,Value.ownBlock] at hk
   omega
 ·by_cases hr:n+m≤cap
  ·have hf:=run_firstCells_some (P:=P) w i.size m a m c news hl hnews
   have hfit:o+n*i.size+news.length≤cur.length:=by
    have:(n+m)*i.size≤cap*i.size:=Nat.mul_le_mul_right _ hr
    rw [Nat.add_mul] at this
    omega
   have hst:=run_storeCells_at P g (o+n*i.size) e news 0 cur.toArray w hb (by simpa using hfit) h1
   simp only [Nat.add_zero] at hst
   refine ⟨.slice (some ⟨g,o,none⟩) (n+m) cap,w.setRow g (cur.take (o+n*i.size) ++ news ++ cur.drop (o+n*i.size+news.length)).toArray,?_,?_,?_,?_⟩
   ·simp [Builtin.append_,run_underlying ht,sizeOf,typeInfo,hi,Builtin.lenOf,hr,hf,addr_add,hst]
   ·refine ⟨hlen, .inr ⟨g,o,cap,_,rfl,Blk.setRow hb _,hr,hcm,?_,?_⟩⟩
    ·simp
     omega
    ·have h1:(cur.take (o+n*i.size) ++ news ++ cur.drop (o+n*i.size+news.length)).drop o=(cur.drop o).take (n*i.size) ++ news ++ cur.drop (o+n*i.size+news.length):=by
      rw [List.append_assoc,List.drop_append_of_le_length (by simp;omega),List.drop_take,←List.append_assoc]
      congr 3
      omega
     rw [h1,hx,←hlen,List.take_append_of_le_length (by simp),List.take_length]
   ·exact (Keeps.refl (ownB (.slice (some ⟨g,o,none⟩) n cap)) w).setRow (g:=g) (.inl rfl) _
   ·intro k hk;exact .inl hk
  ·have holds:∀ j u,xs[j]? = some u→w.cell? ((⟨g,o,none⟩:Addr).add j)=some u:=by
    intro j u hu
    have:=(List.getElem?_eq_some_iff.1 hu).1
    rw [addr_add,hb.cell,←hu,←hx,List.getElem?_take,List.getElem?_drop,if_pos (by omega)]
   have hr:=run_append_grow (P:=P) w t ty e i z ht hi hz ⟨g,o,none⟩ n cap xs hxl holds a m c news hl hnews (by omega) (by omega) (growslice_fits (by omega) hbytes)
   have hgr:=grown cap (ownB (.slice (some ⟨g,o,none⟩) n cap))
   refine ⟨_,_,hr,hgr.1,hgr.2,fun k hk=>.inr ?_⟩
   simp [ownB,Value.ownBlock] at hk
   omega
theorem wpList_app {P:Program} {w:World} {ops:Array Oper} {rest:List Oper} {o:Oper} {a:Act} {Q:Exit→Act→World→Prop} (hgd:o.guard=none) (s x:Operand) (t:TypeId)
  (ho:o.op=.call { callee:=.builtin .append,args:=#[s,x],argTypes:=#[t,t] })
  (e:TypeId) (i:TypeInfo) (z:Value) (size bytes:Nat) (ht:P.underlying t=some (.slice e)) (hi:P.info? e=some i) (hz:i.zero=some z)
  (hsize:i.size=size) (hby:i.bytes=bytes) (hzs:z.cells.size=size) (hsz:0<size)
  (v:Value) (n:Nat) (xs:List Value) (hs:a.eval s=v) (hown:Sl w e size v n xs)
  (ad:Addr) (m c:Nat) (news:List Value) (hx:a.eval x=.slice (some ad) m c) (hl:news.length=m*size) (hnews:∀ j u,news[j]? = some u→w.cell? (ad.add j)=some u) (h1:∀ u ∈ news,u.oneCell'=true)
  (h63:n+m≤maxLen) (hbytes:(n+m)*bytes≤140737488355328)
  (h:∀ v' w',Sl w' e size v' (n+m) (xs ++ news)→Keeps (ownB v) w w'→(∀ k,ownB v' k→ownB v k∨w.heap.size≤k)→wpList P ops Q rest (a.put o.dst v') w'):wpList P ops Q (o :: rest) a w:=by
 refine wpList_plain hgd fun _ hK=>?_
 obtain ⟨v',w',hr,h2,h3,h4⟩:=run_app (P:=P) w t o.type e i z size bytes ht hi hz hsize hby hzs hsz v n xs hown ad m c news hl hnews h1 h63 hbytes
 unfold Oper.wp execOp
 simp only [ho,resolve,invoke,builtin,Sem.run_bind,Sem.run_pure,Result.andThen_ok,List.map_toArray,List.map_cons,List.map_nil,hs,hx,hr]
 exact hK _ _ (h v' w' h2 h3 h4)
theorem news_at (w:World) (T:TypeId) (a:Array Value):∀ (j:Nat) (u:Value),a.toList[j]? = some u→(w.alloc (.cells a T)).cell? ((⟨w.heap.size,0,none⟩:Addr).add j)=some u:=by
 intro j u h
 rw [addr_add,(Blk.newAt (w:=w) (T:=T) a rfl rfl).cell,Nat.zero_add]
 exact h
theorem run_clear_at {P:Program} (w:World) (t ty e:TypeId) (z:Value) (ht:P.underlying t=some (.slice e)) (hz:∀ w,(zeroValue e).run P w=.ok z w) (h1:∀ u ∈ z.cells,u.oneCell'=true) (hpos:0<z.cells.size)
  (g o n cap:Nat) (cur:List Value) (hb:Blk w g cur e) (hfit:o+n*z.cells.size≤cur.length) :
  ∃ zs:List Value,zs.length=n*z.cells.size∧(Builtin.clear_ #[t] ty #[.slice (some ⟨g,o,none⟩) n cap]).run P w=.ok (.tuple #[]) (w.setRow g (cur.take o ++ zs ++ cur.drop (o+zs.length)).toArray):=by
 refine ⟨(Builtin.zeroCells z.cells n).toList,by simp [size_zeroCells],?_⟩
 cases n with
 | zero=>
  have hz0:(Builtin.zeroCells z.cells 0).toList=[]:=by simp [Builtin.zeroCells]
  have:w.setRow g (cur.take o ++ [] ++ cur.drop (o+0)).toArray=w:=by
   have:=setRow_self w g _ e (0,0) hb
   simpa using this
  rw [hz0]
  simp only [List.length_nil]
  rw [this]
  simp [Builtin.clear_,run_underlying ht]
 | succ n=>
  have hlen:(Builtin.zeroCells z.cells (n+1)).toList.length=(n+1)*z.cells.size:=by simp [size_zeroCells]
  have hst:=run_storeCells_at P g o e (Builtin.zeroCells z.cells (n+1)).toList 0 cur.toArray w hb (by simp only [Nat.add_zero,hlen,List.size_toArray];exact hfit) (by
   intro v hv
   simp only [Builtin.zeroCells,Array.toList_map,List.mem_map] at hv
   obtain ⟨i,_,rfl⟩:=hv
   apply h1
   have hm:i%z.cells.size<z.cells.size:=Nat.mod_lt _ hpos
   rw [getElem!_pos z.cells _ hm]
   exact Array.getElem_mem hm)
  simp only [Nat.add_zero] at hst
  simp [Builtin.clear_,run_underlying ht,hz,hst]
end
section
open Go.RowKit Go.ChangeShapes Go.WideShapes Go.Deep Go.Joins
theorem Rd.of_cells {w:World} {a:Addr} {xs:List Value} (h:∀ j u,xs[j]? = some u→w.cell? (a.add j)=some u):Rd w (some a) xs:=by
 intro hx
 have hl:0<xs.length:=by cases xs with | nil=>exact (hx rfl).elim | cons _ _=>simp
 obtain ⟨b,off,spot⟩:=a
 have h0:=h 0 xs[0] (by simp [hl])
 have hspot:spot=none:=by simpa [Addr.add] using World.cell?_spot h0
 subst hspot
 refine ⟨b,off,rfl,World.block_lt_of_cell? _ _ h0,fun j hj=>?_⟩
 have:=h j xs[j] (by simp [hj])
 rw [addr_add] at this
 rw [this];simp [hj]
theorem i64_bounds {n:Int} (h:(Lit.int .i64 n).wf=true):-9223372036854775808≤n∧n≤9223372036854775807:=by
 simp [Lit.wf,IntKind.min,IntKind.max,IntKind.bits,IntKind.signed] at h;omega
section
variable {H:Type} {enc:TypeId × Value→H} {P:Program} {w:World} {base:Nat} {spare:Nat→Bool} {held:Bool}
def I64 (c:Value):Prop:=∃ n:Int,c=.int .i64 n∧-9223372036854775808≤n∧n≤9223372036854775807
def Flat (enc:TypeId × Value→H) (P:Program) (w:World) (base:Nat) (spare:Nat→Bool) (held:Bool) (e:TypeId):Prop:=
 ∀ fuel cs x,DataW.trod enc P w base spare held fuel e cs=some x→cs.length=P.cellsOf e∧∀ c ∈ cs,I64 c
theorem flat_int {e:TypeId} (he:P.underlying e=some (.int .i64)) (hC:P.cellsOf e=1):Flat enc P w base spare held e:=by
 intro fuel cs x h
 obtain ⟨n,rfl,_,hn⟩:=DataW.trod_int he h
 refine ⟨by simp [hC],?_⟩
 intro c hc
 simp at hc;subst hc
 exact ⟨n,rfl,i64_bounds hn⟩
def covers (P:Program) (e:TypeId) (fs:Array Field):Bool:=
 (List.range (P.cellsOf e)).all fun j=>fs.toList.any fun f=>decide (f.offset≤j) && decide (j<f.offset+P.cellsOf f.type)
theorem flat_struct {e:TypeId} {fs:Array Field} (he:P.underlying e=some (.struct fs)) (hcov:covers P e fs=true)
  (hf:∀ (i:Nat) (f:Field),fs[i]? = some f→Flat enc P w base spare held f.type):Flat enc P w base spare held e:=by
 intro fuel cs x h
 obtain ⟨ys,n,_,hy,hlen,hyl,hg⟩:=DataW.trod_struct he h
 refine ⟨hlen,?_⟩
 intro c hc
 obtain ⟨j,hj,rfl⟩:=List.getElem_of_mem hc
 have hcj:=List.all_eq_true.1 hcov j (List.mem_range.2 (by omega))
 obtain ⟨f,hfm,hfj⟩:=List.any_eq_true.1 hcj
 simp only [Bool.and_eq_true,decide_eq_true_eq] at hfj
 obtain ⟨i,hi,hif⟩:=List.getElem_of_mem hfm
 have hfi:fs[i]? = some f:=by
  rw [←Array.getElem?_toList,List.getElem?_eq_getElem hi,hif]
 have h1:=hg i f hfi
 have hys:ys[i]? = some (ys[i]'(by rw [hyl];simpa using hi)):=List.getElem?_eq_getElem _
 rw [hys] at h1
 have h2:=(hf i f hfi n _ _ h1).2
 refine h2 _ ?_
 rw [List.mem_iff_getElem?]
 refine ⟨j-f.offset,?_⟩
 rw [List.getElem?_take,if_pos (by omega),List.getElem?_drop,show f.offset+(j-f.offset)=j by omega]
 simp [hj]
theorem flat_array {t e:TypeId} {k:Nat} (ht:P.underlying t=some (.array k e)) (hC:P.cellsOf t=k*P.cellsOf e) (he:Flat enc P w base spare held e):Flat enc P w base spare held t:=by
 intro fuel cs x h
 obtain ⟨ys,n,_,hy,hlen,hyl,hg⟩:=DataW.trod_array ht h
 refine ⟨hlen,?_⟩
 intro c hc
 obtain ⟨j,hj,rfl⟩:=List.getElem_of_mem hc
 rw [hlen,hC] at hj
 have hpos:0<P.cellsOf e:=by
  apply Nat.pos_of_ne_zero;intro h0;rw [h0] at hj;simp at hj
 have hi:j/P.cellsOf e<k:=Nat.div_lt_of_lt_mul (by rwa [Nat.mul_comm] at hj)
 have h1:=hg _ hi
 have hys:ys[j/P.cellsOf e]? = some (ys[j/P.cellsOf e]'(by omega)):=List.getElem?_eq_getElem _
 rw [hys] at h1
 have h2:=(he n _ _ h1).2
 refine h2 _ ?_
 rw [List.mem_iff_getElem?]
 refine ⟨j%P.cellsOf e,?_⟩
 rw [List.getElem?_take,if_pos (Nat.mod_lt _ hpos),List.getElem?_drop,Nat.mul_comm,Nat.div_add_mod]
 simp
theorem arg_flat {r:Reach} {b0:Nat} {t e:TypeId} {C:Nat} {v:Value} {d:DataW H} {p:List MemPlace} (ht:P.underlying t=some (.slice e)) (hC:P.cellsOf e=C) (hpos:0<C) (he:Flat enc P w base spare held e)
  (hv:Value.okWide P w r b0 t v) (h:DataW.Trod enc P w base spare held t v d p) :
  ∃ (ao:Option Addr) (cap n:Nat) (xs:List Value),v=.slice ao n cap∧xs.length=n*C∧Rd w ao xs∧n≤maxLen∧∀ c ∈ xs,I64 c:=by
 obtain ⟨a0,len0,cap0,rfl⟩:=okWide_slice ht hv
 obtain ⟨fuel,hf⟩:=h
 rcases open_slice ht hf with ⟨hcs,_⟩ | ⟨a,l,c,m,n,D,Pl,hcs,_,hl,hm,hmm,_,hi⟩
 ·simp [Value.cells] at hcs
  obtain ⟨rfl,rfl,rfl⟩:=hcs
  exact ⟨none,0,0,[],rfl,by simp,Rd.nil _ _,Nat.zero_le _,by simp⟩
 ·simp [Value.cells] at hcs
  obtain ⟨rfl,rfl,rfl⟩:=hcs
  have hle:len0≤m:=by rw [hmm];split <;> omega
  have key:∀ j,j<len0*C→∃ u,w.cell? (a.add j)=some u∧I64 u:=by
   intro j hj
   have hi':j/C<len0:=Nat.div_lt_of_lt_mul (by rwa [Nat.mul_comm] at hj)
   obtain ⟨cs',h1,h2⟩:=hi (j/C) (by omega)
   obtain ⟨hlen,hall⟩:=he _ _ _ h2
   obtain ⟨_,hcl,hat⟩:=World.cells?_some h1
   have hr:j%C<cs'.length:=by rw [hlen,hC];exact Nat.mod_lt _ hpos
   have:=hat (j%C) (by rw [hC];exact Nat.mod_lt _ hpos)
   rw [Go.Deep.add_add,hC,Nat.mul_comm,Nat.div_add_mod,List.getElem?_eq_getElem hr] at this
   exact ⟨_,this,hall _ (List.getElem_mem hr)⟩
  refine ⟨some a,cap0,len0,(List.range (len0*C)).map fun j=>(w.cell? (a.add j)).getD undef,rfl,by simp,?_,Nat.le_trans hl hm,?_⟩
  ·refine Rd.of_cells ?_
   intro j u hu
   simp only [List.getElem?_map,Option.map_eq_some_iff] at hu
   obtain ⟨j',hj',rfl⟩:=hu
   have hjl:=(List.getElem?_eq_some_iff.1 hj').1
   have:j=j':=by
    rw [List.getElem?_eq_getElem hjl] at hj'
    simpa using hj'
   subst this
   obtain ⟨u,hu,_⟩:=key j (by simpa using hjl)
   rw [hu];rfl
  ·intro c hc
   simp only [List.mem_map,List.mem_range] at hc
   obtain ⟨j,hj,rfl⟩:=hc
   obtain ⟨u,hu,h64⟩:=key j hj
   rw [hu];exact h64
theorem i64_list:∀ {xs:List Value},(∀ c ∈ xs,I64 c)→∃ l:List Int,xs=l.map (Value.int .i64)∧∀ x ∈ l,-9223372036854775808≤x∧x≤9223372036854775807
 | [],_=>⟨[],rfl,by simp⟩
 | c :: xs,h=>by
  obtain ⟨n,rfl,hn⟩:=h c (by simp)
  obtain ⟨l,rfl,hl⟩:=i64_list (xs:=xs) (fun c hc=>h c (List.mem_cons_of_mem _ hc))
  exact ⟨n :: l,rfl,by intro x hx;rcases List.mem_cons.1 hx with rfl | hx;exact hn;exact hl x hx⟩
theorem arg_ints {r:Reach} {b0:Nat} {t e:TypeId} {v:Value} {d:DataW H} {p:List MemPlace} (ht:P.underlying t=some (.slice e)) (he:P.underlying e=some (.int .i64)) (hC:P.cellsOf e=1)
  (hv:Value.okWide P w r b0 t v) (h:DataW.Trod enc P w base spare held t v d p) :
  ∃ (ao:Option Addr) (cap:Nat) (l:List Int),v=.slice ao l.length cap∧Rd w ao (l.map (Value.int .i64))∧l.length≤maxLen∧∀ x ∈ l,-9223372036854775808≤x∧x≤9223372036854775807:=by
 obtain ⟨ao,cap,n,xs,rfl,hl,hr,hm,h64⟩:=arg_flat ht hC (by omega) (flat_int he hC) hv h
 obtain ⟨l,rfl,hb⟩:=i64_list h64
 simp at hl;subst hl
 exact ⟨ao,cap,l,rfl,hr,hm,hb⟩
theorem arg_val2 {r:Reach} {b0:Nat} {t:TypeId} {f0 f1:Field} {v:Value} {d:DataW H} {p:List MemPlace} (hs:P.underlying t=some (.struct #[f0,f1])) (hone:oneCellFields P #[f0,f1]=true) (hC:P.cellsOf t=2)
  (h0:P.underlying f0.type=some (.int .i64)) (h1:P.underlying f1.type=some (.int .i64))
  (hv:Value.okWide P w r b0 t v) (h:DataW.Trod enc P w base spare held t v d p) :
  ∃ a:Int × Int,v=.agg #[.int .i64 a.1, .int .i64 a.2]∧(-9223372036854775808≤a.1∧a.1≤9223372036854775807)∧-9223372036854775808≤a.2∧a.2≤9223372036854775807:=by
 obtain ⟨c0,c1,y0,y1,m,rfl,_,_,hy0,hy1⟩:=open_agg2 hs hone hC hv h
 obtain ⟨a,ea,_,wa⟩:=DataW.trod_int h0 hy0
 obtain ⟨b,eb,_,wb⟩:=DataW.trod_int h1 hy1
 simp at ea eb
 subst ea;subst eb
 exact ⟨(a,b),rfl,i64_bounds wa,i64_bounds wb⟩
end
end
section
open Go.RowKit Go.ChangeShapes Go.WideShapes Go.ChangeAt Go.Joins
section
variable {H:Type} {enc:TypeId × Value→H} {P:Program} {w:World} {base:Nat} {spare:Nat→Bool} {held:Bool}
theorem arg_rows {r:Reach} {b0:Nat} {t e:TypeId} {C:Nat} {v:Value} {d:DataW H} {p:List MemPlace} (ht:P.underlying t=some (.slice e)) (hC:P.cellsOf e=C) (hpos:0<C) (he:Flat enc P w base spare held e)
  (hv:Value.okWide P w r b0 t v) (h:DataW.Trod enc P w base spare held t v d p) :
  ∃ (ao:Option Addr) (cap m:Nat) (l:List Int),v=.slice ao m cap∧Rd w ao (l.map (Value.int .i64))∧l.length=m*C∧m≤maxLen∧∀ x ∈ l,-9223372036854775808≤x∧x≤9223372036854775807:=by
 obtain ⟨ao,cap,n,xs,rfl,hl,hr,hm,h64⟩:=arg_flat ht hC hpos he hv h
 obtain ⟨l,rfl,hb⟩:=i64_list h64
 exact ⟨ao,cap,n,l,rfl,hr,by simpa using hl,hm,hb⟩
theorem slice_lt {r:Reach} {b n c:Nat} {t e:TypeId} {a:Addr} (ht:P.underlying t=some (.slice e)) (hv:Value.okWide P w r b t (.slice (some a) n c)):a.block<w.heap.size:=by
 simp only [Value.okWide,ht,Cell.okWide,Cell.ok] at hv
 obtain ⟨_,_,_,_,row,cells,hs,_⟩:=hv
 unfold World.shape? at hs
 cases hb:w.heap[a.block]? with
 | none=>rw [hb] at hs;simp at hs
 | some o=>exact (Array.getElem?_eq_some_iff.1 hb).1
end
end
section
open Go.RowKit
section
variable {P:Program} {ops:Array Oper} {md:Region.Mode} {G:World→Prop}
def gUpon (P:Program) (o:Oper) (a:Act) (K:Act→World→Prop):Result Next→Prop
 | .ok (.value v) w'=>K (a.put o.dst v) w'
 | .ok .skip w'=>K (a.put o.dst undef) w'
 | .ok (.enter f args) w'=>Calls P f args w' fun
   | .returned v,w''=>K (a.put o.dst v) w''
   | _,_=>False
 | _=>False
def gRun (P:Program) (o:Oper) (a:Act) (w:World) (K:Act→World→Prop):Prop:=gUpon P o a K ((execOp a.eval o).run P w)
def gOp (P:Program) (ops:Array Oper) (i:Nat) (K:Act→World→Prop) (a:Act) (w:World):Prop:=
 match ops[i]? with
 | none=>K a w
 | some o=>if Region.wanted o (yielded ops a.tmps)=true then gRun P o a w K else K (a.put o.dst undef) w
theorem gRun_mono {o:Oper} {a:Act} {w:World} {K K':Act→World→Prop} (h:∀ a w,K a w→K' a w) (hh:gRun P o a w K):gRun P o a w K':=by
 unfold gRun at *
 generalize (execOp a.eval o).run P w=r at *
 cases r with
 | ok n w'=>
  cases n <;> simp only [gUpon] at hh ⊢
  case value u=>exact h _ _ hh
  case skip=>exact h _ _ hh
  case enter f args=>exact hh.mono fun e w'' hq=>by cases e <;> first | exact h _ _ hq | exact hq
 | halt x w'=>exact hh
theorem gOp_mono {i:Nat} {a:Act} {w:World} {K K':Act→World→Prop} (h:∀ a w,K a w→K' a w) (hh:gOp P ops i K a w):gOp P ops i K' a w:=by
 unfold gOp at *
 split
 ·rename_i ho;simp only [ho] at hh;exact h _ _ hh
 ·rename_i o ho
  simp only [ho] at hh
  split
  ·rename_i hw;rw [if_pos hw] at hh;exact gRun_mono h hh
  ·rename_i hw;rw [if_neg hw] at hh;exact h _ _ hh
theorem wpOp_of_gOp {i:Nat} {a:Act} {w:World} {K:Act→World→Prop} {Q':Exit→Act→World→Prop} (hh:gOp P ops i K a w):wpOp P ops Q' i K a w:=by
 unfold gOp at hh
 unfold wpOp
 split
 ·rename_i ho;simp only [ho] at hh;exact hh
 ·rename_i o ho
  simp only [ho] at hh
  split
  ·rename_i hw
   rw [if_pos hw] at hh
   left
   unfold gRun at hh
   unfold Oper.wp
   generalize (execOp a.eval o).run P w=r at *
   cases r with
   | ok n w'=>
    cases n <;> simp only [gUpon] at hh <;> simp only [Oper.upon]
    case value u=>exact hh
    case skip=>exact hh
    case enter f args=>exact hh.mono fun e w'' hq=>by cases e <;> first | exact hq | exact hq.elim
   | halt x w'=>exact hh.elim
  ·rename_i hw;rw [if_neg hw] at hh;exact hh
def waitsT (md:Region.Mode) (ops:Array Oper):Nat→Nat→Nat→Bool
 | 0,_,_=>false
 | n+1,j,i=>match ops[j]? with
  | none=>false
  | some o=>o.after.any fun e=>Region.binds md e && (e.on == i || waitsT md ops n e.on i)
def Shut (md:Region.Mode) (ops:Array Oper) (listed:Array Bool):Prop:=
 ∀ (j:Nat) (o:Oper),ops[j]? = some o→listed.getD j false=true→∀ e ∈ o.after,Region.binds md e=true→listed.getD e.on false=true
theorem Shut.waits {listed:Array Bool} (h:Shut md ops listed):∀ (n j i:Nat),(∃ o,ops[j]? = some o∧∀ e ∈ o.after,Region.binds md e=true→listed.getD e.on false=true)→waitsT md ops n j i=true→listed.getD i false=true
 | 0,_,_,_,hw=>by simp [waitsT] at hw
 | n+1,j,i,⟨o,ho,hall⟩,hw=>by
  simp only [waitsT,ho,Array.any_eq_true] at hw
  obtain ⟨k,hk,hb⟩:=hw
  simp only [Bool.and_eq_true,Bool.or_eq_true,beq_iff_eq] at hb
  have he:=hall _ (Array.getElem_mem hk) hb.1
  rcases hb.2 with e | e
  ·rw [←e];exact he
  ·refine h.waits n _ i ?_ e
   cases hx:ops[(o.after[k]).on]? with
   | none=>exfalso;cases n <;> simp [waitsT,hx] at e
   | some ox=>exact ⟨ox,rfl,h _ ox hx he⟩
theorem Shut.next {listed:Array Bool} (h:Shut md ops listed) {i:Nat} (hi:i ∈ Region.ready md ops listed):Shut md ops (listed.setIfInBounds i true):=by
 intro j o ho hl e he hb
 by_cases hji:j=i
 ·subst hji
  obtain ⟨_,o',ho',hall⟩:=mem_ready.1 hi
  rw [ho] at ho';cases ho'
  exact getD_set_true (hall e he hb)
 ·rw [getD_set_ne false (Ne.symm hji)] at hl
  exact getD_set_true (h j o ho hl e he hb)
def wpAnyG (P:Program) (md:Region.Mode) (ops:Array Oper) (z:List Nat) (G:World→Prop) (Q:Act→World→Prop):Nat→Array Bool→Act→World→Prop
 | 0,listed,a,w=>Region.ready md ops listed=[]∧Q a w
 | f+1,listed,a,w=>
  (Region.ready md ops listed=[]→Q a w) ∧
  ∀ i ∈ Region.ready md ops listed,gOp P ops i (fun a' w'=>(z.contains i=false→G w')∧wpAnyG P md ops z G Q f (listed.setIfInBounds i true) a' w') a w
theorem wpAny_of_G {z:List Nat} {Q:Act→World→Prop} {Q':Exit→Act→World→Prop} (hQ:∀ a w,Q a w→Q' .normal a w):∀ (f:Nat) (listed:Array Bool) (a:Act) (w:World),
  wpAnyG P md ops z G Q f listed a w→wpAny P md ops Q' f listed a w
 | 0,_,_,_,h=>⟨h.1,hQ _ _ h.2⟩
 | f+1,_,_,_,h=>⟨fun h0=>hQ _ _ (h.1 h0),fun i hi=>wpOp_of_gOp (gOp_mono (fun a w ⟨_,hk⟩=>wpAny_of_G hQ f _ a w hk) (h.2 i hi))⟩
def Gives (v:Value) (w:World) (r:Result Next):Prop:=r=.ok (.value v) w
theorem Gives.mk (v:Value) (w:World):Gives v w (.ok (.value v) w):=rfl
def YieldsG (P:Program) (ops:Array Oper) (G:World→Prop) (o:Oper) (v:Value) (a:Act):Prop:=
 (Region.wanted o (yielded ops a.tmps)=true∧∀ w,G w→Gives v w ((execOp a.eval o).run P w))∨(Region.wanted o (yielded ops a.tmps)=false∧v=undef)
theorem YieldsG.gOp {i:Nat} {o:Oper} {v:Value} {a:Act} {w:World} (hi:ops[i]? = some o) (hy:YieldsG P ops G o v a) (hw:G w) {K:Act→World→Prop} (h:K (a.put o.dst v) w):gOp P ops i K a w:=by
 unfold Go.Proofs.YtjifdalflepcoacGreat.gOp
 simp only [hi]
 rcases hy with ⟨hwt,hv⟩ | ⟨hwt,rfl⟩
 ·rw [if_pos hwt]
  unfold gRun
  rw [show (execOp a.eval o).run P w=_ from hv w hw]
  exact h
 ·rw [if_neg (by simp [hwt])];exact h
theorem gOp_put {j:Nat} {oi oj:Oper} {v:Value} (hj:ops[j]? = some oj) (hap:oi.apart ops oj=true)
  (hsi:∀ cs b,oi.op≠.select cs b) (hsj:∀ cs b,oj.op≠.select cs b) {K:Act→World→Prop} {a:Act} {w:World}
  (hy:YieldsG P ops G oi v a) (h:gOp P ops j K (a.put oi.dst v) w) :
  gOp P ops j (fun a' w'=>YieldsG P ops G oi v a'∧K (a'.put oi.dst v) w') a w:=by
 obtain ⟨h1,h2,h3⟩:=Oper.apart_spec hap
 have keep:∀ u,YieldsG P ops G oi v (a.put oj.dst u):=fun u=>by
  unfold YieldsG at *
  rw [execOp_put oi hsi a oj.dst u h3,wanted_put oi a oj.dst u h3]
  exact hy
 have com:∀ u,(a.put oi.dst v).put oj.dst u=(a.put oj.dst u).put oi.dst v:=fun u=>Act.put_comm a v u h2
 unfold gOp at *
 simp only [hj] at *
 rw [wanted_put oj a oi.dst v h1] at h
 split
 ·rename_i hw
  rw [if_pos hw] at h
  unfold gRun at *
  rw [execOp_put oj hsj a oi.dst v h1] at h
  generalize (execOp a.eval oj).run P w=r at *
  cases r with
  | ok n w'=>
   cases n <;> simp only [gUpon] at h ⊢
   case value u=>exact ⟨keep u,by rw [←com];exact h⟩
   case skip=>exact ⟨keep undef,by rw [←com];exact h⟩
   case enter f args=>
    refine h.mono fun e w'' hq=>?_
    cases e with
    | returned u=>exact ⟨keep u,by rw [←com];exact hq⟩
    | panicked _=>exact hq
    | outgrown=>exact hq
  | halt x w'=>exact h
 ·rename_i hw
  rw [if_neg hw] at h
  exact ⟨keep undef,by rw [←com];exact h⟩
theorem wpAnyG_first {z:List Nat} {Q:Act→World→Prop} {i:Nat} {oi:Oper} {v:Value} (hi:ops[i]? = some oi) (hsel:∀ (j:Nat) (o:Oper) cs b,ops[j]? = some o→o.op≠.select cs b)
  (hz:∀ j,z.contains j=true→waitsT md ops ops.size j i=true) :
  ∀ (fuel:Nat) (listed:Array Bool) (a:Act) (w:World),G w→Shut md ops listed →
   (∀ j oj,ops[j]? = some oj→j≠i→listed.getD j true=false→(∀ e ∈ oj.after,Region.binds md e=true→e.on≠i)→oi.apart ops oj=true) →
   i ∈ Region.ready md ops listed→YieldsG P ops G oi v a →
   wpAnyG P md ops z G Q fuel (listed.setIfInBounds i true) (a.put oi.dst v) w→wpAnyG P md ops z G Q (fuel+1) listed a w:=by
 intro fuel
 induction fuel with
 | zero=>
  intro listed a w hG hS _ hr hy H
  refine ⟨fun h=>(by rw [h] at hr;cases hr),fun j hj=>?_⟩
  by_cases hji:j=i
  ·subst hji;exact hy.gOp hi hG ⟨fun _=>hG,H⟩
  ·have:=ready_mono hj hji
   rw [H.1] at this
   cases this
 | succ fuel ih=>
  intro listed a w hG hS hfree hr hy H
  refine ⟨fun h=>(by rw [h] at hr;cases hr),fun j hj=>?_⟩
  by_cases hji:j=i
  ·subst hji;exact hy.gOp hi hG ⟨fun _=>hG,H⟩
  ·have h1:=H.2 j (ready_mono hj hji)
   obtain ⟨hjun,oj,hoj,hall⟩:=mem_ready.1 hj
   have hin:listed.getD i false=false:=by
    have h0:=(mem_ready.1 hr).1
    rcases Nat.lt_or_ge i listed.size with h' | h'
    ·simp [h'] at h0 ⊢;exact h0
    ·simp [Array.getElem?_eq_none h'] at h0
   have hjz:z.contains j=false:=by
    cases hc:z.contains j
    ·rfl
    ·have:=hS.waits _ j i ⟨oj,hoj,hall⟩ (hz j hc)
     rw [hin] at this;cases this
   have hnot:∀ e ∈ oj.after,Region.binds md e=true→e.on≠i:=fun e he hb heq=>by
    have h1:=hall e he hb
    rw [heq,hin] at h1
    cases h1
   have h2:=gOp_put hoj (hfree j oj hoj hji hjun hnot) (fun cs b=>hsel i oi cs b hi) (fun cs b=>hsel j oj cs b hoj) hy h1
   have hfree':∀ k ok,ops[k]? = some ok→k≠i→(listed.setIfInBounds j true).getD k true=false →
     (∀ e ∈ ok.after,Region.binds md e=true→e.on≠i)→oi.apart ops ok=true:=fun k ok hk hki hun hno=>by
    refine hfree k ok hk hki ?_ hno
    by_cases hjk:j=k
    ·subst hjk;exact hjun
    ·rw [getD_set_ne true hjk] at hun;exact hun
   refine gOp_mono (fun a' w' ⟨hy',hG',h3⟩=>?_) h2
   refine ⟨fun _=>hG' hjz,ih (listed.setIfInBounds j true) a' w' (hG' hjz) (hS.next hj) hfree' (ready_mono hr (Ne.symm hji)) hy' ?_⟩
   rw [Array.setIfInBounds_comm _ _ hji]
   exact h3
def lateOf (ord:List (Nat × Nat)):List Nat:=(ord.filter fun p=>p.2 == 2).map (·.1)
def ordB (md:Region.Mode) (ops:Array Oper) (z:List Nat):List (Nat × Nat)→Array Bool→Bool
 | [],listed=>(Region.ready md ops listed).isEmpty
 | (i,k) :: r,listed=>
  (if k=0 then (Region.ready md ops listed).contains i && Region.free md ops listed i && z.all fun j=>waitsT md ops ops.size j i
  else Region.ready md ops listed == [i] && (k == 1 || z.contains i && r.all fun p=>p.2 != 0)) && ordB md ops z r (listed.setIfInBounds i true)
def wpOrd (P:Program) (ops:Array Oper) (z:List Nat) (G:World→Prop) (Q:Act→World→Prop):List (Nat × Nat)→Act→World→Prop
 | [],a,w=>Q a w
 | (i,0) :: r,a,w=>∃ o v,ops[i]? = some o∧YieldsG P ops G o v a∧wpOrd P ops z G Q r (a.put o.dst v) w
 | (i,k+1) :: r,a,w=>gOp P ops i (fun a' w'=>(k=0→G w')∧wpOrd P ops z G Q r a' w') a w
theorem wpAnyG_ord {z:List Nat} {Q:Act→World→Prop} (hs:Region.noSelect ops=true):∀ (ord:List (Nat × Nat)) (listed:Array Bool) (a:Act) (w:World),Shut md ops listed→(G w∨∀ p ∈ ord,p.2≠0) →
  ordB md ops z ord listed=true→wpOrd P ops z G Q ord a w→wpAnyG P md ops z G Q ord.length listed a w
 | [],_,_,_,_,_,hB,h=>⟨by simpa [ordB] using hB,h⟩
 | (i,0) :: r,listed,a,w,hS,hG,hB,h=>by
  have hG:G w:=by
   rcases hG with h | h
   ·exact h
   ·exact absurd rfl (h (i,0) (by simp))
  simp only [ordB,if_true,Bool.and_eq_true] at hB
  obtain ⟨⟨⟨hr,hf⟩,hz⟩,hB'⟩:=hB
  obtain ⟨o,v,ho,hy,hn⟩:=h
  have hr':i ∈ Region.ready md ops listed:=by simpa using hr
  refine wpAnyG_first ho (Region.noSelect_spec hs) (fun j hj=>?_) r.length listed a w hG hS (Region.free_spec ho hf) hr' hy ?_
  ·have:=List.all_eq_true.1 hz j (by simpa using hj)
   exact this
  ·exact wpAnyG_ord hs r _ _ w (hS.next hr') (.inl hG) hB' hn
 | (i,k+1) :: r,listed,a,w,hS,hG,hB,h=>by
  have h0:¬ (k+1=0):=by omega
  simp only [ordB,if_neg h0,Bool.and_eq_true] at hB
  obtain ⟨⟨hr,hk⟩,hB'⟩:=hB
  have hr1:Region.ready md ops listed=[i]:=by simpa using hr
  have hin:i ∈ Region.ready md ops listed:=by rw [hr1];simp
  refine ⟨(fun h0=>by rw [hr1] at h0;cases h0),fun j hj=>?_⟩
  rw [hr1] at hj
  obtain rfl:j=i:=by simpa using hj
  refine gOp_mono (fun a' w' ⟨hG',hn⟩=>?_) h
  by_cases hk0:k=0
  ·exact ⟨fun _=>hG' hk0,wpAnyG_ord hs r _ a' w' (hS.next hin) (.inl (hG' hk0)) hB' hn⟩
  ·have hk1:(k+1 == 1)=false:=by simpa using hk0
   simp only [hk1,Bool.false_or,Bool.and_eq_true] at hk
   refine ⟨(fun hz=>by rw [hk.1] at hz;cases hz),wpAnyG_ord hs r _ a' w' (hS.next hin) (.inr fun p hp=>?_) hB' hn⟩
   have:=List.all_eq_true.1 hk.2 p hp
   simpa using this
theorem wp_region_ord {id:Nat} {Q:Exit→Act→World→Prop} {a:Act} {w:World} {l:List Oper} (ord:List (Nat × Nat)) (G:World→Prop) (hm:P.follows .mixedOrders=true)
  (hB:(Region.noSelect l.toArray && ord.length == l.toArray.size && ordB .any l.toArray (lateOf ord) ord (Array.replicate l.toArray.size false))=true) (hG:G w.drew)
  (h:wpOrd P l.toArray (lateOf ord) G (fun a' w'=>Q .normal a' w') ord a w.drew):(Code.region id l.toArray true).wp P Q a w:=by
 simp only [Bool.and_eq_true,beq_iff_eq] at hB
 obtain ⟨⟨hs,hl⟩,hB⟩:=hB
 refine wp_region_any hm ?_
 have hshut:Shut .any l.toArray (Array.replicate l.toArray.size false):=by
  intro j o ho hx
  have h0:(Array.replicate l.toArray.size false).getD j false=false:=by
   rw [Array.getD_eq_getD_getElem?,Array.getElem?_replicate];split <;> rfl
  rw [h0] at hx;cases hx
 have:=wpAnyG_ord (z:=lateOf ord) (md:=.any) hs ord _ a w.drew hshut (.inl hG) hB h
 rw [hl] at this
 exact wpAny_of_G (fun _ _ h=>h) _ _ _ _ this
theorem wpOrd_pure {z:List Nat} {Q:Act→World→Prop} {i:Nat} {r:List (Nat × Nat)} {a:Act} {w:World} {o:Oper} (ho:ops[i]? = some o) (hw:Region.wanted o (yielded ops a.tmps)=true) (v:Value)
  (h:∀ w',G w'→Gives v w' ((execOp a.eval o).run P w')) (hn:∀ K:Act→Prop,(∀ a',wpOrd P ops z G Q r a' w→K a')→K (a.put o.dst v)):wpOrd P ops z G Q ((i,0) :: r) a w:=
 ⟨o,v,ho, .inl ⟨hw,h⟩,hn _ (fun _ h=>h)⟩
theorem wpOrd_run {z:List Nat} {Q:Act→World→Prop} {i:Nat} {r:List (Nat × Nat)} {a:Act} {w:World} {o:Oper} (ho:ops[i]? = some o) (hw:Region.wanted o (yielded ops a.tmps)=true)
  (h:∀ K:Act→World→Prop,(∀ a' w',G w'→wpOrd P ops z G Q r a' w'→K a' w')→gRun P o a w K):wpOrd P ops z G Q ((i,1) :: r) a w:=by
 show gOp P ops i _ a w
 unfold gOp
 simp only [ho,hw,if_true]
 exact h _ (fun a' w' hg hk=>⟨fun _=>hg,hk⟩)
theorem wpOrd_last {z:List Nat} {Q:Act→World→Prop} {i:Nat} {r:List (Nat × Nat)} {a:Act} {w:World} {o:Oper} (ho:ops[i]? = some o) (hw:Region.wanted o (yielded ops a.tmps)=true)
  (h:∀ K:Act→World→Prop,(∀ a' w',wpOrd P ops z G Q r a' w'→K a' w')→gRun P o a w K):wpOrd P ops z G Q ((i,2) :: r) a w:=by
 show gOp P ops i _ a w
 unfold gOp
 simp only [ho,hw,if_true]
 exact h _ (fun a' w' hk=>⟨(fun h=>by cases h),hk⟩)
theorem wpOrd_end {z:List Nat} {Q:Act→World→Prop} {a:Act} {w:World} (h:Q a w):wpOrd P ops z G Q [] a w:=h
theorem gRun_app {w:World} {o:Oper} {a:Act} {K:Act→World→Prop} (s x:Operand) (t:TypeId)
  (ho:o.op=.call { callee:=.builtin .append,args:=#[s,x],argTypes:=#[t,t] })
  (e:TypeId) (i:TypeInfo) (z:Value) (size bytes:Nat) (ht:P.underlying t=some (.slice e)) (hi:P.info? e=some i) (hz:i.zero=some z)
  (hsize:i.size=size) (hby:i.bytes=bytes) (hzs:z.cells.size=size) (hsz:0<size)
  (v:Value) (n:Nat) (xs:List Value) (hs:a.eval s=v) (hown:Sl w e size v n xs)
  (ad:Addr) (m c:Nat) (news:List Value) (hx:a.eval x=.slice (some ad) m c) (hl:news.length=m*size) (hnews:∀ j u,news[j]? = some u→w.cell? (ad.add j)=some u) (h1:∀ u ∈ news,u.oneCell'=true)
  (h63:n+m≤maxLen) (hbytes:(n+m)*bytes≤140737488355328)
  (h:∀ v' w',Sl w' e size v' (n+m) (xs ++ news)→Keeps (ownB v) w w'→(∀ k,ownB v' k→ownB v k∨w.heap.size≤k)→K (a.put o.dst v') w'):gRun P o a w K:=by
 obtain ⟨v',w',hr,h2,h3,h4⟩:=run_app (P:=P) w t o.type e i z size bytes ht hi hz hsize hby hzs hsz v n xs hown ad m c news hl hnews h1 h63 hbytes
 unfold gRun execOp
 simp only [ho,resolve,invoke,builtin,Sem.run_bind,Sem.run_pure,Result.andThen_ok,List.map_toArray,List.map_cons,List.map_nil,hs,hx,hr]
 exact h v' w' h2 h3 h4
end
end
section
open Go.RowKit
inductive RO where
 | fin
 | pure (i:Nat) (r:RO)
 | free (i:Nat) (r:RO)
 | base (i:Nat) (r:RO)
 | run (i:Nat) (r:RO)
 | two (i:Nat) (r:RO) (j:Nat) (s:RO)
 | swi (z:List Nat) (r:RO)
namespace RO
def size:RO→Nat
 | fin=>0
 | pure _ r=>r.size+1
 | free _ r=>r.size+1
 | base _ r=>r.size+1
 | run _ r=>r.size+1
 | two _ r _ _=>r.size+1
 | swi _ r=>r.size
def noPure:RO→Bool
 | fin=>true
 | pure _ _=>false
 | free _ r=>r.noPure
 | base _ r=>r.noPure
 | run _ r=>r.noPure
 | two _ r _ s=>r.noPure && s.noPure
 | swi _ _=>true
end RO
section
variable {P:Program} {ops:Array Oper} {md:Region.Mode}
def roB (md:Region.Mode) (ops:Array Oper):RO→List Nat→Array Bool→Bool
 | .fin,_,listed=>(Region.ready md ops listed).isEmpty
 | .pure i r,z,listed=>(Region.ready md ops listed).contains i && Region.free md ops listed i && (z.all fun j=>waitsT md ops ops.size j i) && roB md ops r z (listed.setIfInBounds i true)
 | .free i r,z,listed=>(Region.ready md ops listed).contains i && Region.free md ops listed i && roB md ops r z (listed.setIfInBounds i true)
 | .base i r,z,listed=>(Region.ready md ops listed).contains i && Region.free md ops listed i && roB md ops r z (listed.setIfInBounds i true)
 | .run i r,z,listed=>Region.ready md ops listed == [i] && (!z.contains i || r.noPure) && roB md ops r z (listed.setIfInBounds i true)
 | .two i r j s,z,listed=>Region.ready md ops listed == [i,j] && (!z.contains i || r.noPure) && (!z.contains j || s.noPure) && r.size == s.size && roB md ops r z (listed.setIfInBounds i true) && roB md ops s z (listed.setIfInBounds j true)
 | .swi z' r,z,listed=>((List.range ops.size).all fun k=>listed.getD k true || z.contains k) && roB md ops r z' listed
def roRaw (P:Program) (ops:Array Oper) (B:World→Prop) (Q:Act→World→Prop):RO→List Nat→(World→Prop)→Act→World→Prop
 | .fin,_,_,a,w=>Q a w
 | .pure i r,z,G,a,w=>∃ o v,ops[i]? = some o∧YieldsG P ops G o v a∧roRaw P ops B Q r z G (a.put o.dst v) w
 | .free i r,z,G,a,w=>∃ o v,ops[i]? = some o∧YieldsG P ops (fun _=>True) o v a∧roRaw P ops B Q r z G (a.put o.dst v) w
 | .base i r,z,G,a,w=>∃ o v,ops[i]? = some o∧YieldsG P ops B o v a∧roRaw P ops B Q r z G (a.put o.dst v) w
 | .run i r,z,G,a,w=>gOp P ops i (fun a' w'=>(B w→B w')∧(z.contains i=false→G w→G w')∧roRaw P ops B Q r z G a' w') a w
 | .two i r j s,z,G,a,w=>gOp P ops i (fun a' w'=>(B w→B w')∧(z.contains i=false→G w→G w')∧roRaw P ops B Q r z G a' w') a w∧gOp P ops j (fun a' w'=>(B w→B w')∧(z.contains j=false→G w→G w')∧roRaw P ops B Q s z G a' w') a w
 | .swi z' r,_,_,a,w=>∃ G':World→Prop,G' w∧roRaw P ops B Q r z' G' a w
def wpAnyH (P:Program) (md:Region.Mode) (ops:Array Oper) (B:World→Prop) (z:List Nat) (G:World→Prop) (Q:Act→World→Prop):Nat→Array Bool→Act→World→Prop
 | 0,listed,a,w=>Region.ready md ops listed=[]∧Q a w
 | f+1,listed,a,w=>
  (Region.ready md ops listed=[]→Q a w) ∧
  ∀ i ∈ Region.ready md ops listed,gOp P ops i (fun a' w'=>(B w→B w')∧(z.contains i=false→G w→G w')∧wpAnyH P md ops B z G Q f (listed.setIfInBounds i true) a' w') a w
variable {B:World→Prop}
theorem wpAny_of_H {z:List Nat} {G:World→Prop} {Q:Act→World→Prop} {Q':Exit→Act→World→Prop} (hQ:∀ a w,Q a w→Q' .normal a w):∀ (f:Nat) (listed:Array Bool) (a:Act) (w:World),
  wpAnyH P md ops B z G Q f listed a w→wpAny P md ops Q' f listed a w
 | 0,_,_,_,h=>⟨h.1,hQ _ _ h.2⟩
 | f+1,_,_,_,h=>⟨fun h0=>hQ _ _ (h.1 h0),fun i hi=>wpOp_of_gOp (gOp_mono (fun a w ⟨_,_,hk⟩=>wpAny_of_H hQ f _ a w hk) (h.2 i hi))⟩
theorem ready_lt {listed:Array Bool} {i:Nat} (hi:i ∈ Region.ready md ops listed):i<ops.size∧listed.getD i true=false:=by
 obtain ⟨hun,oi,hoi,_⟩:=mem_ready.1 hi
 refine ⟨?_,hun⟩
 rcases Nat.lt_or_ge i ops.size with h | h
 ·exact h
 ·rw [Array.getElem?_eq_none h] at hoi;cases hoi
theorem wpAnyH_swi {z z':List Nat} {G G':World→Prop} {Q:Act→World→Prop}:∀ (fuel:Nat) (listed:Array Bool) (a:Act) (w:World),
  (∀ k,k<ops.size→listed.getD k true=false→z.contains k=true)→wpAnyH P md ops B z' G' Q fuel listed a w→wpAnyH P md ops B z G Q fuel listed a w
 | 0,_,_,_,_,h=>h
 | f+1,listed,a,w,hz,h=>⟨h.1,fun i hi=>gOp_mono (fun a' w' ⟨hb,_,hk⟩=>by
   obtain ⟨hil,hun⟩:=ready_lt hi
   refine ⟨hb,fun hc=>?_,wpAnyH_swi f _ a' w' (fun k hk hl=>?_) hk⟩
   ·have:=hz i hil hun
    rw [hc] at this;cases this
   ·by_cases hki:i=k
    ·subst hki
     exact hz i hil hun
    ·rw [getD_set_ne true hki] at hl;exact hz k hk hl) (h.2 i hi)⟩
theorem wpAnyH_first {G Gy:World→Prop} {z:List Nat} {Q:Act→World→Prop} {i:Nat} {oi:Oper} {v:Value} (hi:ops[i]? = some oi) (hsel:∀ (j:Nat) (o:Oper) cs b,ops[j]? = some o→o.op≠.select cs b)
  (hz:(Gy=G∧∀ j,z.contains j=true→waitsT md ops ops.size j i=true)∨Gy=B∨∀ w,Gy w) :
  ∀ (fuel:Nat) (listed:Array Bool) (a:Act) (w:World),Gy w→Shut md ops listed →
   (∀ j oj,ops[j]? = some oj→j≠i→listed.getD j true=false→(∀ e ∈ oj.after,Region.binds md e=true→e.on≠i)→oi.apart ops oj=true) →
   i ∈ Region.ready md ops listed→YieldsG P ops Gy oi v a →
   wpAnyH P md ops B z G Q fuel (listed.setIfInBounds i true) (a.put oi.dst v) w→wpAnyH P md ops B z G Q (fuel+1) listed a w:=by
 intro fuel
 induction fuel with
 | zero=>
  intro listed a w hG hS _ hr hy H
  refine ⟨fun h=>(by rw [h] at hr;cases hr),fun j hj=>?_⟩
  by_cases hji:j=i
  ·subst hji
   exact hy.gOp hi hG ⟨fun h=>h,fun _ h=>h,H⟩
  ·have:=ready_mono hj hji
   rw [H.1] at this
   cases this
 | succ fuel ih=>
  intro listed a w hG hS hfree hr hy H
  refine ⟨fun h=>(by rw [h] at hr;cases hr),fun j hj=>?_⟩
  by_cases hji:j=i
  ·subst hji
   exact hy.gOp hi hG ⟨fun h=>h,fun _ h=>h,H⟩
  ·have h1:=H.2 j (ready_mono hj hji)
   obtain ⟨hjun,oj,hoj,hall⟩:=mem_ready.1 hj
   have hin:listed.getD i false=false:=by
    have h0:=(mem_ready.1 hr).1
    rcases Nat.lt_or_ge i listed.size with h' | h'
    ·simp [h'] at h0 ⊢;exact h0
    ·simp [Array.getElem?_eq_none h'] at h0
   have hnot:∀ e ∈ oj.after,Region.binds md e=true→e.on≠i:=fun e he hb heq=>by
    have h1:=hall e he hb
    rw [heq,hin] at h1
    cases h1
   have h2:=gOp_put hoj (hfree j oj hoj hji hjun hnot) (fun cs b=>hsel i oi cs b hi) (fun cs b=>hsel j oj cs b hoj) hy h1
   have hfree':∀ k ok,ops[k]? = some ok→k≠i→(listed.setIfInBounds j true).getD k true=false →
     (∀ e ∈ ok.after,Region.binds md e=true→e.on≠i)→oi.apart ops ok=true:=fun k ok hk hki hun hno=>by
    refine hfree k ok hk hki ?_ hno
    by_cases hjk:j=k
    ·subst hjk;exact hjun
    ·rw [getD_set_ne true hjk] at hun;exact hun
   refine gOp_mono (fun a' w' ⟨hy',hB',hG',h3⟩=>?_) h2
   refine ⟨hB',hG',ih (listed.setIfInBounds j true) a' w' ?_ (hS.next hj) hfree' (ready_mono hr (Ne.symm hji)) hy' ?_⟩
   ·rcases hz with ⟨rfl,hzz⟩ | rfl | h2
    ·refine hG' ?_ hG
     cases hc:z.contains j
     ·rfl
     ·have:=hS.waits _ j i ⟨oj,hoj,hall⟩ (hzz j hc)
      rw [hin] at this;cases this
    ·exact hB' hG
    ·exact h2 w'
   ·rw [Array.setIfInBounds_comm _ _ hji]
    exact h3
theorem wpAnyH_ro {Q:Act→World→Prop} (hs:Region.noSelect ops=true):∀ (t:RO) (z:List Nat) (G:World→Prop) (listed:Array Bool) (a:Act) (w:World),Shut md ops listed→B w→(G w∨t.noPure=true) →
  roB md ops t z listed=true→roRaw P ops B Q t z G a w→wpAnyH P md ops B z G Q t.size listed a w
 | .fin,_,_,_,_,_,_,_,_,hB,h=>⟨by simpa [roB] using hB,h⟩
 | .pure i r,z,G,listed,a,w,hS,hb,hG,hB,h=>by
  have hG:G w:=by
   rcases hG with h | h
   ·exact h
   ·simp [RO.noPure] at h
  simp only [roB,Bool.and_eq_true] at hB
  obtain ⟨⟨⟨hr,hf⟩,hz⟩,hB'⟩:=hB
  obtain ⟨o,v,ho,hy,hn⟩:=h
  have hr':i ∈ Region.ready md ops listed:=by simpa using hr
  refine wpAnyH_first ho (Region.noSelect_spec hs) (.inl ⟨rfl,fun j hj=>?_⟩) r.size listed a w hG hS (Region.free_spec ho hf) hr' hy ?_
  ·exact List.all_eq_true.1 hz j (by simpa using hj)
  ·exact wpAnyH_ro hs r z G _ _ w (hS.next hr') hb (.inl hG) hB' hn
 | .free i r,z,G,listed,a,w,hS,hb,hG,hB,h=>by
  simp only [roB,Bool.and_eq_true] at hB
  obtain ⟨⟨hr,hf⟩,hB'⟩:=hB
  obtain ⟨o,v,ho,hy,hn⟩:=h
  have hr':i ∈ Region.ready md ops listed:=by simpa using hr
  refine wpAnyH_first ho (Region.noSelect_spec hs) (.inr (.inr fun _=>trivial)) r.size listed a w trivial hS (Region.free_spec ho hf) hr' hy ?_
  exact wpAnyH_ro hs r z G _ _ w (hS.next hr') hb hG hB' hn
 | .base i r,z,G,listed,a,w,hS,hb,hG,hB,h=>by
  simp only [roB,Bool.and_eq_true] at hB
  obtain ⟨⟨hr,hf⟩,hB'⟩:=hB
  obtain ⟨o,v,ho,hy,hn⟩:=h
  have hr':i ∈ Region.ready md ops listed:=by simpa using hr
  refine wpAnyH_first ho (Region.noSelect_spec hs) (.inr (.inl rfl)) r.size listed a w hb hS (Region.free_spec ho hf) hr' hy ?_
  exact wpAnyH_ro hs r z G _ _ w (hS.next hr') hb hG hB' hn
 | .run i r,z,G,listed,a,w,hS,hb,hG,hB,h=>by
  simp only [roB,Bool.and_eq_true] at hB
  obtain ⟨⟨hr,hk⟩,hB'⟩:=hB
  have hr1:Region.ready md ops listed=[i]:=by simpa using hr
  have hin:i ∈ Region.ready md ops listed:=by rw [hr1];simp
  refine ⟨(fun h0=>by rw [hr1] at h0;cases h0),fun j hj=>?_⟩
  rw [hr1] at hj
  obtain rfl:j=i:=by simpa using hj
  refine gOp_mono (fun a' w' ⟨hb',hG',hn⟩=>⟨hb',hG',wpAnyH_ro hs r z G _ a' w' (hS.next hin) (hb' hb) ?_ hB' hn⟩) h
  cases hc:z.contains j
  ·rcases hG with hG | hG
   ·exact .inl (hG' hc hG)
   ·exact .inr hG
  ·rw [hc] at hk;exact .inr (by simpa using hk)
 | .two i r k s,z,G,listed,a,w,hS,hb,hG,hB,h=>by
  simp only [roB,Bool.and_eq_true,beq_iff_eq] at hB
  obtain ⟨⟨⟨⟨⟨hr,hki⟩,hkk⟩,hsz⟩,hB1⟩,hB2⟩:=hB
  have hr1:Region.ready md ops listed=[i,k]:=by simpa using hr
  refine ⟨(fun h0=>by rw [hr1] at h0;cases h0),fun j hj=>?_⟩
  have hin:j ∈ Region.ready md ops listed:=hj
  rw [hr1] at hj
  have hj:j=i∨j=k:=by simpa using hj
  rcases hj with rfl | rfl
  ·refine gOp_mono (fun a' w' ⟨hb',hG',hn⟩=>⟨hb',hG',wpAnyH_ro hs r z G _ a' w' (hS.next hin) (hb' hb) ?_ hB1 hn⟩) h.1
   cases hc:z.contains j
   ·rcases hG with hG | hG
    ·exact .inl (hG' hc hG)
    ·simp only [RO.noPure,Bool.and_eq_true] at hG;exact .inr hG.1
   ·rw [hc] at hki;exact .inr (by simpa using hki)
  ·show gOp P ops j (fun a' w'=>(B w→B w')∧(z.contains j=false→G w→G w')∧wpAnyH P md ops B z G Q r.size (listed.setIfInBounds j true) a' w') a w
   rw [hsz]
   refine gOp_mono (fun a' w' ⟨hb',hG',hn⟩=>⟨hb',hG',wpAnyH_ro hs s z G _ a' w' (hS.next hin) (hb' hb) ?_ hB2 hn⟩) h.2
   cases hc:z.contains j
   ·rcases hG with hG | hG
    ·exact .inl (hG' hc hG)
    ·simp only [RO.noPure,Bool.and_eq_true] at hG;exact .inr hG.2
   ·rw [hc] at hkk;exact .inr (by simpa using hkk)
 | .swi z' r,z,G,listed,a,w,hS,hb,hG,hB,h=>by
  simp only [roB,Bool.and_eq_true] at hB
  obtain ⟨hz,hB'⟩:=hB
  obtain ⟨G',hG',hn⟩:=h
  refine wpAnyH_swi _ listed a w (fun k hk hl=>?_) (wpAnyH_ro hs r z' G' listed a w hS hb (.inl hG') hB' hn)
  have:=List.all_eq_true.1 hz k (List.mem_range.2 hk)
  rw [hl] at this;simpa using this
structure wpROB (P:Program) (ops:Array Oper) (B:World→Prop) (Q:Act→World→Prop) (t:RO) (z:List Nat) (G:World→Prop) (a:Act) (w:World):Prop where
 raw:roRaw P ops B Q t z G a w
abbrev wpRO (P:Program) (ops:Array Oper) (Q:Act→World→Prop) (t:RO) (z:List Nat) (G:World→Prop) (a:Act) (w:World):Prop:=wpROB P ops (fun _=>True) Q t z G a w
theorem wp_region_rob {id:Nat} {Q:Exit→Act→World→Prop} {a:Act} {w:World} {l:List Oper} (t:RO) (z:List Nat) (B G:World→Prop) (hm:P.follows .mixedOrders=true)
  (hB:(Region.noSelect l.toArray && t.size == l.toArray.size && roB .any l.toArray t z (Array.replicate l.toArray.size false))=true) (hb:B w.drew) (hG:G w.drew)
  (h:wpROB P l.toArray B (fun a' w'=>Q .normal a' w') t z G a w.drew):(Code.region id l.toArray true).wp P Q a w:=by
 simp only [Bool.and_eq_true,beq_iff_eq] at hB
 obtain ⟨⟨hs,hl⟩,hB⟩:=hB
 refine wp_region_any hm ?_
 have hshut:Shut .any l.toArray (Array.replicate l.toArray.size false):=by
  intro j o ho hx
  have h0:(Array.replicate l.toArray.size false).getD j false=false:=by
   rw [Array.getD_eq_getD_getElem?,Array.getElem?_replicate];split <;> rfl
  rw [h0] at hx;cases hx
 have:=wpAnyH_ro (md:=.any) hs t z G _ a w.drew hshut hb (.inl hG) hB h.raw
 rw [hl] at this
 exact wpAny_of_H (fun _ _ h=>h) _ _ _ _ this
theorem wp_region_ro {id:Nat} {Q:Exit→Act→World→Prop} {a:Act} {w:World} {l:List Oper} (t:RO) (z:List Nat) (G:World→Prop) (hm:P.follows .mixedOrders=true)
  (hB:(Region.noSelect l.toArray && t.size == l.toArray.size && roB .any l.toArray t z (Array.replicate l.toArray.size false))=true) (hG:G w.drew)
  (h:wpRO P l.toArray (fun a' w'=>Q .normal a' w') t z G a w.drew):(Code.region id l.toArray true).wp P Q a w:=wp_region_rob t z _ G hm hB trivial hG h
section
variable {z:List Nat} {G:World→Prop} {Q:Act→World→Prop} {i:Nat} {r:RO} {a:Act} {w:World} {o:Oper}
theorem wpRO_pure (ho:ops[i]? = some o) (hw:Region.wanted o (yielded ops a.tmps)=true) (v:Value)
  (h:∀ w',G w'→Gives v w' ((execOp a.eval o).run P w')) (hn:∀ K:Act→Prop,(∀ a',wpROB P ops B Q r z G a' w→K a')→K (a.put o.dst v)):wpROB P ops B Q (.pure i r) z G a w:=
 ⟨⟨o,v,ho, .inl ⟨hw,h⟩,hn (fun a'=>roRaw P ops B Q r z G a' w) (fun _ h=>h.raw)⟩⟩
theorem wpRO_free (ho:ops[i]? = some o) (hw:Region.wanted o (yielded ops a.tmps)=true) (v:Value)
  (h:∀ w',Gives v w' ((execOp a.eval o).run P w')) (hn:∀ K:Act→Prop,(∀ a',wpROB P ops B Q r z G a' w→K a')→K (a.put o.dst v)):wpROB P ops B Q (.free i r) z G a w:=
 ⟨⟨o,v,ho, .inl ⟨hw,fun w' _=>h w'⟩,hn (fun a'=>roRaw P ops B Q r z G a' w) (fun _ h=>h.raw)⟩⟩
theorem wpRO_skip (ho:ops[i]? = some o) (hw:Region.wanted o (yielded ops a.tmps)=false)
  (hn:∀ K:Act→Prop,(∀ a',wpROB P ops B Q r z G a' w→K a')→K (a.put o.dst undef)):wpROB P ops B Q (.pure i r) z G a w:=
 ⟨⟨o,undef,ho, .inr ⟨hw,rfl⟩,hn (fun a'=>roRaw P ops B Q r z G a' w) (fun _ h=>h.raw)⟩⟩
theorem wpRO_skipF (ho:ops[i]? = some o) (hw:Region.wanted o (yielded ops a.tmps)=false)
  (hn:∀ K:Act→Prop,(∀ a',wpROB P ops B Q r z G a' w→K a')→K (a.put o.dst undef)):wpROB P ops B Q (.free i r) z G a w:=
 ⟨⟨o,undef,ho, .inr ⟨hw,rfl⟩,hn (fun a'=>roRaw P ops B Q r z G a' w) (fun _ h=>h.raw)⟩⟩
theorem gOp_run {K:Act→World→Prop} (ho:ops[i]? = some o) (hw:Region.wanted o (yielded ops a.tmps)=true) (h:gRun P o a w K):gOp P ops i K a w:=by
 unfold gOp;simp only [ho,hw,if_true];exact h
theorem gOp_skip {K:Act→World→Prop} (ho:ops[i]? = some o) (hw:Region.wanted o (yielded ops a.tmps)=false) (h:K (a.put o.dst undef) w):gOp P ops i K a w:=by
 unfold gOp;simp only [ho,hw];exact h
theorem wpRO_runB (ho:ops[i]? = some o) (hw:Region.wanted o (yielded ops a.tmps)=true)
  (h:∀ K:Act→World→Prop,(∀ a' w',(B w→B w')→(G w→G w')→wpROB P ops B Q r z G a' w'→K a' w')→gRun P o a w K):wpROB P ops B Q (.run i r) z G a w:=
 ⟨gOp_run ho hw (h _ (fun a' w' hb hg hk=>⟨hb,fun _=>hg,hk.raw⟩))⟩
theorem wpRO_run (ho:ops[i]? = some o) (hw:Region.wanted o (yielded ops a.tmps)=true)
  (h:∀ K:Act→World→Prop,(∀ a' w',(G w→G w')→wpRO P ops Q r z G a' w'→K a' w')→gRun P o a w K):wpRO P ops Q (.run i r) z G a w:=
 wpRO_runB ho hw fun K hK=>h K fun a' w' hg hk=>hK a' w' (fun h=>h) hg hk
theorem wpRO_chgB (ho:ops[i]? = some o) (hz:z.contains i=true) (hw:Region.wanted o (yielded ops a.tmps)=true)
  (h:∀ K:Act→World→Prop,(∀ a' w',(B w→B w')→wpROB P ops B Q r z G a' w'→K a' w')→gRun P o a w K):wpROB P ops B Q (.run i r) z G a w:=
 ⟨gOp_run ho hw (h _ (fun a' w' hb hk=>⟨hb,(fun hc=>by rw [hz] at hc;cases hc),hk.raw⟩))⟩
theorem wpRO_chg (ho:ops[i]? = some o) (hz:z.contains i=true) (hw:Region.wanted o (yielded ops a.tmps)=true)
  (h:∀ K:Act→World→Prop,(∀ a' w',wpRO P ops Q r z G a' w'→K a' w')→gRun P o a w K):wpRO P ops Q (.run i r) z G a w:=
 wpRO_chgB ho hz hw fun K hK=>h K fun a' w' hk=>hK a' w' (fun h=>h) hk
theorem wpRO_skipR (ho:ops[i]? = some o) (hw:Region.wanted o (yielded ops a.tmps)=false)
  (hn:∀ K:Act→Prop,(∀ a',wpROB P ops B Q r z G a' w→K a')→K (a.put o.dst undef)):wpROB P ops B Q (.run i r) z G a w:=
 ⟨gOp_skip ho hw ⟨fun h=>h,fun _ h=>h,hn (fun a'=>roRaw P ops B Q r z G a' w) (fun _ h=>h.raw)⟩⟩
theorem wpRO_two {j:Nat} {s:RO} {o':Oper} (ho:ops[i]? = some o) (hw:Region.wanted o (yielded ops a.tmps)=true) (ho':ops[j]? = some o') (hw':Region.wanted o' (yielded ops a.tmps)=true)
  (h:∀ K:Act→World→Prop,(∀ a' w',(B w→B w')→(z.contains i=false→G w→G w')→wpROB P ops B Q r z G a' w'→K a' w')→gRun P o a w K)
  (h':∀ K:Act→World→Prop,(∀ a' w',(B w→B w')→(z.contains j=false→G w→G w')→wpROB P ops B Q s z G a' w'→K a' w')→gRun P o' a w K):wpROB P ops B Q (.two i r j s) z G a w:=
 ⟨⟨gOp_run ho hw (h _ (fun a' w' hb hg hk=>⟨hb,hg,hk.raw⟩)),gOp_run ho' hw' (h' _ (fun a' w' hb hg hk=>⟨hb,hg,hk.raw⟩))⟩⟩
theorem wpRO_swi {z':List Nat} (G':World→Prop) (hG:G' w) (h:wpROB P ops B Q r z' G' a w):wpROB P ops B Q (.swi z' r) z G a w:=⟨⟨G',hG,h.raw⟩⟩
theorem wpRO_fin (h:Q a w):wpROB P ops B Q .fin z G a w:=⟨h⟩
def rowB (P:Program) (t:TypeId) (n:Nat):Bool:=(match P.underlying t with | some d=>d.isRow | none=>false) && (P.info? t).map (·.size) == some n
theorem rowB_spec {t:TypeId} {n:Nat} (h:rowB P t n=true):∃ d,P.underlying t=some d∧d.isRow=true∧(P.info? t).map (·.size)=some n:=by
 unfold rowB at h
 simp only [Bool.and_eq_true,beq_iff_eq] at h
 cases hd:P.underlying t with
 | none=>rw [hd] at h;cases h.1
 | some d=>rw [hd] at h;exact ⟨d,rfl,h.1,h.2⟩
theorem rangeAt2 {b off:Nat} {v0 v1:Value} (h0:w.cell? ⟨b,off,none⟩=some v0) (h1:w.cell? ⟨b,off+1,none⟩=some v1):w.rangeAt b off [v0,v1]:=by
 intro j v hj
 match j with
 | 0=>simp at hj;subst hj;exact h0
 | 1=>simp at hj;subst hj;exact h1
 | j+2=>simp at hj
theorem gives_agg2 {t:TypeId} {x:Operand} {b off:Nat} {v0 v1:Value} (ho:o.op=.load t x) (hr:rowB P t 2=true) (hx:a.eval x=.pointer (some ⟨b,off,none⟩))
  (h0:w.cell? ⟨b,off,none⟩=some v0) (h1:w.cell? ⟨b,off+1,none⟩=some v1):Gives (.agg #[v0,v1]) w ((execOp a.eval o).run P w):=by
 obtain ⟨d,hu,hd,hi⟩:=rowB_spec hr
 have:=run_loadAt_mid (P:=P) w b off t [v0,v1] d (rangeAt2 h0 h1) hu hd hi
 unfold Gives execOp
 simp only [ho,hx,Sem.run_bind,Sem.run_pure,Result.andThen_ok,this]
theorem wpList_agg2 {rest:List Oper} {Q:Exit→Act→World→Prop} (hgd:o.guard=none) (t:TypeId) (x:Operand) (ho:o.op=.load t x) (hr:rowB P t 2=true) (b off:Nat) (hx:a.eval x=.pointer (some ⟨b,off,none⟩)) (v0 v1:Value)
  (h0:w.cell? ⟨b,off,none⟩=some v0) (h1:w.cell? ⟨b,off+1,none⟩=some v1) (h:wpList P ops Q rest (a.put o.dst (.agg #[v0,v1])) w):wpList P ops Q (o :: rest) a w:=by
 obtain ⟨d,hu,hd,hi⟩:=rowB_spec hr
 exact wpList_load_mid hgd t x ho b off hx [v0,v1] d (rangeAt2 h0 h1) hu hd hi h
end
end
end
section
open Go.RowKit
theorem run_appR {P:Program} (w:World) (t ty e:TypeId) (i:TypeInfo) (z:Value) (size bytes:Nat) (ht:P.underlying t=some (.slice e)) (hi:P.info? e=some i) (hz:i.zero=some z)
  (hsize:i.size=size) (hby:i.bytes=bytes) (hzs:z.cells.size=size) (hsz:0<size)
  (v:Value) (n:Nat) (xs:List Value) (hs:Sl w e size v n xs)
  (ao:Option Addr) (m c:Nat) (news:List Value) (hl:news.length=m*size) (hrd:Rd w ao news) (h1:∀ u ∈ news,u.oneCell'=true)
  (h63:n+m≤maxLen) (hbytes:(n+m)*bytes≤140737488355328) :
  ∃ v' w',(Builtin.append_ #[t,t] ty #[v, .slice ao m c]).run P w=.ok v' w'∧Sl w' e size v' (n+m) (xs ++ news)∧Keeps (ownB v) w w'∧(∀ k,ownB v' k→ownB v k∨w.heap.size≤k):=by
 cases ao with
 | some a=>
  refine run_app w t ty e i z size bytes ht hi hz hsize hby hzs hsz v n xs hs a m c news hl ?_ h1 h63 hbytes
  intro j u hu
  have hj:=(List.getElem?_eq_some_iff.1 hu).1
  obtain ⟨g,o,e,_,hc⟩:=hrd (by rintro rfl;simp at hj)
  cases e
  rw [addr_add,hc j hj,hu]
 | none=>
  have hn:news=[]:=by
   by_cases h:news=[]
   ·exact h
   ·obtain ⟨g,o,e,_⟩:=hrd h;cases e
  subst hn
  have hm:m=0:=by
   rcases Nat.mul_eq_zero.1 (show m*size=0 by simpa using hl.symm) with h | h
   ·exact h
   ·omega
  subst hm
  refine ⟨v,w,?_,by simpa using hs,Keeps.refl _ _,fun k hk=>.inl hk⟩
  subst hsize
  obtain ⟨hxl,⟨rfl,rfl⟩ | ⟨g,o,cap,cur,rfl,hb,hnc,hcm,hoc,hx⟩⟩:=hs
  ·simp [Builtin.append_,run_underlying ht,sizeOf,typeInfo,hi,Builtin.lenOf,Builtin.firstCells]
  ·simp [Builtin.append_,run_underlying ht,sizeOf,typeInfo,hi,Builtin.lenOf,Builtin.firstCells,hnc,storeCells]
theorem wpList_appR {P:Program} {w:World} {ops:Array Oper} {rest:List Oper} {o:Oper} {a:Act} {Q:Exit→Act→World→Prop} (hgd:o.guard=none) (s x:Operand) (t:TypeId)
  (ho:o.op=.call { callee:=.builtin .append,args:=#[s,x],argTypes:=#[t,t] })
  (e:TypeId) (i:TypeInfo) (z:Value) (size bytes:Nat) (ht:P.underlying t=some (.slice e)) (hi:P.info? e=some i) (hz:i.zero=some z)
  (hsize:i.size=size) (hby:i.bytes=bytes) (hzs:z.cells.size=size) (hsz:0<size)
  (v:Value) (n:Nat) (xs:List Value) (hs:a.eval s=v) (hown:Sl w e size v n xs)
  (ao:Option Addr) (m c:Nat) (news:List Value) (hx:a.eval x=.slice ao m c) (hl:news.length=m*size) (hrd:Rd w ao news) (h1:∀ u ∈ news,u.oneCell'=true)
  (h63:n+m≤maxLen) (hbytes:(n+m)*bytes≤140737488355328)
  (h:∀ v' w',Sl w' e size v' (n+m) (xs ++ news)→Keeps (ownB v) w w'→(∀ k,ownB v' k→ownB v k∨w.heap.size≤k)→wpList P ops Q rest (a.put o.dst v') w'):wpList P ops Q (o :: rest) a w:=by
 refine wpList_plain hgd fun _ hK=>?_
 obtain ⟨v',w',hr,h2,h3,h4⟩:=run_appR (P:=P) w t o.type e i z size bytes ht hi hz hsize hby hzs hsz v n xs hown ao m c news hl hrd h1 h63 hbytes
 unfold Oper.wp execOp
 simp only [ho,resolve,invoke,builtin,Sem.run_bind,Sem.run_pure,Result.andThen_ok,List.map_toArray,List.map_cons,List.map_nil,hs,hx,hr]
 exact hK _ _ (h v' w' h2 h3 h4)
end
section
open Go.RowKit
section
variable {P:Program} {w:World} {ops:Array Oper} {o:Oper} {a:Act}
theorem gives_agg {t:TypeId} {x:Operand} {b off:Nat} {cs:List Value} (ho:o.op=.load t x) (hr:rowB P t cs.length=true) (hx:a.eval x=.pointer (some ⟨b,off,none⟩)) (h:w.rangeAt b off cs):Gives (.agg cs.toArray) w ((execOp a.eval o).run P w):=by
 obtain ⟨d,hu,hd,hi⟩:=rowB_spec hr
 have:=run_loadAt_mid (P:=P) w b off t cs d h hu hd hi
 unfold Gives execOp
 simp only [ho,hx,Sem.run_bind,Sem.run_pure,Result.andThen_ok,this]
theorem wpList_agg {rest:List Oper} {Q:Exit→Act→World→Prop} (hgd:o.guard=none) (t:TypeId) (x:Operand) (ho:o.op=.load t x) (cs:List Value) (hr:rowB P t cs.length=true) (b off:Nat) (hx:a.eval x=.pointer (some ⟨b,off,none⟩))
  (h0:w.rangeAt b off cs) (h:wpList P ops Q rest (a.put o.dst (.agg cs.toArray)) w):wpList P ops Q (o :: rest) a w:=by
 obtain ⟨d,hu,hd,hi⟩:=rowB_spec hr
 exact wpList_load_mid hgd t x ho b off hx cs d h0 hu hd hi h
theorem rangeAt_nil {b off:Nat}:w.rangeAt b off []:=by intro j v hj;simp at hj
theorem rangeAt_cons {b off:Nat} {v:Value} {cs:List Value} (h:w.cell? ⟨b,off,none⟩=some v) (hr:w.rangeAt b (off+1) cs):w.rangeAt b off (v :: cs):=by
 intro j u hj
 cases j with
 | zero=>simp at hj;subst hj;exact h
 | succ j=>simp at hj;rw [show off+(j+1)=off+1+j by omega];exact hr j u hj
end
end
section
open Go.RowKit
theorem i64_and3 (n:Int):bits .and .i64 n 3=n%4:=by
 have h3:(BitVec.ofInt 64 3).toNat=2 ^ 2-1:=by decide
 have key:(BitVec.ofInt 64 n &&& BitVec.ofInt 64 3).toNat=(n%((2 ^ 64:Nat):Int)).toNat%2 ^ 2:=by
  rw [BitVec.toNat_and,BitVec.toNat_ofInt,h3,Nat.and_two_pow_sub_one_eq_mod]
 show IntKind.i64.wrap ((BitVec.ofInt 64 n &&& BitVec.ofInt 64 3).toNat:Nat)=n%4
 rw [key,IntKind.wrap_i64]
 omega
theorem i64_and15 (n:Int):bits .and .i64 n 15=n%16:=by
 have h3:(BitVec.ofInt 64 15).toNat=2 ^ 4-1:=by decide
 have key:(BitVec.ofInt 64 n &&& BitVec.ofInt 64 15).toNat=(n%((2 ^ 64:Nat):Int)).toNat%2 ^ 4:=by
  rw [BitVec.toNat_and,BitVec.toNat_ofInt,h3,Nat.and_two_pow_sub_one_eq_mod]
 show IntKind.i64.wrap ((BitVec.ofInt 64 n &&& BitVec.ofInt 64 15).toNat:Nat)=n%16
 rw [key,IntKind.wrap_i64]
 omega
theorem i64_or0 (n:Int) (h1:-9223372036854775808≤n) (h2:n≤9223372036854775807):bits .or .i64 n 0=n:=by
 have key:(BitVec.ofInt 64 n ||| BitVec.ofInt 64 0).toNat=(n%((2 ^ 64:Nat):Int)).toNat:=by
  rw [show BitVec.ofInt 64 0=0#64 from by decide,BitVec.or_zero,BitVec.toNat_ofInt]
 show IntKind.i64.wrap ((BitVec.ofInt 64 n ||| BitVec.ofInt 64 0).toNat:Nat)=n
 rw [key,IntKind.wrap_i64]
 omega
theorem wraps_i64 (n:Int) (h₀:0≤n) (h₁:n<2 ^ 63):IntKind.i64.wrap n=n:=by rw [IntKind.wrap_i64];omega
theorem i64_or1 (n:Int) (h1:0≤n) (h2:n<2305843009213693951):bits .or .i64 (n*4) 1=n*4+1:=
 bits_join .i64 63 (by decide) wraps_i64 2 (n*4) 1 (by omega) (by omega) (by omega) (by omega) (by omega) (by omega)
theorem i64_or16 (f k:Int) (h1:0≤f) (h2:f≤100) (h3:0≤k) (h4:k<16):bits .or .i64 (f*16) k=f*16+k:=
 bits_join .i64 63 (by decide) wraps_i64 4 (f*16) k (by omega) (by omega) (by omega) (by omega) (by omega) (by omega)
def big:Int:=1152921504606846976
def encW (k n:Int):Int × Int:=
 if k=0 then if n=0 then (2,0) else (0,7)
 else if k=2 then if n=0 then (3,0) else (0,7)
 else if k=1 then if -big≤n∧n<big then (4*n,0) else (0,1)
 else if k=3 then if 0≤n∧n<big then (4*n+1,0) else (0,1)
 else (0,2)
def decW (x:Int):Int × Int × Int:=
 if x%4=0 then if -big≤x/4∧x/4<big then (1,x/4,0) else (0,0,1)
 else if x%4=1 then if 0≤x/4∧x/4<big then (3,x/4,0) else (0,0,1)
 else if x/4=0 then if x=2 then (0,0,0) else (2,0,0)
 else (0,0,7)
def fitsW (k f:Int):Bool:=((k == 1 || k == 3 || k == 4) && f == 2) || (k == 5 && f == 0) || (k == 2 && decide (0≤f) && decide (f≤12))
def headW (k f:Int):Int × Int:=if k<1∨5<k then (0,2) else if fitsW k f=true then (16*f+k,0) else (0,1)
def partsW (h:Int):Int × Int × Int:=if fitsW (h%16) (h/16)=true then (h%16,h/16,0) else (0,0,7)
theorem fitsW_spec {k f:Int} (h:fitsW k f=true):1≤k∧k≤5∧0≤f∧f≤12:=by
 simp [fitsW] at h
 omega
theorem encW_int {n:Int} (h:-1152921504606846976≤n∧n<1152921504606846976):encW 1 n=(4*n,0):=if_pos (c:=-big≤n∧n<big) h
theorem encW_int_no {n:Int} (h:¬ (-1152921504606846976≤n∧n<1152921504606846976)):encW 1 n=(0,1):=if_neg (c:=-big≤n∧n<big) h
theorem encW_ref {n:Int} (h:0≤n∧n<1152921504606846976):encW 3 n=(4*n+1,0):=if_pos (c:=0≤n∧n<big) h
theorem encW_ref_no {n:Int} (h:¬ (0≤n∧n<1152921504606846976)):encW 3 n=(0,1):=if_neg (c:=0≤n∧n<big) h
theorem encW_other {k n:Int} (h0:k≠0) (h1:k≠1) (h2:k≠2) (h3:k≠3):encW k n=(0,2):=by
 unfold encW;rw [if_neg h0,if_neg h2,if_neg h1,if_neg h3]
theorem decW_int {x:Int} (h:x%4=0) (h1:-1152921504606846976≤x/4∧x/4<1152921504606846976):decW x=(1,x/4,0):=by
 unfold decW;rw [if_pos h,if_pos (show -big≤x/4∧x/4<big from h1)]
theorem decW_int_no {x:Int} (h:x%4=0) (h1:¬ (-1152921504606846976≤x/4∧x/4<1152921504606846976)):decW x=(0,0,1):=by
 unfold decW;rw [if_pos h,if_neg (show ¬ (-big≤x/4∧x/4<big) from h1)]
theorem decW_ref {x:Int} (h:x%4=1) (h1:0≤x/4∧x/4<1152921504606846976):decW x=(3,x/4,0):=by
 unfold decW;rw [if_neg (by omega),if_pos h,if_pos (show 0≤x/4∧x/4<big from h1)]
theorem decW_ref_no {x:Int} (h:x%4=1) (h1:¬ (0≤x/4∧x/4<1152921504606846976)):decW x=(0,0,1):=by
 unfold decW;rw [if_neg (by omega),if_pos h,if_neg (show ¬ (0≤x/4∧x/4<big) from h1)]
theorem decW_bits {x:Int} (h0:x%4≠0) (h:x%4≠1) (h1:x/4≠0):decW x=(0,0,7):=by
 unfold decW;rw [if_neg h0,if_neg h,if_neg h1]
end
section
open Go.RowKit
theorem ret_two {a b c d:Int} (h1:a=c) (h2:b=d):Ending.returned (.tuple #[.int .i64 a, .int .i64 b])=Ending.returned (.tuple #[.int .i64 c, .int .i64 d]):=by rw [h1,h2]
theorem Encode_c (k n:Int) (w:World) (h1:-9223372036854775808≤n) (h2:n≤9223372036854775807) :
  Calls Tryz.prog 49 #[.agg #[.int .i64 k, .int .i64 n]] w fun e w'=>e=.returned (.tuple #[.int .i64 (encW k n).1, .int .i64 (encW k n).2])∧Keeps (fun _=>False) w w':=by
 by_cases k0:k=0
 ·subst k0
  by_cases n0:n=0
  ·subst n0
   go_enter Tryz.func49,Tryz.ntmps49
   go_wp2
   go_ret2
   exact ⟨rfl,(Keeps.refl _ _).alloc _⟩
  ·have hz:(n != 0)=true:=by simpa using n0
   have he:encW 0 n=(0,7):=by simp [encW,n0]
   have HE:=Hz he;clear he n0
   go_enter Tryz.func49,Tryz.ntmps49
   go_wp2
   go_ret2
   exact ⟨by rw [HE.out];rfl,(Keeps.refl _ _).alloc _⟩
 by_cases k2:k=2
 ·subst k2
  by_cases n0:n=0
  ·subst n0
   go_enter Tryz.func49,Tryz.ntmps49
   go_wp2
   go_ret2
   exact ⟨rfl,(Keeps.refl _ _).alloc _⟩
  ·have hz:(n != 0)=true:=by simpa using n0
   have he:encW 2 n=(0,7):=by simp [encW,n0]
   have HE:=Hz he;clear he n0
   go_enter Tryz.func49,Tryz.ntmps49
   go_wp2
   go_ret2
   exact ⟨by rw [HE.out];rfl,(Keeps.refl _ _).alloc _⟩
 by_cases k1:k=1
 ·subst k1
  by_cases c1:n < -1152921504606846976
  ·have he:encW 1 n=(0,1):=encW_int_no (by omega)
   have HE:=Hz he;clear he
   go_enter Tryz.func49,Tryz.ntmps49
   go_wp2
   go_ret2
   exact ⟨by rw [HE.out];rfl,(Keeps.refl _ _).alloc _⟩
  by_cases c2:1152921504606846976≤n
  ·have he:encW 1 n=(0,1):=encW_int_no (by omega)
   have HE:=Hz he;clear he
   go_enter Tryz.func49,Tryz.ntmps49
   go_wp2
   go_ret2
   exact ⟨by rw [HE.out];rfl,(Keeps.refl _ _).alloc _⟩
  have he:encW 1 n=(4*n,0):=encW_int (by omega)
  have HE:=Hz he;clear he
  have hor:=i64_or0 (n*4) (by omega) (by omega)
  go_enter Tryz.func49,Tryz.ntmps49
  go_wp2
  go_ret2
  exact ⟨by rw [HE.out];exact ret_two (Int.mul_comm _ _) rfl,(Keeps.refl _ _).alloc _⟩
 by_cases k3:k=3
 ·subst k3
  by_cases c1:n<0
  ·have he:encW 3 n=(0,1):=encW_ref_no (by omega)
   have HE:=Hz he;clear he
   go_enter Tryz.func49,Tryz.ntmps49
   go_wp2
   go_ret2
   exact ⟨by rw [HE.out];rfl,(Keeps.refl _ _).alloc _⟩
  by_cases c2:1152921504606846976≤n
  ·have he:encW 3 n=(0,1):=encW_ref_no (by omega)
   have HE:=Hz he;clear he
   go_enter Tryz.func49,Tryz.ntmps49
   go_wp2
   go_ret2
   exact ⟨by rw [HE.out];rfl,(Keeps.refl _ _).alloc _⟩
  have he:encW 3 n=(4*n+1,0):=encW_ref (by omega)
  have HE:=Hz he;clear he
  have hor:=i64_or1 n (by omega) (by omega)
  go_enter Tryz.func49,Tryz.ntmps49
  go_wp2
  go_ret2
  exact ⟨by rw [HE.out];exact ret_two (by omega) rfl,(Keeps.refl _ _).alloc _⟩
 have e0:(k == 0)=false:=by simpa using k0
 have e1:(k == 1)=false:=by simpa using k1
 have e2:(k == 2)=false:=by simpa using k2
 have e3:(k == 3)=false:=by simpa using k3
 have he:encW k n=(0,2):=encW_other k0 k1 k2 k3
 have HE:=Hz he;clear he k0 k1 k2 k3
 go_enter Tryz.func49,Tryz.ntmps49
 go_wp2
 go_ret2
 exact ⟨by rw [HE.out];rfl,(Keeps.refl _ _).alloc _⟩
theorem Ref_c (x:Int) (w:World) (h1:0≤x) (h2:x<1152921504606846976) :
  Calls Tryz.prog 24 #[.int .i64 x] w fun e w'=>e=.returned (.int .i64 (4*x+1))∧w=w':=by
 have hor:=i64_or1 x (by omega) (by omega)
 go_enter Tryz.func24,Tryz.ntmps24
 go_wp2
 go_ret
 exact ⟨ret_int (by omega),rfl⟩
theorem Nil_c (w:World):Calls Tryz.prog 26 #[] w fun e w'=>e=.returned (.int .i64 2)∧w=w':=by
 go_enter Tryz.func26,Tryz.ntmps26
 go_wp2
 go_ret
 exact ⟨rfl,rfl⟩
theorem Gone_c (w:World):Calls Tryz.prog 128 #[] w fun e w'=>e=.returned (.int .i64 3)∧w=w':=by
 go_enter Tryz.func128,Tryz.ntmps128
 go_wp2
 go_ret
 exact ⟨rfl,rfl⟩
theorem At_yes (x:Int) (w:World) (h:x%4=1) :
  Calls Tryz.prog 114 #[.int .i64 x] w fun e w'=>e=.returned (.tuple #[.int .i64 (x/4), .bool true])∧w=w':=by
 have ha:bits .and .i64 x 3=1:=by rw [i64_and3,h]
 clear h
 go_enter Tryz.func114,Tryz.ntmps114
 go_wp2
 go_ret2
 exact ⟨rfl,rfl⟩
theorem At_no (x:Int) (w:World) (h:x%4≠1) :
  Calls Tryz.prog 114 #[.int .i64 x] w fun e w'=>e=.returned (.tuple #[.int .i64 0, .bool false])∧w=w':=by
 have ha:(bits .and .i64 x 3 != 1)=true:=by rw [i64_and3];simpa using h
 clear h
 go_enter Tryz.func114,Tryz.ntmps114
 go_wp2
 go_ret2
 exact ⟨rfl,rfl⟩
theorem ret_val {k n c:Int} {y:Int × Int × Int} (h:y=(k,n,c)) :
  Ending.returned (.tuple #[.agg #[.int .i64 k, .int .i64 n], .int .i64 c])=Ending.returned (.tuple #[.agg #[.int .i64 y.1, .int .i64 y.2.1], .int .i64 y.2.2]):=by subst h;rfl
theorem Decode_c (x:Int) (w:World) (h1:-9223372036854775808≤x) (h2:x≤9223372036854775807) :
  Calls Tryz.prog 129 #[.int .i64 x] w fun e w'=>e=.returned (.tuple #[.agg #[.int .i64 (decW x).1, .int .i64 (decW x).2.1], .int .i64 (decW x).2.2])∧Keeps (fun _=>False) w w':=by
 have hm:=Hz (i64_and3 x)
 by_cases m0:x%4=0
 ·have ha:bits .and .i64 x 3=0:=by rw [hm.out,m0]
  by_cases c1:x/4 < -1152921504606846976
  ·have HE:=Hz (decW_int_no m0 (by omega));clear m0
   go_enter Tryz.func129,Tryz.ntmps129
   go_wp2
   exact bodyPost_ret (v:=.tuple #[.agg #[.int .i64 0, .int .i64 0], .int .i64 1]) (by simp [results,Tryz.results129,go_sem]) rfl ⟨ret_val HE.out,(((Keeps.refl _ _).alloc _))⟩
  by_cases c2:1152921504606846976≤x/4
  ·have HE:=Hz (decW_int_no m0 (by omega));clear m0
   go_enter Tryz.func129,Tryz.ntmps129
   go_wp2
   exact bodyPost_ret (v:=.tuple #[.agg #[.int .i64 0, .int .i64 0], .int .i64 1]) (by simp [results,Tryz.results129,go_sem]) rfl ⟨ret_val HE.out,(((Keeps.refl _ _).alloc _))⟩
  have HE:=Hz (decW_int m0 (by omega));clear m0
  go_enter Tryz.func129,Tryz.ntmps129
  go_wp2
  exact bodyPost_ret (v:=.tuple #[.agg #[.int .i64 1, .int .i64 (x/4)], .int .i64 0]) (by simp [results,Tryz.results129,go_sem]) rfl ⟨ret_val HE.out,(((Keeps.refl _ _).alloc _))⟩
 by_cases m1:x%4=1
 ·have ha:bits .and .i64 x 3=1:=by rw [hm.out,m1]
  by_cases c1:x/4<0
  ·have HE:=Hz (decW_ref_no m1 (by omega));clear m1
   go_enter Tryz.func129,Tryz.ntmps129
   go_wp2
   exact bodyPost_ret (v:=.tuple #[.agg #[.int .i64 0, .int .i64 0], .int .i64 1]) (by simp [results,Tryz.results129,go_sem]) rfl ⟨ret_val HE.out,(((Keeps.refl _ _).alloc _))⟩
  by_cases c2:1152921504606846976≤x/4
  ·have HE:=Hz (decW_ref_no m1 (by omega));clear m1
   go_enter Tryz.func129,Tryz.ntmps129
   go_wp2
   exact bodyPost_ret (v:=.tuple #[.agg #[.int .i64 0, .int .i64 0], .int .i64 1]) (by simp [results,Tryz.results129,go_sem]) rfl ⟨ret_val HE.out,(((Keeps.refl _ _).alloc _))⟩
  have HE:=Hz (decW_ref m1 (by omega));clear m1
  go_enter Tryz.func129,Tryz.ntmps129
  go_wp2
  exact bodyPost_ret (v:=.tuple #[.agg #[.int .i64 3, .int .i64 (x/4)], .int .i64 0]) (by simp [results,Tryz.results129,go_sem]) rfl ⟨ret_val HE.out,(((Keeps.refl _ _).alloc _))⟩
 have ha0:(bits .and .i64 x 3 == 0)=false:=by rw [hm.out];simpa using m0
 have ha1:(bits .and .i64 x 3 == 1)=false:=by rw [hm.out];simpa using m1
 by_cases c1:x/4=0
 ·have h23:x=2∨x=3:=by omega
  clear m0 m1 ha0 ha1 c1 hm
  rcases h23 with rfl | rfl
  ·go_enter Tryz.func129,Tryz.ntmps129
   go_wp2
   exact bodyPost_ret (v:=.tuple #[.agg #[.int .i64 0, .int .i64 0], .int .i64 0]) (by simp [results,Tryz.results129,go_sem]) rfl ⟨rfl,(((Keeps.refl _ _).alloc _))⟩
  ·go_enter Tryz.func129,Tryz.ntmps129
   go_wp2
   exact bodyPost_ret (v:=.tuple #[.agg #[.int .i64 2, .int .i64 0], .int .i64 0]) (by simp [results,Tryz.results129,go_sem]) rfl ⟨rfl,(((Keeps.refl _ _).alloc _))⟩
 ·have hz:(x/4 != 0)=true:=by simpa using c1
  have HE:=Hz (decW_bits m0 m1 c1);clear m0 m1 c1
  go_enter Tryz.func129,Tryz.ntmps129
  go_wp2
  exact bodyPost_ret (v:=.tuple #[.agg #[.int .i64 0, .int .i64 0], .int .i64 7]) (by simp [results,Tryz.results129,go_sem]) rfl ⟨ret_val HE.out,(((Keeps.refl _ _).alloc _))⟩
end
section
open Go.RowKit
theorem headW_kind {k f:Int} (h:k<1∨5<k):headW k f=(0,2):=if_pos h
theorem headW_no {k f:Int} (h:1≤k∧k≤5) (hf:fitsW k f=false):headW k f=(0,1):=by
 unfold headW;rw [if_neg (by omega),if_neg (by simp [hf])]
theorem headW_yes {k f:Int} (h:1≤k∧k≤5) (hf:fitsW k f=true):headW k f=(16*f+k,0):=by
 unfold headW;rw [if_neg (by omega),if_pos hf]
theorem fitsW_2 {k f:Int} (hk:k=1∨k=3∨k=4):fitsW k f=(f == 2):=by
 rcases hk with rfl | rfl | rfl <;> simp [fitsW]
theorem fitsW_5 {f:Int}:fitsW 5 f=(f == 0):=by simp [fitsW]
theorem fitsW_vec {f:Int}:fitsW 2 f=(decide (0≤f) && decide (f≤12)):=by simp [fitsW]
theorem Head_c (k f:Int) (w:World) (h1:-9223372036854775808≤f) (h2:f≤9223372036854775807) :
  Calls Tryz.prog 138 #[.int .i64 k, .int .i64 f] w fun e w'=>e=.returned (.tuple #[.int .i64 (headW k f).1, .int .i64 (headW k f).2])∧w=w':=by
 by_cases c1:k<1
 ·have HE:=Hz (headW_kind (f:=f) (.inl c1))
  go_enter Tryz.func138,Tryz.ntmps138
  go_wp2
  go_ret2
  exact ⟨by rw [HE.out];rfl,rfl⟩
 by_cases c2:5<k
 ·have HE:=Hz (headW_kind (f:=f) (.inr c2))
  go_enter Tryz.func138,Tryz.ntmps138
  go_wp2
  go_ret2
  exact ⟨by rw [HE.out];rfl,rfl⟩
 have hk:k=1∨k=2∨k=3∨k=4∨k=5:=by omega
 clear c1 c2
 rcases hk with rfl | rfl | rfl | rfl | rfl
 ·by_cases c:f=2
  ·subst c
   have hor:=i64_or16 2 1 (by omega) (by omega) (by omega) (by omega)
   have HE:=Hz (headW_yes (k:=1) (f:=2) (by omega) (by decide))
   go_enter Tryz.func138,Tryz.ntmps138
   go_wp2
   go_ret2
   exact ⟨by rw [HE.out];rfl,rfl⟩
  ·have hne:(f != 2)=true:=by simpa using c
   have HE:=Hz (headW_no (k:=1) (f:=f) (by omega) (by rw [fitsW_2 (by omega)];simpa using c));clear c
   go_enter Tryz.func138,Tryz.ntmps138
   go_wp2
   go_ret2
   exact ⟨by rw [HE.out];rfl,rfl⟩
 ·by_cases c1:f<0
  ·have HE:=Hz (headW_no (k:=2) (f:=f) (by omega) (by rw [fitsW_vec];simp;omega))
   go_enter Tryz.func138,Tryz.ntmps138
   go_wp2
   go_ret2
   exact ⟨by rw [HE.out];rfl,rfl⟩
  by_cases c2:12<f
  ·have HE:=Hz (headW_no (k:=2) (f:=f) (by omega) (by rw [fitsW_vec];simp;omega))
   go_enter Tryz.func138,Tryz.ntmps138
   go_wp2
   go_ret2
   exact ⟨by rw [HE.out];rfl,rfl⟩
  have hor:=i64_or16 f 2 (by omega) (by omega) (by omega) (by omega)
  have HE:=Hz (headW_yes (k:=2) (f:=f) (by omega) (by rw [fitsW_vec];simp;omega))
  go_enter Tryz.func138,Tryz.ntmps138
  go_wp2
  go_ret2
  exact ⟨by rw [HE.out];exact ret_two (by omega) rfl,rfl⟩
 ·by_cases c:f=2
  ·subst c
   have hor:=i64_or16 2 3 (by omega) (by omega) (by omega) (by omega)
   have HE:=Hz (headW_yes (k:=3) (f:=2) (by omega) (by decide))
   go_enter Tryz.func138,Tryz.ntmps138
   go_wp2
   go_ret2
   exact ⟨by rw [HE.out];rfl,rfl⟩
  ·have hne:(f != 2)=true:=by simpa using c
   have HE:=Hz (headW_no (k:=3) (f:=f) (by omega) (by rw [fitsW_2 (by omega)];simpa using c));clear c
   go_enter Tryz.func138,Tryz.ntmps138
   go_wp2
   go_ret2
   exact ⟨by rw [HE.out];rfl,rfl⟩
 ·by_cases c:f=2
  ·subst c
   have hor:=i64_or16 2 4 (by omega) (by omega) (by omega) (by omega)
   have HE:=Hz (headW_yes (k:=4) (f:=2) (by omega) (by decide))
   go_enter Tryz.func138,Tryz.ntmps138
   go_wp2
   go_ret2
   exact ⟨by rw [HE.out];rfl,rfl⟩
  ·have hne:(f != 2)=true:=by simpa using c
   have HE:=Hz (headW_no (k:=4) (f:=f) (by omega) (by rw [fitsW_2 (by omega)];simpa using c));clear c
   go_enter Tryz.func138,Tryz.ntmps138
   go_wp2
   go_ret2
   exact ⟨by rw [HE.out];rfl,rfl⟩
 ·by_cases c:f=0
  ·subst c
   have hor:=i64_or16 0 5 (by omega) (by omega) (by omega) (by omega)
   have HE:=Hz (headW_yes (k:=5) (f:=0) (by omega) (by decide))
   go_enter Tryz.func138,Tryz.ntmps138
   go_wp2
   go_ret2
   exact ⟨by rw [HE.out];rfl,rfl⟩
  ·have hne:(f != 0)=true:=by simpa using c
   have HE:=Hz (headW_no (k:=5) (f:=f) (by omega) (by rw [fitsW_5];simpa using c));clear c
   go_enter Tryz.func138,Tryz.ntmps138
   go_wp2
   go_ret2
   exact ⟨by rw [HE.out];rfl,rfl⟩
theorem ret_three {a b c:Int} {y:Int × Int × Int} (h:y=(a,b,c)) :
  Ending.returned (.tuple #[.int .i64 a, .int .i64 b, .int .i64 c])=Ending.returned (.tuple #[.int .i64 y.1, .int .i64 y.2.1, .int .i64 y.2.2]):=by subst h;rfl
theorem partsW_no {h:Int} (hf:fitsW (h%16) (h/16)=false):partsW h=(0,0,7):=by unfold partsW;rw [if_neg (by simp [hf])]
theorem partsW_yes {h:Int} (hf:fitsW (h%16) (h/16)=true):partsW h=(h%16,h/16,0):=by unfold partsW;rw [if_pos hf]
theorem partsW_out {h:Int} (c:h<0∨207<h):partsW h=(0,0,7):=by
 apply partsW_no
 cases hf:fitsW (h%16) (h/16)
 ·rfl
 ·have:=fitsW_spec hf;omega
theorem headW_code {k f:Int} (h:fitsW k f=false):(headW k f).1=0∧((headW k f).2 != 0)=true:=by
 unfold headW
 split
 ·exact ⟨rfl,rfl⟩
 ·rw [if_neg (by simp [h])];exact ⟨rfl,rfl⟩
theorem headW_fits {k f:Int} (h:fitsW k f=true):headW k f=(16*f+k,0):=headW_yes ⟨(fitsW_spec h).1,(fitsW_spec h).2.1⟩ h
theorem Parts_c (h:Int) (w:World) (h1:-9223372036854775808≤h) (h2:h≤9223372036854775807) :
  Calls Tryz.prog 137 #[.int .i64 h] w fun e w'=>e=.returned (.tuple #[.int .i64 (partsW h).1, .int .i64 (partsW h).2.1, .int .i64 (partsW h).2.2])∧w=w':=by
 by_cases c1:h<0
 ·have HE:=Hz (partsW_out (.inl c1))
  go_enter Tryz.func137,Tryz.ntmps137
  go_wp2_with fail
  go_ret3
  exact ⟨ret_three HE.out,rfl⟩
 by_cases c2:207<h
 ·have HE:=Hz (partsW_out (.inr c2))
  go_enter Tryz.func137,Tryz.ntmps137
  go_wp2_with fail
  go_ret3
  exact ⟨ret_three HE.out,rfl⟩
 have ha:=i64_and15 h
 cases hf:fitsW (h%16) (h/16)
 ·have HE:=Hz (partsW_no hf)
  have hc:=(headW_code hf).2
  have HF:=Hz hf;clear hf
  go_enter Tryz.func137,Tryz.ntmps137
  go_wp2_with fail
  refine (Head_c (h%16) (h/16) _ (by omega) (by omega)).mono ?_
  rintro e w' ⟨rfl,rfl⟩
  go_wp2_with fail
  go_ret3
  exact ⟨ret_three HE.out,rfl⟩
 ·have HE:=Hz (partsW_yes hf)
  have HC:=Hz (headW_fits hf)
  have HF:=Hz hf;clear hf
  go_enter Tryz.func137,Tryz.ntmps137
  go_wp2_with fail
  refine (Head_c (h%16) (h/16) _ (by omega) (by omega)).mono ?_
  rintro e w' ⟨rfl,rfl⟩
  rw [HC.out]
  go_wp2_with fail
  go_ret3
  exact ⟨ret_three HE.out,rfl⟩
end
section
def R64 (x:Int):Prop:=-9223372036854775808≤x∧x≤9223372036854775807
structure Ar where
 ws:List Int
 nur:Nat
 yng:Nat
 grn:Nat
structure Ar.ok (A:Ar):Prop where
 h1:A.yng≤A.nur
 h2:A.nur≤A.grn
 h3:A.grn≤A.ws.length
 h4:A.ws.length≤1280
 hw:∀ x ∈ A.ws,R64 x
def Ar.young (A:Ar) (i:Int):Bool:=decide (0≤i) && decide (i<A.yng)
def Ar.old (A:Ar) (i:Int):Bool:=decide ((A.nur:Int)≤i) && decide (i<A.grn)
def Ar.inUse (A:Ar) (i:Int):Bool:=A.young i || A.old i
def Ar.load (A:Ar) (i:Int):Int:=if A.inUse i then A.ws.getD i.toNat 0 else 0
def Ar.store (A:Ar) (i x:Int):Ar:=if A.inUse i then { A with ws:=A.ws.set i.toNat x } else A
def Ar.takeY (A:Ar) (n:Int):Int × Ar:=if 0≤n∧n≤(A.nur:Int)-A.yng then (A.yng, { A with yng:=A.yng+n.toNat }) else (-1,A)
def Ar.takeO (A:Ar) (n:Int):Int × Ar:=if 0≤n∧n≤(A.ws.length:Int)-A.grn then (A.grn, { A with grn:=A.grn+n.toNat }) else (-1,A)
def lay (l:List Int) (i:Nat) (m:List Int):List Int:=l.take i ++ m ++ l.drop (i+m.length)
theorem lay_length {l m:List Int} {i:Nat} (h:i+m.length≤l.length):(lay l i m).length=l.length:=by
 unfold lay;simp only [List.length_append,List.length_take,List.length_drop];omega
theorem lay_get {l m:List Int} {i j:Nat} (h:i+m.length≤l.length):(lay l i m)[j]? = if i≤j∧j<i+m.length then m[j-i]? else l[j]? := by
 unfold lay
 by_cases h1:j<i
 ·rw [List.append_assoc,List.getElem?_append_left (by simp;omega),List.getElem?_take,if_pos h1,if_neg (by omega)]
 ·by_cases h2:j<i+m.length
  ·rw [List.append_assoc,List.getElem?_append_right (by simp;omega),List.length_take,List.getElem?_append_left (by omega),if_pos ⟨by omega,h2⟩]
   congr 1;omega
  ·rw [List.getElem?_append_right (by simp;omega),if_neg (by omega),List.getElem?_drop,List.length_append,List.length_take]
   congr 1;omega
theorem lay_getD {l m:List Int} {i j:Nat} (h:i+m.length≤l.length):(lay l i m).getD j 0=if i≤j∧j<i+m.length then m.getD (j-i) 0 else l.getD j 0:=by
 simp only [List.getD_eq_getElem?_getD,lay_get h]
 split <;> rfl
theorem lay_mem {l m:List Int} {i:Nat} {x:Int} (h:x ∈ lay l i m):x ∈ l∨x ∈ m:=by
 unfold lay at h
 simp only [List.mem_append] at h
 rcases h with (h | h) | h
 ·exact .inl (List.mem_of_mem_take h)
 ·exact .inr h
 ·exact .inl (List.mem_of_mem_drop h)
def thingW (k f:Int):List Int:=(16*f+k) :: List.replicate f.toNat 2
def Ar.make (A:Ar) (k f:Int):Int × Ar:=
 if fitsW k f=true∧1+f≤(A.nur:Int)-A.yng then (A.yng, { A with yng:=A.yng+(1+f).toNat,ws:=lay A.ws A.yng (thingW k f) }) else (-1,A)
theorem Ar.make_no {A:Ar} {k f:Int} (h:¬ (fitsW k f=true∧1+f≤(A.nur:Int)-A.yng)):A.make k f=(-1,A):=if_neg h
theorem Ar.make_yes {A:Ar} {k f:Int} (h:fitsW k f=true∧1+f≤(A.nur:Int)-A.yng):A.make k f=((A.yng:Int), { A with yng:=A.yng+(1+f).toNat,ws:=lay A.ws A.yng (thingW k f) }):=if_pos h
def Ar.thing (A:Ar) (i:Int):Int × Int × Int:=partsW (A.load i)
def Ar.whole (A:Ar) (i n:Int):Bool:=(A.young i && A.young (i+n)) || (A.old i && A.old (i+n))
def Ar.copy (A:Ar) (i:Int):Int × Ar:=
 let n:=(A.thing i).2.1
 if (A.thing i).2.2=0∧A.whole i n=true∧1+n≤(A.ws.length:Int)-A.grn then
  (A.grn, { A with grn:=A.grn+(1+n).toNat,ws:=lay A.ws A.grn ((A.ws.drop i.toNat).take (1+n).toNat) })
 else (-1,A)
theorem Ar.copy_no {A:Ar} {i:Int} (h:¬ ((A.thing i).2.2=0∧A.whole i (A.thing i).2.1=true∧1+(A.thing i).2.1≤(A.ws.length:Int)-A.grn)):A.copy i=(-1,A):=if_neg h
theorem Ar.copy_yes {A:Ar} {i:Int} (h:(A.thing i).2.2=0∧A.whole i (A.thing i).2.1=true∧1+(A.thing i).2.1≤(A.ws.length:Int)-A.grn) :
  A.copy i=((A.grn:Int), { A with grn:=A.grn+(1+(A.thing i).2.1).toNat,ws:=lay A.ws A.grn ((A.ws.drop i.toNat).take (1+(A.thing i).2.1).toNat) }):=if_pos h
def Ar.clear (A:Ar):Ar:={ A with yng:=0 }
def Ar.cut (A:Ar) (n:Nat):Ar:={ A with grn:=A.nur+n }
theorem Ar.ok.young_lt {A:Ar} (h:A.ok) {i:Int} (hy:A.young i=true):0≤i∧i<A.ws.length:=by
 have:=h.h1;have:=h.h2;have:=h.h3
 simp [Ar.young] at hy;omega
theorem Ar.ok.old_lt {A:Ar} (h:A.ok) {i:Int} (hy:A.old i=true):0≤i∧i<A.ws.length:=by
 have:=h.h3
 simp [Ar.old] at hy;omega
theorem Ar.ok.use_lt {A:Ar} (h:A.ok) {i:Int} (hy:A.inUse i=true):0≤i∧i<A.ws.length:=by
 unfold Ar.inUse at hy
 rw [Bool.or_eq_true] at hy
 rcases hy with hy | hy
 ·exact h.young_lt hy
 ·exact h.old_lt hy
theorem Ar.ok.load {A:Ar} (h:A.ok) (i:Int):R64 (A.load i):=by
 unfold Ar.load
 split
 ·rename_i hu
  have:=h.use_lt hu
  have hi:i.toNat<A.ws.length:=by omega
  rw [List.getD_eq_getElem?_getD,List.getElem?_eq_getElem hi]
  exact h.hw _ (List.getElem_mem hi)
 ·unfold R64;omega
theorem Ar.ok.store {A:Ar} (h:A.ok) (i x:Int) (hx:R64 x):(A.store i x).ok:=by
 unfold Ar.store
 split
 ·refine ⟨h.h1,h.h2,by simpa using h.h3,by simpa using h.h4,fun y hy=>?_⟩
  rcases List.mem_or_eq_of_mem_set hy with h1 | rfl
  ·exact h.hw y h1
  ·exact hx
 ·exact h
theorem Ar.thing_use {A:Ar} {i:Int} (h:(A.thing i).2.2=0):A.inUse i=true:=by
 cases hu:A.inUse i
 ·have:A.load i=0:=by unfold Ar.load;rw [hu];simp
  unfold Ar.thing at h
  rw [this] at h
  exact absurd h (by decide)
 ·rfl
theorem Ar.thing_fields (A:Ar) (i:Int):0≤(A.thing i).2.1∧(A.thing i).2.1≤12:=by
 unfold Ar.thing partsW
 split
 ·rename_i h;have:=fitsW_spec h;exact ⟨this.2.2.1,this.2.2.2⟩
 ·decide
theorem thingW_length {k f:Int} (h:0≤f):(thingW k f).length=(1+f).toNat:=by
 unfold thingW;simp;omega
theorem Ar.ok.make {A:Ar} (h:A.ok) (k f:Int):(A.make k f).2.ok:=by
 unfold Ar.make
 split
 ·rename_i hc
  have hf:=fitsW_spec hc.1
  have hl:=thingW_length (k:=k) hf.2.2.1
  have:=h.h1;have:=h.h2;have:=h.h3;have:=h.h4
  have hlay:(lay A.ws A.yng (thingW k f)).length=A.ws.length:=lay_length (by omega)
  refine ⟨?_,h.h2,?_,?_,fun x hx=>?_⟩
  ·show A.yng+(1+f).toNat≤A.nur;omega
  ·show A.grn≤(lay _ _ _).length;rw [hlay];exact h.h3
  ·show (lay _ _ _).length≤1280;rw [hlay];exact h.h4
  ·rcases lay_mem hx with h1 | h1
   ·exact h.hw x h1
   ·unfold thingW at h1
    simp only [List.mem_cons,List.mem_replicate] at h1
    unfold R64
    rcases h1 with h1 | h1 <;> omega
 ·exact h
theorem Ar.whole_spec {A:Ar} (h:A.ok) {i n:Int} (hn:0≤n) (hw:A.whole i n=true):0≤i∧i+n<A.ws.length:=by
 unfold Ar.whole at hw
 simp only [Bool.or_eq_true,Bool.and_eq_true] at hw
 rcases hw with ⟨h1,h2⟩ | ⟨h1,h2⟩
 ·exact ⟨(h.young_lt h1).1,(h.young_lt h2).2⟩
 ·exact ⟨(h.old_lt h1).1,(h.old_lt h2).2⟩
theorem Ar.ok.copy {A:Ar} (h:A.ok) (i:Int):(A.copy i).2.ok:=by
 unfold Ar.copy
 dsimp only
 split
 ·rename_i hc
  have hf:=A.thing_fields i
  have hs:=Ar.whole_spec h hf.1 hc.2.1
  have:=h.h1;have:=h.h2;have:=h.h3;have:=h.h4
  have hl:((A.ws.drop i.toNat).take (1+(A.thing i).2.1).toNat).length=(1+(A.thing i).2.1).toNat:=by simp;omega
  have hlay:(lay A.ws A.grn ((A.ws.drop i.toNat).take (1+(A.thing i).2.1).toNat)).length=A.ws.length:=lay_length (by omega)
  refine ⟨h.h1,?_,?_,?_,fun x hx=>?_⟩
  ·show A.nur≤A.grn+_;omega
  ·show A.grn+_≤(lay _ _ _).length;rw [hlay];omega
  ·show (lay _ _ _).length≤1280;rw [hlay];exact h.h4
  ·rcases lay_mem hx with h1 | h1
   ·exact h.hw x h1
   ·exact h.hw x (List.mem_of_mem_drop (List.mem_of_mem_take h1))
 ·exact h
theorem Ar.ok.clear {A:Ar} (h:A.ok):A.clear.ok:=⟨Nat.zero_le _,h.h2,h.h3,h.h4,h.hw⟩
theorem Ar.ok.cut {A:Ar} (h:A.ok) {n:Nat} (hn:A.nur+n≤A.ws.length):(A.cut n).ok:=⟨h.h1,Nat.le_add_right _ _,hn,h.h4,h.hw⟩
def Ar.fits (n o:Int):Bool:=decide (16≤n) && decide (n≤256) && decide (0≤o) && decide (o≤1024)
def Ar.new (n o:Int):Ar:=⟨List.replicate (n+o).toNat 0,n.toNat,0,n.toNat⟩
theorem Ar.new_ok {n o:Int} (h:Ar.fits n o=true):(Ar.new n o).ok:=by
 simp [Ar.fits] at h
 refine ⟨Nat.zero_le _,Nat.le_refl _,?_,?_,fun x hx=>?_⟩
 ·simp [Ar.new];omega
 ·simp [Ar.new];omega
 ·simp [Ar.new] at hx;unfold R64;omega
def Ar.list (A:Ar):Nat→Int→Int→List Int
 | 0,_,_=>[]
 | n+1,at_,e_=>if at_<e_ then (if (A.thing at_).2.2=0 then at_ :: A.list n (at_+1+(A.thing at_).2.1) e_ else []) else []
theorem Ar.list_len (A:Ar):∀ (n:Nat) (i j:Int),(A.list n i j).length≤n
 | 0,_,_=>Nat.le_refl _
 | n+1,i,j=>by
  unfold Ar.list
  split
  ·split
   ·simp;exact A.list_len n _ _
   ·exact Nat.zero_le _
  ·exact Nat.zero_le _
theorem Ar.list_step {A:Ar} {n:Nat} {i j:Int} (h:i<j) (hc:(A.thing i).2.2=0):A.list (n+1) i j=i :: A.list n (i+1+(A.thing i).2.1) j:=by
 rw [Ar.list,if_pos h,if_pos hc]
theorem Ar.list_end {A:Ar} {n:Nat} {i j:Int} (h:¬ (i<j∧(A.thing i).2.2=0)):A.list n i j=[]:=by
 cases n with
 | zero=>rfl
 | succ n=>
  rw [Ar.list]
  by_cases h1:i<j
  ·rw [if_pos h1,if_neg (fun h2=>h ⟨h1,h2⟩)]
  ·rw [if_neg h1]
def Ar.things (A:Ar):List Int × List Int:=(A.list 1300 0 A.yng,A.list 1300 A.nur A.grn)
end
section
open Go.RowKit
structure ArenaAt (w:World) (p g:Nat) (A:Ar):Prop where
 hp:Blk w p [.slice (some ⟨g,0,none⟩) A.ws.length A.ws.length, .int .i64 A.nur, .int .i64 A.yng, .int .i64 A.grn] 141
 hg:Blk w g (A.ws.map (Value.int .i64)) 2
 ok:A.ok
theorem ArenaAt.ne {w:World} {p g:Nat} {A:Ar} (h:ArenaAt w p g A):p≠g:=h.hp.ne h.hg (by decide)
theorem ArenaAt.keep {w w':World} {p g:Nat} {A:Ar} {S:Nat→Prop} (h:ArenaAt w p g A) (k:Keeps S w w') (h1:¬ S p) (h2:¬ S g):ArenaAt w' p g A:=
 ⟨k.blk h.hp h1,k.blk h.hg h2,h.ok⟩
theorem ArenaAt.cells {w:World} {p g:Nat} {A:Ar} (h:ArenaAt w p g A) :
  w.cell? ⟨p,0,none⟩=some (.slice (some ⟨g,0,none⟩) A.ws.length A.ws.length)∧w.cell? ⟨p,1,none⟩=some (.int .i64 A.nur)∧w.cell? ⟨p,2,none⟩=some (.int .i64 A.yng)∧w.cell? ⟨p,3,none⟩=some (.int .i64 A.grn):=
 ⟨h.hp.cell 0,h.hp.cell 1,h.hp.cell 2,h.hp.cell 3⟩
theorem ArenaAt.word {w:World} {p g:Nat} {A:Ar} (h:ArenaAt w p g A) (i:Nat) (hi:i<A.ws.length):w.cell? ⟨g,i,none⟩=some (.int .i64 (A.ws.getD i 0)):=by
 rw [h.hg.cell i,List.getElem?_map,List.getElem?_eq_getElem hi]
 simp [List.getD,hi]
structure ArenaTo (w:World) (p g:Nat) (w':World) (A:Ar):Prop where
 at_:ArenaAt w' p g A
 k:Keeps (fun b=>b=p∨b=g) w w'
section
variable {p g:Nat} {A:Ar}
theorem Young_c (i:Int) (w:World) (h:ArenaAt w p g A) :
  Calls Tryz.prog 84 #[.pointer (some ⟨p,0,none⟩), .int .i64 i] w fun e w'=>e=.returned (.bool (A.young i))∧w=w':=by
 obtain ⟨c0,c1,c2,c3⟩:=h.cells
 have pl:=h.hp.lt
 have HY:Hid (A.young i=(decide (0≤i) && decide (i<A.yng))):=rfl
 clear h c0 c1 c3
 by_cases hi:0≤i
 ·have hd:decide (0≤i)=true:=by simpa using hi
  have HX:=Hz (show A.young i=decide (i<(A.yng:Int)) by rw [HY.out,hd];rfl)
  clear HY
  go_enter Tryz.func84,Tryz.ntmps84
  go_wp2_with fail
  go_ret
  exact ⟨ret_bool HX.out.symm,rfl⟩
 ·have hd:decide (0≤i)=false:=by simpa using hi
  have HX:=Hz (show A.young i=false by rw [HY.out,hd];rfl)
  clear HY
  go_enter Tryz.func84,Tryz.ntmps84
  go_wp2_with fail
  go_ret
  exact ⟨ret_bool HX.out.symm,rfl⟩
theorem Old_c (i:Int) (w:World) (h:ArenaAt w p g A) :
  Calls Tryz.prog 85 #[.pointer (some ⟨p,0,none⟩), .int .i64 i] w fun e w'=>e=.returned (.bool (A.old i))∧w=w':=by
 obtain ⟨c0,c1,c2,c3⟩:=h.cells
 have pl:=h.hp.lt
 have HY:Hid (A.old i=(decide ((A.nur:Int)≤i) && decide (i<A.grn))):=rfl
 clear h c0 c2
 by_cases hi:(A.nur:Int)≤i
 ·have hd:decide ((A.nur:Int)≤i)=true:=by simpa using hi
  have HX:=Hz (show A.old i=decide (i<(A.grn:Int)) by rw [HY.out,hd];rfl)
  clear HY
  go_enter Tryz.func85,Tryz.ntmps85
  go_wp2_with fail
  go_ret
  exact ⟨ret_bool HX.out.symm,rfl⟩
 ·have hd:decide ((A.nur:Int)≤i)=false:=by simpa using hi
  have HX:=Hz (show A.old i=false by rw [HY.out,hd];rfl)
  clear HY
  go_enter Tryz.func85,Tryz.ntmps85
  go_wp2_with fail
  go_ret
  exact ⟨ret_bool HX.out.symm,rfl⟩
theorem Used_c (w:World) (h:ArenaAt w p g A) :
  Calls Tryz.prog 21 #[.pointer (some ⟨p,0,none⟩)] w fun e w'=>e=.returned (.tuple #[.int .i64 A.yng, .int .i64 ((A.grn-A.nur:Nat):Int)])∧Keeps (fun _=>False) w w':=by
 obtain ⟨c0,c1,c2,c3⟩:=h.cells
 have pl:=h.hp.lt
 have o1:=h.ok.h1;have o2:=h.ok.h2;have o3:=h.ok.h3;have o4:=h.ok.h4
 have hs:IntKind.i64.wrap ((A.grn:Int)-A.nur)=(A.grn:Int)-A.nur:=IntWalk.i64_in _ (by omega)
 go_enter Tryz.func21,Tryz.ntmps21
 go_wp2_with fail
 refine wp_region_ro (.free 0 (.free 1 (.free 2 (.free 4 (.free 5 (.free 6 (.free 8 (.free 9 (.free 10 (.pure 3 (.free 13 (.pure 7 (.pure 11 (.free 12 (.free 14 (.fin)))))))))))))))) [] (fun w'=>w'.cell? ⟨p,1,none⟩=some (.int .i64 A.nur)∧w'.cell? ⟨p,2,none⟩=some (.int .i64 A.yng)∧w'.cell? ⟨p,3,none⟩=some (.int .i64 A.grn)) (by kernel_rfl) (by kernel_rfl) ⟨c1,c2,c3⟩ ?_
 iterate 15 first | (refine wpRO_free rfl rfl _ (fun w'=>by go_simp;exact Gives.mk _ _) (fun K hK=>?_);go_simp;refine hK _ ?_;clear hK K) | (refine wpRO_skipF rfl rfl (fun K hK=>?_);go_simp;refine hK _ ?_;clear hK K) | (refine wpRO_pure rfl rfl _ (fun w' hG=>by obtain ⟨g0,g1,g2⟩:=hG;exact gives_agg2 rfl (by decide +kernel) rfl (by assumption) (by assumption)) (fun K hK=>?_);go_simp;refine hK _ ?_;clear hK K) | (refine wpRO_pure rfl rfl _ (fun w' hG=>by obtain ⟨g0,g1,g2⟩:=hG;go_simp;exact Gives.mk _ _) (fun K hK=>?_);go_simp;refine hK _ ?_;clear hK K) | (refine wpRO_skip rfl rfl (fun K hK=>?_);go_simp;refine hK _ ?_;clear hK K)
 refine wpRO_fin ?_
 go_wp2_with fail
 go_ret2
 exact ⟨ret_two rfl (by omega),(Keeps.refl _ _).drew⟩
theorem Free_c (w:World) (h:ArenaAt w p g A) :
  Calls Tryz.prog 52 #[.pointer (some ⟨p,0,none⟩)] w fun e w'=>e=.returned (.tuple #[.int .i64 ((A.nur-A.yng:Nat):Int), .int .i64 ((A.ws.length-A.grn:Nat):Int)])∧Keeps (fun _=>False) w w':=by
 obtain ⟨c0,c1,c2,c3⟩:=h.cells
 have pl:=h.hp.lt
 have o1:=h.ok.h1;have o2:=h.ok.h2;have o3:=h.ok.h3;have o4:=h.ok.h4
 have hs:IntKind.i64.wrap ((A.nur:Int)-A.yng)=(A.nur:Int)-A.yng:=IntWalk.i64_in _ (by omega)
 have hs2:IntKind.i64.wrap ((A.ws.length:Int)-A.grn)=(A.ws.length:Int)-A.grn:=IntWalk.i64_in _ (by omega)
 go_enter Tryz.func52,Tryz.ntmps52
 go_wp2_with fail
 refine wp_region_ro (.free 0 (.free 1 (.free 2 (.free 4 (.free 5 (.free 6 (.free 9 (.free 10 (.free 11 (.free 14 (.free 15 (.free 16 (.pure 3 (.pure 7 (.free 8 (.free 19 (.pure 12 (.free 13 (.pure 17 (.free 18 (.free 20 (.fin)))))))))))))))))))))) [] (fun w'=>w'.cell? ⟨p,0,none⟩=some (.slice (some ⟨g,0,none⟩) A.ws.length A.ws.length)∧w'.cell? ⟨p,1,none⟩=some (.int .i64 A.nur)∧w'.cell? ⟨p,2,none⟩=some (.int .i64 A.yng)∧w'.cell? ⟨p,3,none⟩=some (.int .i64 A.grn)) (by kernel_rfl) (by kernel_rfl) ⟨c0,c1,c2,c3⟩ ?_
 iterate 21 first | (refine wpRO_free rfl rfl _ (fun w'=>by go_simp;exact Gives.mk _ _) (fun K hK=>?_);go_simp;refine hK _ ?_;clear hK K) | (refine wpRO_skipF rfl rfl (fun K hK=>?_);go_simp;refine hK _ ?_;clear hK K) | (refine wpRO_pure rfl rfl _ (fun w' hG=>by obtain ⟨g0,g1,g2,g3⟩:=hG;exact gives_agg2 rfl (by decide +kernel) rfl (by assumption) (by assumption)) (fun K hK=>?_);go_simp;refine hK _ ?_;clear hK K) | (refine wpRO_pure rfl rfl _ (fun w' hG=>by obtain ⟨g0,g1,g2,g3⟩:=hG;go_simp;exact Gives.mk _ _) (fun K hK=>?_);go_simp;refine hK _ ?_;clear hK K) | (refine wpRO_skip rfl rfl (fun K hK=>?_);go_simp;refine hK _ ?_;clear hK K)
 refine wpRO_fin ?_
 go_wp2_with fail
 go_ret2
 exact ⟨ret_two (by omega) (by omega),(Keeps.refl _ _).drew⟩
theorem Load_c (i:Int) (w:World) (h:ArenaAt w p g A) :
  Calls Tryz.prog 86 #[.pointer (some ⟨p,0,none⟩), .int .i64 i] w fun e w'=>e=.returned (.int .i64 (A.load i))∧w=w':=by
 have H:=Hz h
 obtain ⟨c0,-,-,-⟩:=h.cells
 have pl:=h.hp.lt
 have hok:=h.ok
 cases hy:A.young i
 ·cases ho:A.old i
  ·have HX:=Hz (show A.load i=0 by unfold Ar.load Ar.inUse;rw [hy,ho];rfl)
   clear h c0
   go_enter Tryz.func86,Tryz.ntmps86
   go_wp2_with fail
   refine (Young_c i _ H.out).mono ?_
   rintro e w1 ⟨rfl,rfl⟩
   rw [hy]
   go_wp2_with fail
   refine (Old_c i _ H.out).mono ?_
   rintro e w1 ⟨rfl,rfl⟩
   rw [ho]
   go_wp2_with fail
   go_ret
   exact ⟨ret_int HX.out.symm,rfl⟩
  ·have hlt:=h.ok.old_lt ho
   have HX:=Hz (show A.load i=A.ws.getD i.toNat 0 by unfold Ar.load Ar.inUse;rw [hy,ho];rfl)
   obtain ⟨n,rfl⟩:∃ n:Nat,i=n:=⟨i.toNat,by omega⟩
   have c4:=h.word n (by omega)
   have hlt2:(n:Int)<A.ws.length:=hlt.2
   clear h hlt
   go_enter Tryz.func86,Tryz.ntmps86
   go_wp2_with fail
   refine (Young_c n _ H.out).mono ?_
   rintro e w1 ⟨rfl,rfl⟩
   rw [hy]
   go_wp2_with fail
   refine (Old_c n _ H.out).mono ?_
   rintro e w1 ⟨rfl,rfl⟩
   rw [ho]
   go_wp2_with fail
   go_ret
   exact ⟨ret_int (by rw [HX.out];simp),rfl⟩
 ·have hlt:=h.ok.young_lt hy
  have HX:=Hz (show A.load i=A.ws.getD i.toNat 0 by unfold Ar.load Ar.inUse;rw [hy];rfl)
  obtain ⟨n,rfl⟩:∃ n:Nat,i=n:=⟨i.toNat,by omega⟩
  have c4:=h.word n (by omega)
  have hlt2:(n:Int)<A.ws.length:=hlt.2
  clear h hlt
  go_enter Tryz.func86,Tryz.ntmps86
  go_wp2_with fail
  refine (Young_c n _ H.out).mono ?_
  rintro e w1 ⟨rfl,rfl⟩
  rw [hy]
  go_wp2_with fail
  go_ret
  exact ⟨ret_int (by rw [HX.out];simp),rfl⟩
theorem ArenaAt.set {w:World} (h:ArenaAt w p g A) {n:Nat} (x:Int) (hx:R64 x) (hu:A.inUse n=true):ArenaTo w p g (w.setCell ⟨g,n,none⟩ (.int .i64 x)) (A.store n x):=by
 have hs:A.store n x={ A with ws:=A.ws.set n x }:=by unfold Ar.store;rw [hu];simp
 refine ⟨⟨?_,?_,h.ok.store _ _ hx⟩,(Keeps.refl _ _).setCell (.inl (.inr rfl)) _⟩
 ·have:=h.hp.setOther (a:=⟨g,n,none⟩) h.ne (.int .i64 x)
  rw [hs];simpa using this
 ·have:=h.hg.setSame n (.int .i64 x)
  rw [hs,List.map_set];exact this
theorem Store_c (i x:Int) (w:World) (h:ArenaAt w p g A) (hx:R64 x) :
  Calls Tryz.prog 23 #[.pointer (some ⟨p,0,none⟩), .int .i64 i, .int .i64 x] w fun e w'=>e=.returned (.bool (A.inUse i))∧ArenaTo w p g w' (A.store i x):=by
 have H:=Hz h
 obtain ⟨c0,-,-,-⟩:=h.cells
 have pl:=h.hp.lt
 have HX:=Hz hx;clear hx
 cases hu:A.inUse i
 ·have hyo:=hu
  unfold Ar.inUse at hyo
  rw [Bool.or_eq_false_iff] at hyo
  obtain ⟨hy,ho⟩:=hyo
  have HE:=Hz (show A.store i x=A by unfold Ar.store;rw [hu];rfl)
  clear h hu
  go_enter Tryz.func23,Tryz.ntmps23
  go_wp2_with fail
  refine (Young_c i _ H.out).mono ?_
  rintro e w1 ⟨rfl,rfl⟩
  rw [hy]
  go_wp2_with fail
  refine (Old_c i _ H.out).mono ?_
  rintro e w1 ⟨rfl,rfl⟩
  rw [ho]
  go_wp2_with fail
  go_ret
  exact ⟨rfl,by rw [HE.out];exact H.out,Keeps.refl _ _⟩
 ·have hlt:=h.ok.use_lt hu
  have HU:=Hz hu
  obtain ⟨n,rfl⟩:∃ n:Nat,i=n:=⟨i.toNat,by omega⟩
  have c4:=h.word n (by omega)
  have f4:=h.hg.free n
  have hlt2:(n:Int)<A.ws.length:=hlt.2
  clear h hlt
  cases hy:A.young n
  ·have ho:A.old n=true:=by
    unfold Ar.inUse at hu;rw [hy] at hu;simpa using hu
   clear hu
   go_enter Tryz.func23,Tryz.ntmps23
   go_wp2_with fail
   refine (Young_c n _ H.out).mono ?_
   rintro e w1 ⟨rfl,rfl⟩
   rw [hy]
   go_wp2_with fail
   refine (Old_c n _ H.out).mono ?_
   rintro e w1 ⟨rfl,rfl⟩
   rw [ho]
   go_wp2_with fail
   go_ret
   exact ⟨rfl,H.out.set x HX.out HU.out⟩
  ·clear hu
   go_enter Tryz.func23,Tryz.ntmps23
   go_wp2_with fail
   refine (Young_c n _ H.out).mono ?_
   rintro e w1 ⟨rfl,rfl⟩
   rw [hy]
   go_wp2_with fail
   go_ret
   exact ⟨rfl,H.out.set x HX.out HU.out⟩
theorem Thing_c (i:Int) (w:World) (h:ArenaAt w p g A) :
  Calls Tryz.prog 79 #[.pointer (some ⟨p,0,none⟩), .int .i64 i] w fun e w'=>e=.returned (.tuple #[.int .i64 (A.thing i).1, .int .i64 (A.thing i).2.1, .int .i64 (A.thing i).2.2])∧w=w':=by
 go_enter Tryz.func79,Tryz.ntmps79
 go_wp2_with fail
 refine (Load_c i _ h).mono ?_
 rintro e w1 ⟨rfl,rfl⟩
 have hr:=h.ok.load i
 go_wp2_with fail
 refine (Parts_c (A.load i) _ hr.1 hr.2).mono ?_
 rintro e w1 ⟨rfl,rfl⟩
 go_wp2_with fail
 go_ret3
 exact ⟨rfl,rfl⟩
theorem AClear_c (w:World) (h:ArenaAt w p g A) :
  Calls Tryz.prog 64 #[.pointer (some ⟨p,0,none⟩)] w fun e w'=>e=.returned (.tuple #[])∧ArenaTo w p g w' A.clear:=by
 have H:=Hz h
 obtain ⟨-,-,c2,-⟩:=h.cells
 have f2:=h.hp.free 2
 have pl:=h.hp.lt
 clear h
 go_enter Tryz.func64,Tryz.ntmps64
 go_wp2_with fail
 go_end0
 refine ⟨rfl,⟨?_,?_,H.out.ok.clear⟩,(Keeps.refl _ _).setCell (.inl (.inl rfl)) _⟩
 ·simpa [Ar.clear] using H.out.hp.setSame 2 (.int .i64 0)
 ·exact H.out.hg.setOther (a:=⟨p,2,none⟩) (Ne.symm H.out.ne) _
theorem ACut_c (n:Nat) (w:World) (h:ArenaAt w p g A) (hn:A.nur+n≤A.ws.length) :
  Calls Tryz.prog 81 #[.pointer (some ⟨p,0,none⟩), .int .i64 n] w fun e w'=>e=.returned (.tuple #[])∧ArenaTo w p g w' (A.cut n):=by
 have H:=Hz h
 obtain ⟨-,c1,-,c3⟩:=h.cells
 have f3:=h.hp.free 3
 have pl:=h.hp.lt
 have o4:=h.ok.h4
 clear h
 go_enter Tryz.func81,Tryz.ntmps81
 go_wp2_with fail
 go_end0
 refine ⟨rfl,⟨?_,?_,H.out.ok.cut hn⟩,(Keeps.refl _ _).setCell (.inl (.inl rfl)) _⟩
 ·simpa [Ar.cut] using H.out.hp.setSame 3 (.int .i64 ((A.nur:Int)+n))
 ·exact H.out.hg.setOther (a:=⟨p,3,none⟩) (Ne.symm H.out.ne) _
end
end
section
open Go.RowKit
theorem gRun_copy {P:Program} {w:World} {o:Oper} {a:Act} {K:Act→World→Prop} (d s:Operand) (t:TypeId)
  (ho:o.op=.call { callee:=.builtin .copy,args:=#[d,s],argTypes:=#[t,t] })
  (e:TypeId) (hu:P.underlying t=some (.slice e)) (hsz:(P.info? e).map (·.size)=some 1)
  (g off dLen dCap:Nat) (ad:Addr) (sLen sCap:Nat) (hd:a.eval d=.slice (some ⟨g,off,none⟩) dLen dCap) (hs:a.eval s=.slice (some ad) sLen sCap)
  (cur:List Value) (hb:Blk w g cur e) (cs:List Value) (hn:cs.length=Nat.min sLen dLen)
  (hsrc:∀ j v,cs[j]? = some v→w.cell? (ad.add j)=some v) (hfit:off+cs.length≤cur.length) (h1:∀ v ∈ cs,v.oneCell'=true)
  (h:K (a.put o.dst (goInt cs.length)) (w.setRow g (cur.take off ++ cs ++ cur.drop (off+cs.length)).toArray)):gRun P o a w K:=by
 have hrun:=run_copy_row (P:=P) w t t o.type e g off dLen dCap ad sLen sCap cur.toArray e cs hu hsz hb hn hsrc (by simpa using hfit) h1
 unfold gRun execOp
 simp only [ho,resolve,invoke,builtin,Sem.run_bind,Sem.run_pure,Result.andThen_ok,List.map_toArray,List.map_cons,List.map_nil,hd,hs,hrun]
 exact h
theorem lay_map {l m:List Int} {i:Nat} (f:Int→Value):(lay l i m).map f=(l.map f).take i ++ m.map f ++ (l.map f).drop (i+(m.map f).length):=by
 unfold lay;simp [List.map_take,List.map_drop]
theorem lay_set {l:List Int} {i j:Nat} {h:Int} (hl:i+1+j<l.length):(lay l i (h :: List.replicate j 2)).set (i+1+j) 2=lay l i (h :: List.replicate (j+1) 2):=by
 apply List.ext_getElem?
 intro k
 have e1:(h :: List.replicate j (2:Int)).length=j+1:=by simp
 have e2:(h :: List.replicate (j+1) (2:Int)).length=j+2:=by simp
 have hl1:(lay l i (h :: List.replicate j 2)).length=l.length:=lay_length (by rw [e1];omega)
 rw [List.getElem?_set,lay_get (by rw [e1];omega),lay_get (by rw [e2];omega),e1,e2,hl1]
 by_cases hk:i+1+j=k
 ·subst hk
  rw [if_pos rfl,if_pos hl,if_pos (by omega)]
  rw [show i+1+j-i=j+1 by omega,List.getElem?_cons_succ,List.getElem?_replicate,if_pos (by omega)]
 ·rw [if_neg hk]
  by_cases h2:i≤k∧k<i+(j+1)
  ·rw [if_pos h2,if_pos (by omega)]
   obtain ⟨m,rfl⟩:∃ m,k=i+m:=⟨k-i,by omega⟩
   rw [show i+m-i=m by omega]
   cases m with
   | zero=>rfl
   | succ m=>rw [List.getElem?_cons_succ,List.getElem?_cons_succ,List.getElem?_replicate,List.getElem?_replicate,if_pos (by omega),if_pos (by omega)]
  ·rw [if_neg h2,if_neg (by omega)]
theorem lay_one {l:List Int} {i:Nat} {h:Int} (hl:i<l.length):l.set i h=lay l i [h]:=by
 unfold lay
 rw [List.set_eq_take_append_cons_drop,if_pos hl]
 simp
theorem Keeps.self {S:Nat→Prop} {w w':World} (h:Keeps (fun _=>False) w w'):Keeps S w w':=h.mono fun _ _ h=>h.elim
section
variable {p g:Nat} {A:Ar}
theorem ArenaTo.refl {w w':World} (h:ArenaAt w p g A) (k:Keeps (fun _=>False) w w'):ArenaTo w p g w' A:=⟨h.keep k (fun h=>h) (fun h=>h),k.self⟩
theorem ArenaTo.trans {w w1 w2:World} {B C:Ar} (h:ArenaTo w p g w1 B) (k:ArenaTo w1 p g w2 C):ArenaTo w p g w2 C:=⟨k.at_,h.k.trans k.k⟩
theorem takeY_c (n:Int) (w:World) (h:ArenaAt w p g A) (h0:0≤n) (h1:n≤1000) :
  Calls Tryz.prog 139 #[.pointer (some ⟨p,0,none⟩), .int .i64 n, .bool false] w fun e w'=>e=.returned (.int .i64 (A.takeY n).1)∧ArenaTo w p g w' (A.takeY n).2:=by
 have H:=Hz h
 have o1:=h.ok.h1;have o2:=h.ok.h2;have o3:=h.ok.h3;have o4:=h.ok.h4
 have hn:decide ((0:Int)≤n)=true:=by simpa using h0
 clear h
 by_cases hc:n≤((A.nur-A.yng:Nat):Int)
 ·have hcb:decide (n≤((A.nur-A.yng:Nat):Int))=true:=by simpa using hc
  have HE:=Hz (show A.takeY n=((A.yng:Int), { A with yng:=A.yng+n.toNat }) from if_pos ⟨h0,by omega⟩)
  go_enter Tryz.func139,Tryz.ntmps139
  go_wp2_with fail
  refine (Free_c _ H.out).mono ?_
  rintro e w1 ⟨rfl,hk⟩
  have H1:=Hz (H.out.keep hk (fun h=>h) (fun h=>h));have HK:=Hz hk
  obtain ⟨-,-,c2,-⟩:=H1.out.cells
  have f2:=H1.out.hp.free 2;have pl:=H1.out.hp.lt
  clear hk
  go_wp2_with fail
  go_ret
  refine ⟨by rw [HE.out];exact ret_int (by dsimp only;try omega),?_⟩
  rw [HE.out]
  refine ⟨⟨?_,?_,?_⟩,(HK.out.self).setCell (p:=⟨p,2,none⟩) (.inl (.inl rfl)) _⟩
  ·have:=H1.out.hp.setSame 2 (.int .i64 ((A.yng:Int)+n))
   have e:((A.yng:Int)+n)=((A.yng+n.toNat:Nat):Int):=by omega
   rw [e] at this ⊢
   simpa using this
  ·exact H1.out.hg.setOther (a:=⟨p,2,none⟩) (Ne.symm H.out.ne) _
  ·exact ⟨by show A.yng+n.toNat≤A.nur;omega,o2,o3,o4,H.out.ok.hw⟩
 ·have hcb:decide (n≤((A.nur-A.yng:Nat):Int))=false:=by simpa using hc
  have HE:=Hz (show A.takeY n=(-1,A) from if_neg (by omega))
  go_enter Tryz.func139,Tryz.ntmps139
  go_wp2_with fail
  refine (Free_c _ H.out).mono ?_
  rintro e w1 ⟨rfl,hk⟩
  go_wp2_with fail
  go_ret
  refine ⟨by rw [HE.out];rfl,?_⟩
  rw [HE.out]
  exact ArenaTo.refl H.out hk
theorem takeO_c (n:Int) (w:World) (h:ArenaAt w p g A) (h0:0≤n) (h1:n≤1000) :
  Calls Tryz.prog 139 #[.pointer (some ⟨p,0,none⟩), .int .i64 n, .bool true] w fun e w'=>e=.returned (.int .i64 (A.takeO n).1)∧ArenaTo w p g w' (A.takeO n).2:=by
 have H:=Hz h
 have o1:=h.ok.h1;have o2:=h.ok.h2;have o3:=h.ok.h3;have o4:=h.ok.h4
 have hn:decide ((0:Int)≤n)=true:=by simpa using h0
 clear h
 by_cases hc:n≤((A.ws.length-A.grn:Nat):Int)
 ·have hcb:decide (n≤((A.ws.length-A.grn:Nat):Int))=true:=by simpa using hc
  have HE:=Hz (show A.takeO n=((A.grn:Int), { A with grn:=A.grn+n.toNat }) from if_pos ⟨h0,by omega⟩)
  go_enter Tryz.func139,Tryz.ntmps139
  go_wp2_with fail
  refine (Free_c _ H.out).mono ?_
  rintro e w1 ⟨rfl,hk⟩
  have H1:=Hz (H.out.keep hk (fun h=>h) (fun h=>h));have HK:=Hz hk
  obtain ⟨-,-,-,c2⟩:=H1.out.cells
  have f2:=H1.out.hp.free 3;have pl:=H1.out.hp.lt
  clear hk
  go_wp2_with fail
  go_ret
  refine ⟨by rw [HE.out];exact ret_int (by dsimp only;try omega),?_⟩
  rw [HE.out]
  refine ⟨⟨?_,?_,?_⟩,(HK.out.self).setCell (p:=⟨p,3,none⟩) (.inl (.inl rfl)) _⟩
  ·have:=H1.out.hp.setSame 3 (.int .i64 ((A.grn:Int)+n))
   have e:((A.grn:Int)+n)=((A.grn+n.toNat:Nat):Int):=by omega
   rw [e] at this ⊢
   simpa using this
  ·exact H1.out.hg.setOther (a:=⟨p,3,none⟩) (Ne.symm H.out.ne) _
  ·exact ⟨o1,by show A.nur≤A.grn+n.toNat;omega,by show A.grn+n.toNat≤A.ws.length;omega,o4,H.out.ok.hw⟩
 ·have hcb:decide (n≤((A.ws.length-A.grn:Nat):Int))=false:=by simpa using hc
  have HE:=Hz (show A.takeO n=(-1,A) from if_neg (by omega))
  go_enter Tryz.func139,Tryz.ntmps139
  go_wp2_with fail
  refine (Free_c _ H.out).mono ?_
  rintro e w1 ⟨rfl,hk⟩
  go_wp2_with fail
  go_ret
  refine ⟨by rw [HE.out];rfl,?_⟩
  rw [HE.out]
  exact ArenaTo.refl H.out hk
theorem make_c (k f:Int) (w:World) (h:ArenaAt w p g A) (hf:R64 f) :
  Calls Tryz.prog 83 #[.pointer (some ⟨p,0,none⟩), .int .i64 k, .int .i64 f, .bool false] w fun e w'=>e=.returned (.int .i64 (A.make k f).1)∧ArenaTo w p g w' (A.make k f).2:=by
 have H:=Hz h
 have o1:=h.ok.h1;have o2:=h.ok.h2;have o3:=h.ok.h3;have o4:=h.ok.h4
 have HOK:=Hz (h.ok.make k f)
 have HF:=Hz hf
 clear h hf
 cases hfit:fitsW k f
 ·have HE:=Hz (Ar.make_no (A:=A) (k:=k) (f:=f) (by rw [hfit];simp))
  have hcode:=(headW_code hfit).2
  clear hfit
  go_enter Tryz.func83,Tryz.ntmps83
  go_wp2_with fail
  refine (Head_c k f _ HF.out.1 HF.out.2).mono ?_
  rintro e w1 ⟨rfl,rfl⟩
  go_wp2_with fail
  go_ret
  rw [HE.out]
  exact ⟨rfl,ArenaTo.refl H.out (Keeps.refl _ _)⟩
 ·have hs:=fitsW_spec hfit
  obtain ⟨n,rfl⟩:∃ n:Nat,f=n:=⟨f.toNat,by omega⟩
  have hn:n≤12:=by omega
  have HH:=Hz (headW_fits hfit)
  by_cases hroom:1+(n:Int)≤(A.nur:Int)-A.yng
  ·have HE:=Hz (show A.make k n=((A.yng:Int), { A with yng:=A.yng+(1+(n:Int)).toNat,ws:=lay A.ws A.yng (thingW k n) }) from if_pos ⟨hfit,hroom⟩)
   have HT:=Hz (show A.takeY (1+(n:Int))=((A.yng:Int), { A with yng:=A.yng+(1+(n:Int)).toNat }) from if_pos ⟨by omega,hroom⟩)
   have hk1:=hs.1;have hk2:=hs.2.1
   clear hfit hs
   go_enter Tryz.func83,Tryz.ntmps83
   go_wp2_with fail
   refine (Head_c k n _ HF.out.1 HF.out.2).mono ?_
   rintro e w1 ⟨rfl,rfl⟩
   rw [HH.out]
   go_wp2_with fail
   refine (takeY_c (1+(n:Int)) _ H.out (by omega) (by omega)).mono ?_
   rintro e w2 ⟨rfl,hto⟩
   rw [HT.out] at hto ⊢
   dsimp only at hto ⊢
   have HTO:=Hz hto
   obtain ⟨c0,-,-,-⟩:=hto.at_.cells
   have pl:=hto.at_.hp.lt;have gl:=hto.at_.hg.lt
   have c4:=hto.at_.word A.yng (by dsimp only;omega)
   have f4:=hto.at_.hg.free A.yng
   dsimp only at c0 c4
   have hlt:(A.yng:Int)<A.ws.length:=by omega
   clear hto
   go_wp2_with fail
   have hb0:=HTO.out.at_.hg.setSame A.yng (.int .i64 (16*(n:Int)+k))
   have hp0:=HTO.out.at_.hp.setOther (a:=⟨g,A.yng,none⟩) H.out.ne (.int .i64 (16*(n:Int)+k))
   have hk0:=HTO.out.k.setCell (p:=⟨g,A.yng,none⟩) (.inl (.inr rfl)) (.int .i64 (16*(n:Int)+k))
   dsimp only at hb0 hp0
   rw [←List.map_set,lay_one (by omega)] at hb0
   generalize w2.setCell ⟨g,A.yng,none⟩ (.int .i64 (16*(n:Int)+k))=w3 at *
   have HB0:=Hz hb0;have HP0:=Hz hp0;have HK0:=Hz hk0
   clear hb0 hp0 hk0 c0 c4 f4 HTO
   go_loopw [36] (fun i wr=>∃ j:Nat,j≤n∧i=.int .i64 j∧Blk wr g ((lay A.ws A.yng ((16*(n:Int)+k) :: List.replicate j 2)).map (Value.int .i64)) 2∧Keeps (fun b=>b=g) w3 wr) (fun i _=>n-(intOf i).toNat)
   case atStart=>exact ⟨0,Nat.zero_le _,rfl,HB0.out,Keeps.refl _ _⟩
   case round=>
    obtain ⟨j,hj,rfl,hb,hk⟩:=hrel
    have HB:=Hz hb;have HK:=Hz hk
    have hpr:=hk.blk HP0.out H.out.ne
    have c0:=hpr.cell 0
    have pl:=hpr.lt;have gl:=hb.lt
    simp only [List.getElem?_cons_zero] at c0
    have HPR:=Hz hpr
    by_cases hlt2:j<n
    ·have f4:=hb.free (A.yng+1+j)
     have c4:∃ v,wr.cell? ⟨g,A.yng+1+j,none⟩=some v:=by
      have hl:(lay A.ws A.yng ((16*(n:Int)+k) :: List.replicate j 2)).length=A.ws.length:=lay_length (by simp;omega)
      rw [hb.cell,List.getElem?_map,List.getElem?_eq_getElem (by rw [hl];omega)]
      exact ⟨_,rfl⟩
     obtain ⟨v4,c4⟩:=c4
     have hix:(A.yng:Int)+1+j<A.ws.length:=by omega
     have hw1:IntKind.i64.wrap ((A.yng:Int)+1)=(A.yng:Int)+1:=IntWalk.i64_in _ (by omega)
     have hw2:IntKind.i64.wrap ((A.yng:Int)+1+j)=(A.yng:Int)+1+j:=IntWalk.i64_in _ (by omega)
     have hw3:((A.yng:Int)+1+j).toNat=A.yng+1+j:=by omega
     have hw4:(0:Int)≤(A.yng:Int)+1+j:=by omega
     clear hb hk hpr
     go_wp2_with fail
     refine wp_region_ro (.free 0 (.free 1 (.free 2 (.free 4 (.free 5 (.free 6 (.free 7 (.pure 3 (.run 8 (.free 9 (.run 10 (.swi [] (.fin))))))))))))) [10] (fun w'=>w'.cell? ⟨p,0,none⟩=some (.slice (some ⟨g,0,none⟩) A.ws.length A.ws.length)) (by kernel_rfl) (by kernel_rfl) c0 ?_
     iterate 8 first | (refine wpRO_free rfl rfl _ (fun w'=>by go_simp;exact Gives.mk _ _) (fun K hK=>?_);go_simp;refine hK _ ?_;clear hK K) | (refine wpRO_skipF rfl rfl (fun K hK=>?_);go_simp;refine hK _ ?_;clear hK K) | (refine wpRO_pure rfl rfl _ (fun w' hG=>by obtain g0:=hG;exact gives_agg2 rfl (by decide +kernel) rfl (by assumption) (by assumption)) (fun K hK=>?_);go_simp;refine hK _ ?_;clear hK K) | (refine wpRO_pure rfl rfl _ (fun w' hG=>by obtain g0:=hG;go_simp;exact Gives.mk _ _) (fun K hK=>?_);go_simp;refine hK _ ?_;clear hK K) | (refine wpRO_skip rfl rfl (fun K hK=>?_);go_simp;refine hK _ ?_;clear hK K)
     refine wpRO_run rfl rfl (fun K hK=>?_);unfold gRun;go_simp
     refine (Nil_c _).mono ?_
     rintro e w5 ⟨rfl,rfl⟩
     refine hK _ _ (fun hg=>c0) ?_
     clear hK K
     iterate 1 first | (refine wpRO_free rfl rfl _ (fun w'=>by go_simp;exact Gives.mk _ _) (fun K hK=>?_);go_simp;refine hK _ ?_;clear hK K) | (refine wpRO_skipF rfl rfl (fun K hK=>?_);go_simp;refine hK _ ?_;clear hK K)
     refine wpRO_chg rfl rfl rfl (fun K hK=>?_);unfold gRun;go_simp
     refine hK _ _ ?_
     clear hK K
     refine wpRO_swi (fun _=>True) trivial (wpRO_fin ?_)
     clear hw1 hw2 hw3 hw4
     have hset:=lay_set (l:=A.ws) (i:=A.yng) (j:=j) (h:=16*(n:Int)+k) (by omega)
     have hb2:Blk (wr.setCell ⟨g,A.yng+1+j,none⟩ (.int .i64 2)) g ((lay A.ws A.yng ((16*(n:Int)+k) :: List.replicate (j+1) 2)).map (Value.int .i64)) 2:=by
      rw [←hset,List.map_set];exact HB.out.setSame _ _
     have HB2:=Hz hb2
     have HK2:=Hz (HK.out.setCell (p:=⟨g,A.yng+1+j,none⟩) (.inl rfl) (.int .i64 2))
     clear hset hb2 c0 c4 f4
     go_wp2_with fail
     go_roundw
     case rel=>exact ⟨j+1,by omega,by go_num,HB2.out.drew,HK2.out.drew⟩
     case measure=>simp [intOf];omega
    ·obtain rfl:j=n:=by omega
     clear hb hk hpr
     go_wp2_with fail
     go_ret
     have hok:=HOK.out
     rw [HE.out] at hok ⊢
     have hl:(lay A.ws A.yng (thingW k j)).length=A.ws.length:=lay_length (by rw [thingW_length (by omega)];omega)
     refine ⟨rfl,⟨?_,HB.out,hok⟩,HK0.out.trans (HK.out.mono fun _ _ h=>.inr h)⟩
     have:=HPR.out
     dsimp only
     rw [hl];exact this
  ·have HE:=Hz (Ar.make_no (A:=A) (k:=k) (f:=n) (fun h=>hroom h.2))
   have HT:=Hz (show A.takeY (1+(n:Int))=(-1,A) from if_neg (fun h=>hroom h.2))
   clear hfit hs hroom
   go_enter Tryz.func83,Tryz.ntmps83
   go_wp2_with fail
   refine (Head_c k n _ HF.out.1 HF.out.2).mono ?_
   rintro e w1 ⟨rfl,rfl⟩
   rw [HH.out]
   go_wp2_with fail
   refine (takeY_c (1+(n:Int)) _ H.out (by omega) (by omega)).mono ?_
   rintro e w2 ⟨rfl,hto⟩
   rw [HT.out] at hto ⊢
   dsimp only at hto ⊢
   go_wp2_with fail
   go_ret
   rw [HE.out]
   exact ⟨rfl,hto⟩
theorem Make_c (k f:Int) (w:World) (h:ArenaAt w p g A) (hf:R64 f) :
  Calls Tryz.prog 22 #[.pointer (some ⟨p,0,none⟩), .int .i64 k, .int .i64 f] w fun e w'=>e=.returned (.int .i64 (A.make k f).1)∧ArenaTo w p g w' (A.make k f).2:=by
 go_enter Tryz.func22,Tryz.ntmps22
 go_wp2_with fail
 refine (make_c k f _ h hf).mono ?_
 rintro e w1 ⟨rfl,hto⟩
 go_wp2_with fail
 go_ret
 exact ⟨rfl,hto⟩
end
end
section
open Go.RowKit
theorem int_one' {l:List Int}:∀ u ∈ l.map (Value.int .i64),u.oneCell'=true:=by
 intro u hu;simp only [List.mem_map] at hu;obtain ⟨x,-,rfl⟩:=hu;rfl
section
variable {p g:Nat} {A:Ar}
theorem ACopy_c (i:Int) (w:World) (h:ArenaAt w p g A) :
  Calls Tryz.prog 120 #[.pointer (some ⟨p,0,none⟩), .int .i64 i] w fun e w'=>e=.returned (.int .i64 (A.copy i).1)∧ArenaTo w p g w' (A.copy i).2:=by
 have H:=Hz h
 have o1:=h.ok.h1;have o2:=h.ok.h2;have o3:=h.ok.h3;have o4:=h.ok.h4
 have HOK:=Hz (h.ok.copy i)
 have hfl:=A.thing_fields i
 have HU:=Hz (A.thing_use (i:=i))
 have HUL:=Hz (h.ok.use_lt (i:=i))
 have HNO:=Hz (Ar.copy_no (A:=A) (i:=i));have HYES:=Hz (Ar.copy_yes (A:=A) (i:=i))
 have HWS:=Hz (Ar.whole_spec h.ok (i:=i) (n:=(A.thing i).2.1) hfl.1)
 clear h
 obtain ⟨⟨k,n,c⟩,hT⟩:∃ t,A.thing i=t:=⟨_,rfl⟩
 rw [hT] at hfl HU HNO HYES HWS
 dsimp only at hfl HU HNO HYES HWS
 have HT:=Hz hT
 clear hT
 obtain ⟨n,rfl⟩:∃ q:Nat,n=q:=⟨n.toNat,by omega⟩
 have hn:n≤12:=by omega
 clear hfl
 go_enter Tryz.func120,Tryz.ntmps120
 go_wp2_with fail
 refine (Thing_c i _ H.out).mono ?_
 rintro e w1 ⟨rfl,rfl⟩
 rw [HT.out]
 dsimp only
 by_cases hc:c=0
 ·subst hc
  have hu:=HUL.out (HU.out rfl)
  obtain ⟨m,rfl⟩:∃ m:Nat,i=m:=⟨i.toNat,by omega⟩
  have hm:m<1280:=by omega
  have HW:Hid (A.whole m n=((A.young m && A.young ((m:Int)+n)) || (A.old m && A.old ((m:Int)+n)))):=rfl
  have HYO:Hid (A.young m=true→A.old m=false):=fun h=>by
   simp [Ar.young] at h;simp [Ar.old];omega
  clear hu
  go_upto_region 2 with fail
  go_cut [42] (fun v wx=>v=.bool (!A.whole m n)∧wx=w)
  case first=>
   cases hy:A.young m
   ·cases ho:A.old m
    ·have HX:=Hz (show A.whole m n=false by rw [HW.out,hy,ho];rfl)
     go_wp2_with fail
     refine (Young_c m _ H.out).mono ?_
     rintro e w1 ⟨rfl,rfl⟩
     rw [hy]
     go_wp2_with fail
     refine (Old_c m _ H.out).mono ?_
     rintro e w1 ⟨rfl,rfl⟩
     rw [ho]
     go_wp2_with fail
     go_meet
     exact ⟨by rw [HX.out];rfl,rfl⟩
    ·have HX:=Hz (show A.whole m n=A.old ((m:Int)+n) by rw [HW.out,hy,ho];simp)
     go_wp2_with fail
     refine (Young_c m _ H.out).mono ?_
     rintro e w1 ⟨rfl,rfl⟩
     rw [hy]
     go_wp2_with fail
     refine (Old_c m _ H.out).mono ?_
     rintro e w1 ⟨rfl,rfl⟩
     rw [ho]
     go_wp2_with fail
     refine (Old_c ((m:Int)+n) _ H.out).mono ?_
     rintro e w1 ⟨rfl,rfl⟩
     rw [←HX.out]
     go_wp2_with fail
     go_meet
     exact ⟨rfl,rfl⟩
   ·have ho:=HYO.out hy
    cases hy2:A.young ((m:Int)+n)
    ·have HX:=Hz (show A.whole m n=false by rw [HW.out,hy,hy2,ho];simp)
     go_wp2_with fail
     refine (Young_c m _ H.out).mono ?_
     rintro e w1 ⟨rfl,rfl⟩
     rw [hy]
     go_wp2_with fail
     refine (Young_c ((m:Int)+n) _ H.out).mono ?_
     rintro e w1 ⟨rfl,rfl⟩
     rw [hy2]
     go_wp2_with fail
     refine (Old_c m _ H.out).mono ?_
     rintro e w1 ⟨rfl,rfl⟩
     rw [ho]
     go_wp2_with fail
     go_meet
     exact ⟨by rw [HX.out];rfl,rfl⟩
    ·have HX:=Hz (show A.whole m n=true by rw [HW.out,hy,hy2];simp)
     go_wp2_with fail
     refine (Young_c m _ H.out).mono ?_
     rintro e w1 ⟨rfl,rfl⟩
     rw [hy]
     go_wp2_with fail
     refine (Young_c ((m:Int)+n) _ H.out).mono ?_
     rintro e w1 ⟨rfl,rfl⟩
     rw [hy2]
     go_wp2_with fail
     go_meet
     exact ⟨by rw [HX.out];rfl,rfl⟩
  case rest=>
   obtain ⟨rfl,rfl⟩:=hcut
   cases hw:A.whole m n
   ·have HE:=Hz (HNO.out (by rw [hw];simp))
    go_wp2_with fail
    go_ret
    exact ⟨by rw [HE.out];rfl,by rw [HE.out];exact ArenaTo.refl H.out (Keeps.refl _ _)⟩
   ·have hws:=HWS.out hw
    by_cases hroom:1+(n:Int)≤(A.ws.length:Int)-A.grn
    ·have HE:=Hz (HYES.out ⟨rfl,hw,hroom⟩)
     have HTK:=Hz (show A.takeO (1+(n:Int))=((A.grn:Int), { A with grn:=A.grn+(1+(n:Int)).toNat }) from if_pos ⟨by omega,hroom⟩)
     go_wp2_with fail
     refine (takeO_c (1+(n:Int)) _ H.out (by omega) (by omega)).mono ?_
     rintro e w2 ⟨rfl,hto⟩
     rw [HTK.out] at hto ⊢
     dsimp only at hto ⊢
     have HTO:=Hz hto
     obtain ⟨c0,-,-,-⟩:=hto.at_.cells
     have pl:=hto.at_.hp.lt;have gl:=hto.at_.hg.lt
     dsimp only at c0
     clear hto
     have hw1:IntKind.i64.wrap ((A.grn:Int)+1)=(A.grn:Int)+1:=IntWalk.i64_in _ (by omega)
     have hw2:IntKind.i64.wrap ((A.grn:Int)+1+n)=(A.grn:Int)+1+n:=IntWalk.i64_in _ (by omega)
     have hw3:IntKind.i64.wrap ((m:Int)+1)=(m:Int)+1:=IntWalk.i64_in _ (by omega)
     have hw4:IntKind.i64.wrap ((m:Int)+1+n)=(m:Int)+1+n:=IntWalk.i64_in _ (by omega)
     have b1:(A.grn:Int)≤(A.grn:Int)+1+n:=by omega
     have b2:(A.grn:Int)+1+n≤(A.ws.length:Int):=by omega
     have b3:(m:Int)≤(m:Int)+1+n:=by omega
     have b4:(m:Int)+1+n≤(A.ws.length:Int):=by omega
     have b5:(0:Int)≤(A.grn:Int)+1+n:=by omega
     have b6:(0:Int)≤(m:Int)+1+n:=by omega
     have b7:((A.grn:Int)+1+n).toNat=A.grn+1+n:=by omega
     have b8:((m:Int)+1+n).toNat=m+1+n:=by omega
     have q1:¬ A.ws.length=A.grn:=by omega
     have q2:¬ A.ws.length=m:=by omega
     go_wp2_with fail
     refine wp_region_ro (.free 0 (.free 1 (.free 2 (.free 4 (.free 5 (.free 6 (.free 7 (.free 8 (.free 10 (.free 11 (.free 12 (.free 14 (.free 15 (.free 16 (.free 17 (.free 18 (.pure 3 (.free 9 (.pure 13 (.free 19 (.run 20 (.swi [] (.fin))))))))))))))))))))))) [20] (fun w'=>w'.cell? ⟨p,0,none⟩=some (.slice (some ⟨g,0,none⟩) A.ws.length A.ws.length)) (by kernel_rfl) (by kernel_rfl) c0 ?_
     iterate 20 first | (refine wpRO_free rfl rfl _ (fun w'=>by go_simp;exact Gives.mk _ _) (fun K hK=>?_);go_simp;refine hK _ ?_;clear hK K) | (refine wpRO_skipF rfl rfl (fun K hK=>?_);go_simp;refine hK _ ?_;clear hK K) | (refine wpRO_pure rfl rfl _ (fun w' hG=>by obtain g0:=hG;exact gives_agg2 rfl (by decide +kernel) rfl (by assumption) (by assumption)) (fun K hK=>?_);go_simp;refine hK _ ?_;clear hK K) | (refine wpRO_pure rfl rfl _ (fun w' hG=>by obtain g0:=hG;go_simp;exact Gives.mk _ _) (fun K hK=>?_);go_simp;refine hK _ ?_;clear hK K) | (refine wpRO_skip rfl rfl (fun K hK=>?_);go_simp;refine hK _ ?_;clear hK K)
     clear hw1 hw2 hw3 hw4 b1 b2 b3 b4 b5 b6 b7 b8
     have hcl:(((A.ws.drop m).take (1+n)).map (Value.int .i64)).length=1+n:=by simp;omega
     have hfit:A.grn+(1+n)≤A.ws.length:=by omega
     have HCL:=Hz hcl;clear hcl
     refine wpRO_chg rfl rfl rfl (fun K hK=>?_)
     refine gRun_copy (.tmp 58) (.tmp 68) 50 rfl 2 Tryz.underlying50 (by kernel_rfl) g A.grn _ _ ⟨g,m,none⟩ _ _ (by rfl) (by rfl) (A.ws.map (Value.int .i64)) HTO.out.at_.hg.drew (((A.ws.drop m).take (1+n)).map (Value.int .i64)) ?hn ?hsrc ?hfit int_one' ?_
     case hn=>rw [HCL.out];show 1+n=min _ _;omega
     case hsrc=>
      intro j v hj
      have hlt:=(List.getElem?_eq_some_iff.1 hj).1
      rw [HCL.out] at hlt
      have hg:=HTO.out.at_.hg.cell (m+j)
      dsimp only at hg
      rw [addr_add]
      show w2.cell? ⟨g,m+j,none⟩=some v
      rw [hg,←hj]
      simp only [List.getElem?_map,List.getElem?_take,List.getElem?_drop,if_pos hlt]
     case hfit=>rw [HCL.out];simpa using hfit
     refine hK _ _ ?_
     clear hK K
     have hb5:Blk (w2.drew.setRow g ((A.ws.map (Value.int .i64)).take A.grn ++ ((A.ws.drop m).take (1+n)).map (Value.int .i64) ++ (A.ws.map (Value.int .i64)).drop (A.grn+(((A.ws.drop m).take (1+n)).map (Value.int .i64)).length)).toArray) g ((lay A.ws A.grn ((A.ws.drop m).take (1+n))).map (Value.int .i64)) 2:=by
      rw [lay_map];exact Blk.setRow (w:=w2.drew) HTO.out.at_.hg.drew _
     have hp5:=HTO.out.at_.hp.drew.setRowOther H.out.ne ((A.ws.map (Value.int .i64)).take A.grn ++ ((A.ws.drop m).take (1+n)).map (Value.int .i64) ++ (A.ws.map (Value.int .i64)).drop (A.grn+(((A.ws.drop m).take (1+n)).map (Value.int .i64)).length)).toArray
     have hk5:=(HTO.out.k.drew).setRow (g:=g) (.inl (.inr rfl)) ((A.ws.map (Value.int .i64)).take A.grn ++ ((A.ws.drop m).take (1+n)).map (Value.int .i64) ++ (A.ws.map (Value.int .i64)).drop (A.grn+(((A.ws.drop m).take (1+n)).map (Value.int .i64)).length)).toArray
     dsimp only at hp5
     generalize w2.drew.setRow g _=w5 at *
     have HB5:=Hz hb5;have HP5:=Hz hp5;have HK5:=Hz hk5
     clear hb5 hp5 hk5
     refine wpRO_swi (fun _=>True) trivial (wpRO_fin ?_)
     go_wp2_with fail
     go_ret
     have hok:=HOK.out
     rw [HE.out] at hok ⊢
     have ho2:lay A.ws A.grn ((A.ws.drop ((m:Int)).toNat).take (1+(n:Int)).toNat)=lay A.ws A.grn ((A.ws.drop m).take (1+n)):=by
      rw [show ((m:Int)).toNat=m by omega,show (1+(n:Int)).toNat=1+n by omega]
     have hl:(lay A.ws A.grn ((A.ws.drop m).take (1+n))).length=A.ws.length:=lay_length (by have:=HCL.out;simp only [List.length_map] at this;omega)
     refine ⟨rfl,⟨?_,?_,hok⟩,HK5.out⟩
     ·dsimp only
      rw [ho2,hl]
      exact HP5.out
     ·dsimp only
      rw [ho2]
      exact HB5.out
    ·have HE:=Hz (HNO.out (fun h=>hroom h.2.2))
     have HTK:=Hz (show A.takeO (1+(n:Int))=(-1,A) from if_neg (fun h=>hroom h.2))
     go_wp2_with fail
     refine (takeO_c (1+(n:Int)) _ H.out (by omega) (by omega)).mono ?_
     rintro e w2 ⟨rfl,hto⟩
     rw [HTK.out] at hto ⊢
     dsimp only at hto ⊢
     go_wp2_with fail
     go_ret
     exact ⟨by rw [HE.out];rfl,by rw [HE.out];exact hto⟩
 ·have HE:=Hz (HNO.out (fun h=>hc h.1))
  have hcb:(c != 0)=true:=by simpa using hc
  clear hc
  go_wp2_with fail
  go_ret
  exact ⟨by rw [HE.out];rfl,by rw [HE.out];exact ArenaTo.refl H.out (Keeps.refl _ _)⟩
end
end
section
open Go.RowKit
theorem info_i64:(Tryz.prog.info? 2).map (fun i=>(i.zero,i.size,i.bytes))=some (some (.int .i64 0),1,8):=by kernel_rfl
theorem info_int:(Tryz.prog.info? 3).map (fun i=>(i.zero,i.size,i.bytes))=some (some (.int .i64 0),1,8):=by kernel_rfl
theorem nil_own {k:Nat} (h:ownB (.slice none 0 0) k):False:=by simp [ownB,Value.ownBlock] at h
def NumsRet (T:TypeId) (w:World) (e:Ending) (w':World) (l:List Int):Prop:=
 ∃ ao cap,e=.returned (.slice ao l.length cap)∧Sl w' T 1 (.slice ao l.length cap) l.length (l.map (Value.int .i64))∧Keeps (fun _=>False) w w'∧∀ k,ownB (.slice ao l.length cap) k→w.heap.size≤k
theorem CloneI_c (a:Addr) (cap:Nat) (l:List Int) (w:World) (h:Rd w (some a) (l.map (Value.int .i64))) (hl:l.length≤1000000) :
  Calls Tryz.prog 131 #[.slice (some a) l.length cap] w fun e w'=>NumsRet 2 w e w' l:=by
 obtain ⟨i0,hi,hz0,hz1,hz2⟩:=info_parts info_i64
 have Hi:=Hz hi;have Hz0:=Hz hz0;have Hz1:=Hz hz1;have Hz2:=Hz hz2;clear hi hz0 hz1 hz2
 have hne:=fun (wx:World)=>Lib.run_eql_slice_nil (P:=Tryz.prog) wx 50 2 (some a) l.length cap 0 0 Tryz.underlying50
 go_enter Tryz.func131,Tryz.ntmps131
 go_wp2_with (at_builtin;refine wpList_appR rfl (.tmp 5) (.tmp 6) 50 rfl 2 i0 (.int .i64 0) 1 8 Tryz.underlying50 Hi.out Hz0.out Hz1.out Hz2.out rfl (by decide) _ 0 [] rfl ⟨rfl, .inr ⟨w.heap.size,0,0,[],rfl,Blk.newAt _ rfl rfl,Nat.le_refl _,Nat.zero_le _,by simp,by simp⟩⟩ (some a) l.length cap (l.map (Value.int .i64)) rfl (by simp) (h.keep ((Kz w).alloc _) (fun _ _ _ h=>h)) int_one' (by unfold maxLen;omega) (by omega) ?_)
 intro v2 w2 hs2 hk2 ho2
 go_wp2_with fail
 go_ret
 obtain ⟨ao,c2,rfl,_,_,_⟩:=hs2.rd
 refine ⟨ao,c2,rfl,hs2,((Kz w).alloc _).then hk2 (fun j hj=>by simp [ownB,Value.ownBlock] at hj;exact .inr (by omega)),fun j hj=>?_⟩
 rcases ho2 j hj with h | h
 ·simp [ownB,Value.ownBlock] at h;omega
 ·first | omega | (simp at h;omega)
def ArenaRet (w:World) (n o:Int) (e:Ending) (w':World):Prop:=
 ∃ p g,e=.returned (.tuple #[.pointer (some ⟨p,0,none⟩), .agg #[.int .i64 0, .int .i64 0]])∧ArenaAt w' p g (Ar.new n o)∧Keeps (fun _=>False) w w'∧w.heap.size≤p∧w.heap.size≤g
section
variable {p g:Nat} {A:Ar}
theorem Words_c (w:World) (h:ArenaAt w p g A) :
  Calls Tryz.prog 66 #[.pointer (some ⟨p,0,none⟩)] w fun e w'=>NumsRet 2 w e w' A.ws:=by
 have H:=Hz h
 obtain ⟨c0,-,-,-⟩:=h.cells
 have pl:=h.hp.lt
 have o4:=h.ok.h4
 clear h
 go_enter Tryz.func66,Tryz.ntmps66
 go_wp2_with fail
 refine (CloneI_c ⟨g,0,none⟩ A.ws.length A.ws _ (Rd.blk H.out.hg 0 _ (by simp only [List.drop_zero,List.take_length])) (by omega)).mono ?_
 rintro e w1 ⟨ao,cap,rfl,hs,hk,ho⟩
 go_wp2_with fail
 go_ret
 exact ⟨ao,cap,rfl,hs,hk,ho⟩
theorem ANew_no (n o:Int) (w:World) (h:Ar.fits n o=false) :
  Calls Tryz.prog 111 #[.int .i64 n, .int .i64 o] w fun e w'=>e=.returned (.tuple #[.pointer none, .agg #[.int .i64 1, .int .i64 (-1)]])∧Keeps (fun _=>False) w w':=by
 have hc:n<16∨256<n∨o<0∨1024<o:=by
  by_cases h1:16≤n
  ·by_cases h2:n≤256
   ·by_cases h3:0≤o
    ·by_cases h4:o≤1024
     ·simp [Ar.fits,h1,h2,h3,h4] at h
     ·omega
    ·omega
   ·omega
  ·omega
 clear h
 by_cases c1:n<16
 ·have d1:decide (n<16)=true:=by simpa using c1
  go_enter Tryz.func111,Tryz.ntmps111
  go_wp2_with fail
  exact bodyPost_ret (v:=.tuple #[.pointer none, .agg #[.int .i64 1, .int .i64 (-1)]]) (by simp [results,Tryz.results111,go_sem]) rfl ⟨rfl,((Keeps.refl _ _).alloc _)⟩
 have d1:decide (n<16)=false:=by simpa using c1
 by_cases c2:256<n
 ·have d2:decide (256<n)=true:=by simpa using c2
  go_enter Tryz.func111,Tryz.ntmps111
  go_wp2_with fail
  exact bodyPost_ret (v:=.tuple #[.pointer none, .agg #[.int .i64 1, .int .i64 (-1)]]) (by simp [results,Tryz.results111,go_sem]) rfl ⟨rfl,((Keeps.refl _ _).alloc _)⟩
 have d2:decide (256<n)=false:=by simpa using c2
 by_cases c3:o<0
 ·have d3:decide (o<0)=true:=by simpa using c3
  go_enter Tryz.func111,Tryz.ntmps111
  go_wp2_with fail
  exact bodyPost_ret (v:=.tuple #[.pointer none, .agg #[.int .i64 1, .int .i64 (-1)]]) (by simp [results,Tryz.results111,go_sem]) rfl ⟨rfl,((Keeps.refl _ _).alloc _)⟩
 have d3:decide (o<0)=false:=by simpa using c3
 have d4:decide (1024<o)=true:=by simp;omega
 go_enter Tryz.func111,Tryz.ntmps111
 go_wp2_with fail
 exact bodyPost_ret (v:=.tuple #[.pointer none, .agg #[.int .i64 1, .int .i64 (-1)]]) (by simp [results,Tryz.results111,go_sem]) rfl ⟨rfl,((Keeps.refl _ _).alloc _)⟩
theorem ANew_yes (n o:Int) (w:World) (h:Ar.fits n o=true) :
  Calls Tryz.prog 111 #[.int .i64 n, .int .i64 o] w fun e w'=>ArenaRet w n o e w':=by
 have HOK:=Hz (Ar.new_ok h)
 simp [Ar.fits] at h
 obtain ⟨⟨⟨h1,h2⟩,h3⟩,h4⟩:=h
 obtain ⟨a,rfl⟩:∃ a:Nat,n=a:=⟨n.toNat,by omega⟩
 obtain ⟨b,rfl⟩:∃ b:Nat,o=b:=⟨o.toNat,by omega⟩
 have d1:decide ((a:Int)<16)=false:=by simp;omega
 have d2:decide (256<(a:Int))=false:=by simp;omega
 have d3:decide ((b:Int)<0)=false:=by simp
 have d4:decide (1024<(b:Int))=false:=by simp;omega
 obtain ⟨i0,hi,hz0,hz1,hz2⟩:=info_parts info_i64
 have hmk:=fun (wx:World)=>run_make_one (P:=Tryz.prog) wx 50 2 i0 (.int .i64 0) Tryz.underlying50 hi hz0 rfl hz1 (a+b) (by rw [hz2];omega) (by omega)
 have hcast:((a+b:Nat):Int)=(a:Int)+(b:Int):=by omega
 simp only [hcast] at hmk
 have HNEW:=Hz (show Ar.new a b=⟨List.replicate (a+b) 0,a,0,a⟩ by unfold Ar.new;congr 1)
 clear hi hz0 hz1 hz2 hcast
 go_enter Tryz.func111,Tryz.ntmps111
 go_wp2_with fail
 refine bodyPost_ret (v:=.tuple #[.pointer (some ⟨w.heap.size+2,0,none⟩), .agg #[.int .i64 0, .int .i64 0]]) (by simp [results,Tryz.results111,go_sem]) rfl ⟨w.heap.size+2,w.heap.size+1,rfl,?_,(((Keeps.refl _ _).alloc _).alloc _).alloc _,by omega,by omega⟩
 have hok:=HOK.out
 rw [HNEW.out] at hok ⊢
 refine ⟨?_,?_,hok⟩
 ·refine Blk.newAt _ (by simp) ?_
  simp
 ·refine (Blk.newAt _ (by simp) ?_).alloc _
  simp
def BoxAt (w:World) (b p:Nat):Prop:=Blk w b [.pointer (some ⟨p,0,none⟩)] 47
theorem List_c (b:Nat) (i j:Int) (w:World) (h:ArenaAt w p g A) (hb:BoxAt w b p) (hi:0≤i) (hi2:i≤1280) (hj:j≤1280) :
  Calls Tryz.prog 118 #[.int .i64 i, .int .i64 j, .pointer (some ⟨b,0,none⟩)] w fun e w'=>NumsRet 3 w e w' (A.list 1300 i j):=by
 have H:=Hz h;have HB:=Hz hb
 have bl:=hb.lt
 obtain ⟨i0,hi0,hz0,hz1,hz2⟩:=info_parts info_int
 have Hi:=Hz hi0;have Hz0:=Hz hz0;have Hz1:=Hz hz1;have Hz2:=Hz hz2;clear hi0 hz0 hz1 hz2
 clear h hb
 go_enter Tryz.func118,Tryz.ntmps118
 go_wp2_with fail
 go_loopw [6,7] (fun v k wr=>∃ (n:Nat) (c:Int) (done:List Int),k=.int .i64 c∧0≤c∧c≤1300∧done ++ A.list n c j=A.list 1300 i j∧(j-c).toNat<n∧done.length+(j-c).toNat≤1300∧Sl wr 3 1 v done.length (done.map (Value.int .i64))∧Keeps (fun _=>False) w wr∧∀ b,ownB v b→w.heap.size≤b) (fun _ k _=>(j-intOf k).toNat)
 case atStart=>
  exact ⟨1300,i,[],rfl,hi,by omega,rfl,by omega,by simp;omega,Sl.nil _ _ _,Keeps.refl _ _,fun b hb=>(nil_own hb).elim⟩
 case round=>
  obtain ⟨n,c,done,rfl,hc0,hc1,hd,hn,hl,hs,hk,ho⟩:=hrel
  have HD:=Hz hd;have HS:=Hz hs;have HK:=Hz hk;have HO:=Hz ho
  have b0:=(hk.blk HB.out (fun h=>h)).cell 0
  have bl2:=(hk.blk HB.out (fun h=>h)).lt
  simp only [List.getElem?_cons_zero] at b0
  clear hd hs hk ho
  obtain ⟨ao,cap,rfl,-,-,-⟩:=HS.out.rd
  by_cases hlt:c<j
  ·have hfl:=A.thing_fields c
   obtain ⟨⟨k,m,e⟩,hT⟩:∃ t,A.thing c=t:=⟨_,rfl⟩
   rw [hT] at hfl
   dsimp only at hfl
   have HT:=Hz hT;clear hT
   go_wp2_with fail
   refine (Thing_c c _ (H.out.keep HK.out (fun h=>h) (fun h=>h))).mono ?_
   rintro e w1 ⟨rfl,rfl⟩
   rw [HT.out]
   dsimp only
   by_cases he:e=0
   ·subst he
    obtain ⟨n,rfl⟩:∃ q,n=q+1:=⟨n-1,by omega⟩
    have HST:=Hz (Ar.list_step (n:=n) hlt (by rw [HT.out]))
    go_wp2_with (at_builtin;refine wpList_app rfl (.tmp 25) (.tmp 27) 83 rfl 3 i0 (.int .i64 0) 1 8 Tryz.underlying83 Hi.out Hz0.out Hz1.out Hz2.out rfl (by decide) _ done.length (done.map (Value.int .i64)) rfl (HS.out.keep ((Kz wr).alloc _) (fun _ _ h=>h)) ⟨wr.heap.size,0,none⟩ 1 1 [.int .i64 c] rfl rfl (news_at wr 3 #[.int .i64 c]) (by intro u hu;simp at hu;subst hu;rfl) (by unfold maxLen;omega) (by omega) ?_)
    intro v2 w2 hs2 hk2 ho2
    have HK2:=Hz ((HK.out.alloc (.cells #[.int .i64 c] 3)).then hk2 (fun b hb=>.inr (HO.out b hb)))
    have HO2:Hid (∀ b,ownB v2 b→w.heap.size≤b):=fun b hb=>by
     rcases ho2 b hb with h | h
     ·exact HO.out b h
     ·have:=HK.out.size;first | omega | (simp at h;omega)
    have HS2:=Hz hs2
    clear hs2 hk2 ho2 b0 bl2
    go_wp2_with fail
    go_roundw
    case rel=>exact ⟨n,c+1+m,done ++ [c],int_eq (by omega),by omega,by omega,by rw [←HD.out,HST.out,HT.out];simp,by omega,by simp;omega,by simpa using HS2.out,HK2.out,HO2.out⟩
    case measure=>simp [intOf];omega
   ·have heb:(e != 0)=true:=by simpa using he
    have HE:=Hz (Ar.list_end (n:=n) (j:=j) (fun h=>he (by have:=h.2;rw [HT.out] at this;exact this)))
    clear he
    go_wp2_with fail
    go_ret
    have hd:=HD.out
    rw [HE.out,List.append_nil] at hd
    rw [←hd]
    exact ⟨ao,cap,rfl,HS.out,HK.out,HO.out⟩
  ·have HE:=Hz (Ar.list_end (A:=A) (n:=n) (i:=c) (j:=j) (fun h=>hlt h.1))
   go_wp2_with fail
   go_ret
   have hd:=HD.out
   rw [HE.out,List.append_nil] at hd
   rw [←hd]
   exact ⟨ao,cap,rfl,HS.out,HK.out,HO.out⟩
theorem listA (args:Array Value) (w:World):(callFunc 118 args).run Tryz.prog w=.ok (.enter 118 args) w:=by kernel_rfl
def ThingsRet (A:Ar) (w:World) (e:Ending) (w':World):Prop:=
 ∃ ao ac bo bc,e=.returned (.tuple #[.slice ao A.things.1.length ac, .slice bo A.things.2.length bc])∧Sl w' 3 1 (.slice ao A.things.1.length ac) A.things.1.length (A.things.1.map (Value.int .i64)) ∧
  Sl w' 3 1 (.slice bo A.things.2.length bc) A.things.2.length (A.things.2.map (Value.int .i64))∧Keeps (fun _=>False) w w'∧(∀ k,ownB (.slice ao A.things.1.length ac) k→w.heap.size≤k)∧∀ k,ownB (.slice bo A.things.2.length bc) k→w.heap.size≤k
theorem Things_c (w:World) (h:ArenaAt w p g A) :
  Calls Tryz.prog 54 #[.pointer (some ⟨p,0,none⟩)] w fun e w'=>ThingsRet A w e w':=by
 have o1:=h.ok.h1;have o2:=h.ok.h2;have o3:=h.ok.h3;have o4:=h.ok.h4
 have HLA:Hid (A.things=(A.list 1300 0 A.yng,A.list 1300 A.nur A.grn)):=rfl
 have ea:=listA
 have hka:=(Kz w).alloc (.cells #[.pointer (some ⟨p,0,none⟩)] 47)
 have h1:=h.keep hka (fun h=>h) (fun h=>h)
 have hb:BoxAt (w.alloc (.cells #[.pointer (some ⟨p,0,none⟩)] 47)) w.heap.size p:=Blk.newAt _ rfl rfl
 have H1:=Hz h1;have HB:=Hz hb;have HKA:=Hz hka
 clear h h1 hb hka
 go_enter Tryz.func54,Tryz.ntmps54
 go_wp2_with fail
 obtain ⟨-,c1,c2,c3⟩:=H1.out.cells
 have b0:=HB.out.cell 0
 have bl:=HB.out.lt;have pl:=H1.out.hp.lt
 simp only [List.getElem?_cons_zero] at b0
 generalize w.alloc (.cells #[.pointer (some ⟨p,0,none⟩)] 47)=w1 at *
 refine wp_region_ro (.free 0 (.free 6 (.pure 1 (.free 2 (.free 3 (.pure 4 (.pure 7 (.free 8 (.free 9 (.pure 10 (.pure 11 (.free 12 (.free 13 (.pure 14 (.run 5 (.run 15 (.swi [] (.free 16 (.free 17 (.fin)))))))))))))))))))) [15,16,17] (fun w'=>w'.cell? ⟨p,1,none⟩=some (.int .i64 A.nur)∧w'.cell? ⟨p,2,none⟩=some (.int .i64 A.yng)∧w'.cell? ⟨p,3,none⟩=some (.int .i64 A.grn)∧w'.cell? ⟨w.heap.size,0,none⟩=some (.pointer (some ⟨p,0,none⟩))) (by kernel_rfl) (by kernel_rfl) ⟨c1,c2,c3,b0⟩ ?_
 iterate 14 first | (refine wpRO_free rfl rfl _ (fun w'=>by go_simp;exact Gives.mk _ _) (fun K hK=>?_);go_simp;refine hK _ ?_;clear hK K) | (refine wpRO_skipF rfl rfl (fun K hK=>?_);go_simp;refine hK _ ?_;clear hK K) | (refine wpRO_pure rfl rfl _ (fun w' hG=>by obtain ⟨g0,g1,g2,g3⟩:=hG;exact gives_agg2 rfl (by decide +kernel) rfl (by assumption) (by assumption)) (fun K hK=>?_);go_simp;refine hK _ ?_;clear hK K) | (refine wpRO_pure rfl rfl _ (fun w' hG=>by obtain ⟨g0,g1,g2,g3⟩:=hG;go_simp;exact Gives.mk _ _) (fun K hK=>?_);go_simp;refine hK _ ?_;clear hK K) | (refine wpRO_skip rfl rfl (fun K hK=>?_);go_simp;refine hK _ ?_;clear hK K)
 refine wpRO_run rfl rfl (fun K hK=>?_);unfold gRun;go_simp
 refine (List_c w.heap.size 0 A.yng _ (H1.out.keep (Kz w1).drew (fun h=>h) (fun h=>h)) HB.out.drew (by omega) (by omega) (by omega)).mono ?_
 rintro e w2 ⟨ao,ac,rfl,hs2,hk2,ho2⟩
 have hkd:=(Kz w1).drew.trans hk2
 have H2:=Hz (H1.out.keep hkd (fun h=>h) (fun h=>h));have HB2:=Hz (show BoxAt w2 w.heap.size p from hkd.blk HB.out (fun h=>h))
 have HS2:=Hz hs2;have HKD:=Hz hkd
 have HO2:Hid (∀ k,ownB (.slice ao (A.list 1300 0 A.yng).length ac) k→w.heap.size≤k):=fun k hk=>by have h1:=ho2 k hk;have h2:=HKA.out.size;exact Nat.le_trans h2 h1
 refine hK _ _ (fun _=>?gg) ?_
 case gg=>obtain ⟨-,c1,c2,c3⟩:=H2.out.cells;exact ⟨c1,c2,c3,HB2.out.cell 0⟩
 clear hK K hs2 hkd hk2 ho2
 refine wpRO_chg rfl rfl rfl (fun K hK=>?_);unfold gRun;go_simp
 refine (List_c w.heap.size A.nur A.grn _ H2.out HB2.out (by omega) (by omega) (by omega)).mono ?_
 rintro e w3 ⟨bo,bc,rfl,hs3,hk3,ho3⟩
 have HS3:=Hz hs3;have HS23:=Hz (HS2.out.keep hk3 (fun _ _ h=>h));have HKE:=Hz ((HKA.out.trans HKD.out).trans hk3)
 have HO3:Hid (∀ k,ownB (.slice bo (A.list 1300 A.nur A.grn).length bc) k→w.heap.size≤k):=fun k hk=>by have h1:=ho3 k hk;have h2:=HKA.out.size;have h3:=HKD.out.size;exact Nat.le_trans (Nat.le_trans h2 h3) h1
 refine hK _ _ ?_
 clear hK K hs3 hk3 ho3 c1 c2 c3 b0
 refine wpRO_swi (fun _=>True) trivial ?_
 iterate 2 first | (refine wpRO_free rfl rfl _ (fun w'=>by go_simp;exact Gives.mk _ _) (fun K hK=>?_);go_simp;refine hK _ ?_;clear hK K) | (refine wpRO_skipF rfl rfl (fun K hK=>?_);go_simp;refine hK _ ?_;clear hK K)
 refine wpRO_fin ?_
 go_wp2_with fail
 go_ret2
 unfold ThingsRet
 rw [HLA.out]
 exact ⟨ao,ac,bo,bc,rfl,HS23.out,HS3.out,HKE.out,HO2.out,HO3.out⟩
end
end
section
open Go.RowKit
def Ar.move (A:Ar) (dst fr n:Nat):Ar:={ A with ws:=lay A.ws dst ((A.ws.drop fr).take n) }
theorem Ar.ok.move {A:Ar} (h:A.ok) {dst fr n:Nat} (h1:dst+n≤A.ws.length) (h2:fr+n≤A.ws.length):(A.move dst fr n).ok:=by
 have hl:(lay A.ws dst ((A.ws.drop fr).take n)).length=A.ws.length:=lay_length (by simp;omega)
 refine ⟨h.h1,h.h2,?_,?_,fun x hx=>?_⟩
 ·show A.grn≤(lay _ _ _).length;rw [hl];exact h.h3
 ·show (lay _ _ _).length≤1280;rw [hl];exact h.h4
 ·rcases lay_mem hx with h1 | h1
  ·exact h.hw x h1
  ·exact h.hw x (List.mem_of_mem_drop (List.mem_of_mem_take h1))
section
variable {p g:Nat} {A:Ar}
theorem Move_c (dst fr n:Nat) (w:World) (h:ArenaAt w p g A) (h1:dst+n≤A.ws.length) (h2:fr+n≤A.ws.length) (h3:dst<A.ws.length) (h4:fr<A.ws.length) :
  Calls Tryz.prog 80 #[.pointer (some ⟨p,0,none⟩), .int .i64 dst, .int .i64 fr, .int .i64 n] w fun e w'=>e=.returned (.tuple #[])∧ArenaTo w p g w' (A.move dst fr n):=by
 have H:=Hz h
 have o4:=h.ok.h4
 have HOK:=Hz (h.ok.move h1 h2)
 obtain ⟨c0,-,-,-⟩:=h.cells
 have pl:=h.hp.lt;have gl:=h.hg.lt
 clear h
 have hw1:IntKind.i64.wrap ((dst:Int)+n)=(dst:Int)+n:=IntWalk.i64_in _ (by omega)
 have hw2:IntKind.i64.wrap ((fr:Int)+n)=(fr:Int)+n:=IntWalk.i64_in _ (by omega)
 have b1:(dst:Int)≤(dst:Int)+n:=by omega
 have b2:(dst:Int)+n≤(A.ws.length:Int):=by omega
 have b3:(fr:Int)≤(fr:Int)+n:=by omega
 have b4:(fr:Int)+n≤(A.ws.length:Int):=by omega
 have b5:(0:Int)≤(dst:Int)+n:=by omega
 have b6:(0:Int)≤(fr:Int)+n:=by omega
 have b7:((dst:Int)+n).toNat=dst+n:=by omega
 have b8:((fr:Int)+n).toNat=fr+n:=by omega
 have q1:¬ A.ws.length=dst:=by omega
 have q2:¬ A.ws.length=fr:=by omega
 go_enter Tryz.func80,Tryz.ntmps80
 refine wp_region_ro (.free 0 (.free 1 (.free 2 (.free 4 (.free 5 (.free 6 (.free 7 (.free 9 (.free 10 (.free 11 (.free 13 (.free 14 (.free 15 (.free 16 (.pure 3 (.free 8 (.pure 12 (.free 17 (.run 18 (.swi [] (.fin))))))))))))))))))))) [18] (fun w'=>w'.cell? ⟨p,0,none⟩=some (.slice (some ⟨g,0,none⟩) A.ws.length A.ws.length)) (by kernel_rfl) (by kernel_rfl) c0 ?_
 iterate 18 first | (refine wpRO_free rfl rfl _ (fun w'=>by go_simp;exact Gives.mk _ _) (fun K hK=>?_);go_simp;refine hK _ ?_;clear hK K) | (refine wpRO_skipF rfl rfl (fun K hK=>?_);go_simp;refine hK _ ?_;clear hK K) | (refine wpRO_pure rfl rfl _ (fun w' hG=>by obtain g0:=hG;exact gives_agg2 rfl (by decide +kernel) rfl (by assumption) (by assumption)) (fun K hK=>?_);go_simp;refine hK _ ?_;clear hK K) | (refine wpRO_pure rfl rfl _ (fun w' hG=>by obtain g0:=hG;go_simp;exact Gives.mk _ _) (fun K hK=>?_);go_simp;refine hK _ ?_;clear hK K) | (refine wpRO_skip rfl rfl (fun K hK=>?_);go_simp;refine hK _ ?_;clear hK K)
 clear hw1 hw2 b1 b2 b3 b4 b5 b6 b7 b8
 have hcl:(((A.ws.drop fr).take n).map (Value.int .i64)).length=n:=by simp;omega
 have HCL:=Hz hcl;clear hcl
 refine wpRO_chg rfl rfl rfl (fun K hK=>?_)
 refine gRun_copy (.tmp 16) (.tmp 25) 50 rfl 2 Tryz.underlying50 (by kernel_rfl) g dst _ _ ⟨g,fr,none⟩ _ _ (by rfl) (by rfl) (A.ws.map (Value.int .i64)) H.out.hg.drew (((A.ws.drop fr).take n).map (Value.int .i64)) ?hn ?hsrc ?hfit int_one' ?_
 case hn=>rw [HCL.out];show n=min _ _;omega
 case hsrc=>
  intro j v hj
  have hlt:=(List.getElem?_eq_some_iff.1 hj).1
  rw [HCL.out] at hlt
  rw [addr_add]
  show w.cell? ⟨g,fr+j,none⟩=some v
  rw [H.out.hg.cell (fr+j),←hj]
  simp only [List.getElem?_map,List.getElem?_take,List.getElem?_drop,if_pos hlt]
 case hfit=>rw [HCL.out];simpa using h1
 refine hK _ _ ?_
 clear hK K
 have hb5:Blk (w.drew.setRow g ((A.ws.map (Value.int .i64)).take dst ++ ((A.ws.drop fr).take n).map (Value.int .i64) ++ (A.ws.map (Value.int .i64)).drop (dst+(((A.ws.drop fr).take n).map (Value.int .i64)).length)).toArray) g ((lay A.ws dst ((A.ws.drop fr).take n)).map (Value.int .i64)) 2:=by
  rw [lay_map];exact Blk.setRow (w:=w.drew) H.out.hg.drew _
 have hp5:=H.out.hp.drew.setRowOther H.out.ne ((A.ws.map (Value.int .i64)).take dst ++ ((A.ws.drop fr).take n).map (Value.int .i64) ++ (A.ws.map (Value.int .i64)).drop (dst+(((A.ws.drop fr).take n).map (Value.int .i64)).length)).toArray
 have hk5:=((Keeps.refl (fun b=>b=p∨b=g) w).drew).setRow (g:=g) (.inl (.inr rfl)) ((A.ws.map (Value.int .i64)).take dst ++ ((A.ws.drop fr).take n).map (Value.int .i64) ++ (A.ws.map (Value.int .i64)).drop (dst+(((A.ws.drop fr).take n).map (Value.int .i64)).length)).toArray
 generalize w.drew.setRow g _=w5 at *
 have HB5:=Hz hb5;have HP5:=Hz hp5;have HK5:=Hz hk5
 clear hb5 hp5 hk5
 refine wpRO_swi (fun _=>True) trivial (wpRO_fin ?_)
 go_wp2_with fail
 go_end0
 have hl:(lay A.ws dst ((A.ws.drop fr).take n)).length=A.ws.length:=lay_length (by have:=HCL.out;simp only [List.length_map] at this;omega)
 refine ⟨rfl,⟨?_,HB5.out,HOK.out⟩,HK5.out⟩
 show Blk w5 p [.slice (some ⟨g,0,none⟩) (lay A.ws dst ((A.ws.drop fr).take n)).length (lay A.ws dst ((A.ws.drop fr).take n)).length,_,_,_] _
 rw [hl]
 exact HP5.out
theorem Bounds_c (w:World) (h:ArenaAt w p g A) :
  Calls Tryz.prog 53 #[.pointer (some ⟨p,0,none⟩)] w fun e w'=>e=.returned (.tuple #[.int .i64 0, .int .i64 A.nur])∧Keeps (fun _=>False) w w':=by
 obtain ⟨-,c1,-,-⟩:=h.cells
 have pl:=h.hp.lt
 go_enter Tryz.func53,Tryz.ntmps53
 go_wp2_with fail
 refine wp_region_ro (.free 0 (.free 1 (.free 2 (.free 4 (.pure 3 (.free 5 (.fin))))))) [] (fun w'=>w'.cell? ⟨p,1,none⟩=some (.int .i64 A.nur)) (by kernel_rfl) (by kernel_rfl) c1 ?_
 iterate 6 first | (refine wpRO_free rfl rfl _ (fun w'=>by go_simp;exact Gives.mk _ _) (fun K hK=>?_);go_simp;refine hK _ ?_;clear hK K) | (refine wpRO_skipF rfl rfl (fun K hK=>?_);go_simp;refine hK _ ?_;clear hK K) | (refine wpRO_pure rfl rfl _ (fun w' hG=>by obtain g0:=hG;exact gives_agg2 rfl (by decide +kernel) rfl (by assumption) (by assumption)) (fun K hK=>?_);go_simp;refine hK _ ?_;clear hK K) | (refine wpRO_pure rfl rfl _ (fun w' hG=>by obtain g0:=hG;go_simp;exact Gives.mk _ _) (fun K hK=>?_);go_simp;refine hK _ ?_;clear hK K) | (refine wpRO_skip rfl rfl (fun K hK=>?_);go_simp;refine hK _ ?_;clear hK K)
 refine wpRO_fin ?_
 go_wp2_with fail
 go_ret2
 exact ⟨rfl,(Keeps.refl _ _).drew⟩
end
end
section
def cardOf (base:Int) (n:Nat) (at_:Int):Int:=if base≤at_∧(at_-base)/8<n then (at_-base)/8 else -1
def markL (base:Int) (l:List Bool) (at_:Int):List Bool:=if 0≤cardOf base l.length at_ then l.set (cardOf base l.length at_).toNat true else l
theorem markL_length (base:Int) (l:List Bool) (at_:Int):(markL base l at_).length=l.length:=by unfold markL;split <;> simp
def dirtyL (base:Int) (l:List Bool) (at_:Int):Bool:=decide (0≤cardOf base l.length at_) && l.getD (cardOf base l.length at_).toNat false
theorem cardOf_lt {base:Int} {n:Nat} {at_:Int} (h:0≤cardOf base n at_):(cardOf base n at_).toNat<n:=by
 unfold cardOf at *
 split at h
 ·rename_i c;rw [if_pos c];omega
 ·omega
def cardsN (words:Int):Nat:=((max words 0+7)/8).toNat
end
section
open Go.RowKit
structure CardsAt (w:World) (p q:Nat) (base:Int) (l:List Bool):Prop where
 hp:Blk w p [.int .i64 base, .slice (some ⟨q,0,none⟩) l.length l.length] 168
 hq:Blk w q (l.map Value.bool) 4
theorem CardsAt.ne {w:World} {p q:Nat} {base:Int} {l:List Bool} (h:CardsAt w p q base l):p≠q:=h.hp.ne h.hq (by decide)
theorem CardsAt.keep {w w':World} {p q:Nat} {base:Int} {l:List Bool} {S:Nat→Prop} (h:CardsAt w p q base l) (k:Keeps S w w') (h1:¬ S p) (h2:¬ S q):CardsAt w' p q base l:=
 ⟨k.blk h.hp h1,k.blk h.hq h2⟩
theorem card_c (p q:Nat) (base at_:Int) (l:List Bool) (w:World) (h:CardsAt w p q base l)
  (hb:0≤base) (hb2:base≤1000000) (ha:-9223372036854775808≤at_) (ha2:at_≤9223372036854775807) (hl:l.length≤1000000) :
  Calls Tryz.prog 122 #[.pointer (some ⟨p,0,none⟩), .int .i64 at_] w fun e w'=>e=.returned (.int .i64 (cardOf base l.length at_))∧w=w':=by
 have h0:w.cell? ⟨p,0,none⟩=some (.int .i64 base):=h.hp.cell 0
 have h1:w.cell? ⟨p,1,none⟩=some (.slice (some ⟨q,0,none⟩) l.length l.length):=h.hp.cell 1
 clear h
 generalize hn:l.length=n at *
 clear hn
 by_cases c1:base≤at_
 ·by_cases c2:(at_-base)/8<n
  ·have hv:cardOf base n at_=(at_-base)/8:=by simp [cardOf,c1,c2]
   rw [hv];clear hv
   go_enter Tryz.func122,Tryz.ntmps122
   go_wp2
   go_ret
   exact ⟨rfl,rfl⟩
  ·have hv:cardOf base n at_=-1:=by simp [cardOf,c2]
   rw [hv];clear hv
   go_enter Tryz.func122,Tryz.ntmps122
   go_wp2
   go_ret
   exact ⟨rfl,rfl⟩
 ·have hv:cardOf base n at_=-1:=by simp [cardOf,c1]
  rw [hv];clear hv
  go_enter Tryz.func122,Tryz.ntmps122
  go_wp2
  go_ret
  exact ⟨rfl,rfl⟩
theorem Mark_c (p q:Nat) (base at_:Int) (l:List Bool) (w:World) (h:CardsAt w p q base l)
  (hb:0≤base) (hb2:base≤1000000) (ha:-9223372036854775808≤at_) (ha2:at_≤9223372036854775807) (hl:l.length≤1000000) :
  Calls Tryz.prog 115 #[.pointer (some ⟨p,0,none⟩), .int .i64 at_] w fun e w'=>e=.returned (.bool (decide (0≤cardOf base l.length at_))) ∧
   CardsAt w' p q base (markL base l at_)∧Keeps (·=q) w w':=by
 have H:=card_c p q base at_ l w h hb hb2 ha ha2 hl
 have h1:w.cell? ⟨p,1,none⟩=some (.slice (some ⟨q,0,none⟩) l.length l.length):=h.hp.cell 1
 have HM:Hid (markL base l at_=if 0≤cardOf base l.length at_ then l.set (cardOf base l.length at_).toNat true else l):=rfl
 have HL:0≤cardOf base l.length at_→(cardOf base l.length at_).toNat<l.length:=cardOf_lt
 have hup:cardOf base l.length at_≤1000000:=by unfold cardOf;split <;> omega
 generalize markL base l at_=l' at *
 generalize cardOf base l.length at_=k at *
 have HH:=Hz H;clear H
 have HC:=Hz h;clear h
 by_cases c:0≤k
 ·obtain ⟨k,rfl⟩:=Int.eq_ofNat_of_zero_le c
  have hk:=HL c
  simp only [Int.toNat_natCast] at hk HM
  have hq:w.cell? ⟨q,k,none⟩=some (.bool (l.getD k false)):=by rw [HC.out.hq.cell];simp [List.getD,hk]
  have hf:w.frozen? ⟨q,k,none⟩=false:=HC.out.hq.free _
  go_enter Tryz.func115,Tryz.ntmps115
  go_wp2_with (go_at_call 122;refine HH.out.mono ?_;rintro e w' ⟨rfl,rfl⟩)
  go_ret
  have hm:=HM.out
  simp at hm
  subst hm
  refine ⟨rfl,⟨?_,?_⟩,(Keeps.refl (·=q) w).setCell (p:=⟨q,k,none⟩) (.inl rfl) _⟩
  ·simpa using HC.out.hp.setOther (a:=⟨q,k,none⟩) HC.out.ne (.bool true)
  ·simpa [List.map_set] using HC.out.hq.setSame k (.bool true)
 ·have hd:decide (0≤k)=false:=by simpa using c
  go_enter Tryz.func115,Tryz.ntmps115
  go_wp2_with (go_at_call 122;refine HH.out.mono ?_;rintro e w' ⟨rfl,rfl⟩)
  go_ret
  have hm:=HM.out
  rw [if_neg (by omega)] at hm
  subst hm
  exact ⟨ret_of (by show Value.bool false=_;rw [hd]),HC.out,Keeps.refl _ _⟩
theorem Dirty_c (p q:Nat) (base at_:Int) (l:List Bool) (w:World) (h:CardsAt w p q base l)
  (hb:0≤base) (hb2:base≤1000000) (ha:-9223372036854775808≤at_) (ha2:at_≤9223372036854775807) (hl:l.length≤1000000) :
  Calls Tryz.prog 57 #[.pointer (some ⟨p,0,none⟩), .int .i64 at_] w fun e w'=>e=.returned (.bool (dirtyL base l at_))∧w=w':=by
 have H:=card_c p q base at_ l w h hb hb2 ha ha2 hl
 have h1:w.cell? ⟨p,1,none⟩=some (.slice (some ⟨q,0,none⟩) l.length l.length):=h.hp.cell 1
 have HM:Hid (dirtyL base l at_=(decide (0≤cardOf base l.length at_) && l.getD (cardOf base l.length at_).toNat false)):=rfl
 have HL:0≤cardOf base l.length at_→(cardOf base l.length at_).toNat<l.length:=cardOf_lt
 have hup:cardOf base l.length at_≤1000000:=by unfold cardOf;split <;> omega
 generalize dirtyL base l at_=l' at *
 generalize cardOf base l.length at_=k at *
 have HH:=Hz H;clear H
 have HC:=Hz h;clear h
 by_cases c:0≤k
 ·obtain ⟨k,rfl⟩:=Int.eq_ofNat_of_zero_le c
  have hk:=HL c
  simp only [Int.toNat_natCast] at hk HM
  have hq:w.cell? ⟨q,k,none⟩=some (.bool (l.getD k false)):=by rw [HC.out.hq.cell];simp [List.getD,hk]
  go_enter Tryz.func57,Tryz.ntmps57
  go_wp2_with (go_at_call 122;refine HH.out.mono ?_;rintro e w' ⟨rfl,rfl⟩)
  go_ret
  exact ⟨by rw [HM.out];simp [List.getD,hk],rfl⟩
 ·have hd:decide (0≤k)=false:=by simpa using c
  go_enter Tryz.func57,Tryz.ntmps57
  go_wp2_with (go_at_call 122;refine HH.out.mono ?_;rintro e w' ⟨rfl,rfl⟩)
  go_ret
  exact ⟨by rw [HM.out];simp [hd],rfl⟩
def countL (l:List Bool):Nat:=(l.filter id).length
theorem countL_le (l:List Bool):countL l≤l.length:=List.length_filter_le _ _
theorem countL_take (l:List Bool) (k:Nat) (h:k<l.length):countL (l.take (k+1))=countL (l.take k)+if l.getD k false then 1 else 0:=by
 unfold countL
 rw [List.take_succ_eq_append_getElem h,List.filter_append]
 by_cases hb:l[k] <;> simp [hb,List.getD,h]
theorem Count_c (p q:Nat) (base:Int) (l:List Bool) (w:World) (h:CardsAt w p q base l) (hl:l.length≤1000000) :
  Calls Tryz.prog 89 #[.pointer (some ⟨p,0,none⟩)] w fun e w'=>e=.returned (.int .i64 (countL l))∧w=w':=by
 have h1:w.cell? ⟨p,1,none⟩=some (.slice (some ⟨q,0,none⟩) l.length l.length):=h.hp.cell 1
 have HC:=Hz h;clear h
 go_enter Tryz.func89,Tryz.ntmps89
 go_wp2
 go_loop [3,5,11] (fun n _ i=>∃ k:Nat,k≤l.length∧i=.int .i64 k∧n=.int .i64 (countL (l.take k))) (fun _ _ i=>l.length-(intOf i).toNat)
 case atStart=>exact ⟨0,Nat.zero_le _,rfl,rfl⟩
 case round=>
  obtain ⟨k,hk,rfl,rfl⟩:=hrel
  have hc:countL (l.take k)≤k:=Nat.le_trans (countL_le _) (List.length_take_le _ _)
  by_cases hlt:k<l.length
  ·have hq:w.cell? ⟨q,k,none⟩=some (.bool (l.getD k false)):=by rw [HC.out.hq.cell];simp [List.getD,hlt]
   have HS:=Hz (countL_take l k hlt)
   generalize l.getD k false=b at *
   cases b
   ·go_wp2
    go_round
    case rel=>exact ⟨k+1,by omega,by go_num,int_eq (by rw [HS.out];simp)⟩
    case measure=>simp [intOf];omega
   ·go_wp2
    go_round
    case rel=>exact ⟨k+1,by omega,by go_num,int_eq (by rw [HS.out];simp)⟩
    case measure=>simp [intOf];omega
  ·go_wp2
   go_ret
   exact ⟨by rw [List.take_of_length_le (by omega)];rfl,rfl⟩
theorem info_bool:(Tryz.prog.info? 4).map (fun i=>(i.zero,i.size,i.bytes))=some (some (.bool false),1,1):=by kernel_rfl
theorem New_c (base words:Int) (w:World) (hw:words≤1000000) (hw2:-9223372036854775808≤words) :
  Calls Tryz.prog 112 #[.int .i64 base, .int .i64 words] w fun e w'=>e=.returned (.pointer (some ⟨w.heap.size+1,0,none⟩)) ∧
   CardsAt w' (w.heap.size+1) w.heap.size base (List.replicate (cardsN words) false)∧w'.heap.size=w.heap.size+2∧Keeps (fun _=>False) w w':=by
 obtain ⟨i0,hi,hz0,hz1,hz2⟩:=info_parts info_bool
 have HN:Hid (cardsN words=((max words 0+7)/8).toNat):=rfl
 have hmk:=fun (wx:World) (n:Nat) (h1:n≤9223372036854775807) (h2:n≤281474976710656)=>run_make_one (P:=Tryz.prog) wx 122 4 i0 (.bool false) Tryz.underlying122 hi hz0 rfl hz1 n (by rw [hz2];omega) h1
 have Hi:=Hz hi;clear hi hz0 hz1 hz2
 have HM:=Hz hmk;clear hmk
 by_cases c:0≤words
 ·have hm:(cardsN words:Int)=(words+8-1)/8:=by rw [HN.out];omega
  have hk:=fun (wx:World)=>HM.out wx (cardsN words) (by omega) (by omega)
  have h2:max words 0=words:=by omega
  rw [hm] at hk
  have Hm:=Hz hm;clear hm
  generalize hn:cardsN words=n at *
  clear hn
  go_enter Tryz.func112,Tryz.ntmps112
  go_wp2
  go_ret
  exact ⟨rfl,⟨.newAt _ (by simp) (by simp),(Blk.newAt _ rfl (by simp)).alloc _⟩,by simp,((Keeps.refl _ _).alloc _).alloc _⟩
 ·have hm:cardsN words=0:=by rw [HN.out];omega
  have hk:∀ wx:World,(Instr.makeSlice 122 (.int .i64 0) (.int .i64 0)).run Tryz.prog wx=.ok (.slice (some ⟨wx.heap.size,0,none⟩) 0 0) (wx.alloc (.cells #[] 4)):=fun wx=>by simpa using HM.out wx 0 (by omega) (by omega)
  have h2:max words 0=0:=by omega
  rw [hm]
  have Hm:=Hz hm;clear hm
  go_enter Tryz.func112,Tryz.ntmps112
  go_wp2
  go_ret
  exact ⟨rfl,⟨.newAt _ (by simp) (by simp),(Blk.newAt _ rfl (by simp)).alloc _⟩,by simp,((Keeps.refl _ _).alloc _).alloc _⟩
theorem Clear_c (p q:Nat) (base:Int) (l:List Bool) (w:World) (h:CardsAt w p q base l) :
  Calls Tryz.prog 63 #[.pointer (some ⟨p,0,none⟩)] w fun e w'=>e=.returned (.tuple #[]) ∧
   CardsAt w' p q base (List.replicate l.length false)∧Keeps (·=q) w w':=by
 have h1:w.cell? ⟨p,1,none⟩=some (.slice (some ⟨q,0,none⟩) l.length l.length):=h.hp.cell 1
 have hk:=run_clear_one (P:=Tryz.prog) w 122 0 4 (.bool false) Tryz.underlying122 (by intro w;kernel_rfl) rfl rfl q l.length l.length _ h.hq (by simp)
 have HC:=Hz h;clear h
 go_enter Tryz.func63,Tryz.ntmps63
 go_wp2
 go_end0
 refine ⟨rfl,⟨?_,?_⟩,?_⟩
 ·simpa using HC.out.hp.setRowOther HC.out.ne _
 ·simpa using HC.out.hq.setRow (List.replicate l.length (.bool false))
 ·exact (Keeps.refl (·=q) w).setRow (.inl rfl) _
end
section
open Go.RowKit
def entV (l:List (Int × Int)):List Value:=l.flatMap fun e=>[.int .i64 e.1, .int .i64 e.2]
theorem entV_length (l:List (Int × Int)):(entV l).length=l.length*2:=by
 induction l with
 | nil=>rfl
 | cons e l ih=>simp [entV] at ih ⊢;omega
structure SideAt (w:World) (p:Nat) (rv wv:Value) (regs wait:List (Int × Int)):Prop where
 hp:Blk w p [rv,wv] 133
 hr:Sl w 101 2 rv regs.length (entV regs)
 hw:Sl w 101 2 wv wait.length (entV wait)
 ap:∀ k,¬ (ownB rv k∧ownB wv k)
theorem SideAt.pr {w:World} {p:Nat} {rv wv:Value} {regs wait:List (Int × Int)} (h:SideAt w p rv wv regs wait):¬ ownB rv p:=fun hk=>by
 obtain ⟨_,cur,hc⟩:=h.hr.own hk
 exact (hc.ne h.hp (by decide)) rfl
theorem SideAt.pw {w:World} {p:Nat} {rv wv:Value} {regs wait:List (Int × Int)} (h:SideAt w p rv wv regs wait):¬ ownB wv p:=fun hk=>by
 obtain ⟨_,cur,hc⟩:=h.hw.own hk
 exact (hc.ne h.hp (by decide)) rfl
def SideFp (p:Nat) (rv wv:Value) (k:Nat):Prop:=k=p∨ownB rv k∨ownB wv k
theorem SideAt.fp_lt {w:World} {p:Nat} {rv wv:Value} {regs wait:List (Int × Int)} (h:SideAt w p rv wv regs wait) {k:Nat} (hk:SideFp p rv wv k):k<w.heap.size:=by
 rcases hk with rfl | hk | hk
 ·exact h.hp.lt
 ·exact (h.hr.own hk).1
 ·exact (h.hw.own hk).1
theorem SideAt.keep {w w':World} {p:Nat} {rv wv:Value} {regs wait:List (Int × Int)} {S:Nat→Prop} (h:SideAt w p rv wv regs wait) (k:Keeps S w w') (hn:∀ b,SideFp p rv wv b→¬ S b):SideAt w' p rv wv regs wait:=
 ⟨k.blk h.hp (hn p (.inl rfl)),h.hr.keep k (fun g hg=>hn g (.inr (.inl hg))),h.hw.keep k (fun g hg=>hn g (.inr (.inr hg))),h.ap⟩
def SideTo (w:World) (p:Nat) (rv wv:Value) (w':World) (regs wait:List (Int × Int)):Prop:=
 ∃ rv' wv',SideAt w' p rv' wv' regs wait∧Keeps (SideFp p rv wv) w w'∧∀ k,SideFp p rv' wv' k→SideFp p rv wv k∨w.heap.size≤k
theorem Full_c (p:Nat) (rv wv:Value) (regs wait:List (Int × Int)) (w:World) (h:SideAt w p rv wv regs wait) (h1:regs.length≤1000000) (h2:wait.length≤1000000) :
  Calls Tryz.prog 117 #[.pointer (some ⟨p,0,none⟩)] w fun e w'=>e=.returned (.bool (decide (24≤regs.length+wait.length)))∧Keeps (fun _=>False) w w':=by
 obtain ⟨ro,rc,rfl,_,_,_⟩:=h.hr.rd
 obtain ⟨wo,wc,rfl,_,_,_⟩:=h.hw.rd
 have c0:w.cell? ⟨p,0,none⟩=_:=h.hp.cell 0
 have c1:w.cell? ⟨p,1,none⟩=_:=h.hp.cell 1
 simp only [List.getElem?_cons_zero,List.getElem?_cons_succ] at c0 c1
 have hw:IntKind.i64.wrap ((regs.length:Int)+(wait.length:Int))=(regs.length:Int)+(wait.length:Int):=IntWalk.i64_in _ (by omega)
 go_enter Tryz.func117,Tryz.ntmps117
 go_wp2_with fail
 refine wp_region_ord [(0,0),(1,0),(2,0),(5,0),(6,0),(7,0),(3,0),(4,0),(8,0),(9,0),(10,0),(11,0),(12,0)] (fun w'=>w'.cell? ⟨p,0,none⟩=some (.slice ro regs.length rc)∧w'.cell? ⟨p,1,none⟩=some (.slice wo wait.length wc)) (by kernel_rfl) (by kernel_rfl) ⟨c0,c1⟩ ?_
 iterate 13 (refine wpOrd_pure rfl rfl _ (fun w' hG=>by obtain ⟨g0,g1⟩:=hG;go_simp;exact Gives.mk _ _) (fun K hK=>?_);go_simp;refine hK _ ?_;clear hK K)
 refine wpOrd_end ?_
 go_wp2_with fail
 go_ret
 refine ⟨ret_bool ?_,(Keeps.refl _ _).drew⟩
 congr 1
 simp only [eq_iff_iff]
 omega
theorem info_entry:(Tryz.prog.info? 101).map (fun i=>(i.zero,i.size,i.bytes))=some (some (.agg #[.int .i64 0, .int .i64 0]),2,16):=by kernel_rfl
theorem Reg_full (p:Nat) (rv wv:Value) (regs wait:List (Int × Int)) (g t:Int) (w:World) (h:SideAt w p rv wv regs wait) (h1:regs.length≤1000000) (h2:wait.length≤1000000) (hf:24≤regs.length+wait.length) :
  Calls Tryz.prog 51 #[.pointer (some ⟨p,0,none⟩), .agg #[.int .i64 g, .int .i64 t]] w fun e w'=>e=.returned (.bool false)∧Keeps (fun _=>False) w w':=by
 have H:=Hz (h.keep ((Kz w).alloc (.cells #[.int .i64 g, .int .i64 t] 101)) (fun _ _ h=>h));clear h
 have hd:decide (24≤regs.length+wait.length)=true:=by simpa using hf
 go_enter Tryz.func51,Tryz.ntmps51
 go_wp2_with fail
 refine (Full_c p rv wv regs wait _ H.out h1 h2).mono ?_
 rintro e w1 ⟨rfl,hk⟩
 rw [hd]
 go_wp2_with fail
 go_ret
 exact ⟨rfl,((Keeps.refl _ _).alloc _).trans hk⟩
theorem Reg_room (p:Nat) (rv wv:Value) (regs wait:List (Int × Int)) (g t:Int) (w:World) (h:SideAt w p rv wv regs wait) (h1:regs.length≤1000000) (h2:wait.length≤1000000) (hf:¬ 24≤regs.length+wait.length) :
  Calls Tryz.prog 51 #[.pointer (some ⟨p,0,none⟩), .agg #[.int .i64 g, .int .i64 t]] w fun e w'=>e=.returned (.bool true)∧SideTo w p rv wv w' (regs ++ [(g,t)]) wait:=by
 obtain ⟨i0,hi,hz0,hz1,hz2⟩:=info_parts info_entry
 have Hi:=Hz hi;have Hz0:=Hz hz0;have Hz1:=Hz hz1;have Hz2:=Hz hz2;clear hi hz0 hz1 hz2
 have HW:=Hz h
 have H:=Hz (h.keep ((Kz w).alloc (.cells #[.int .i64 g, .int .i64 t] 101)) (fun _ _ h=>h))
 have HB:=Hz (Blk.newAt (w:=w) (b:=w.heap.size) (T:=101) #[.int .i64 g, .int .i64 t] rfl rfl);clear h
 have hd:decide (24≤regs.length+wait.length)=false:=by simpa using hf
 obtain ⟨ro,rc,rfl,_,_,_⟩:=HW.out.hr.rd
 go_enter Tryz.func51,Tryz.ntmps51
 go_wp2_with fail
 refine (Full_c p _ wv regs wait _ H.out h1 h2).mono ?_
 rintro e w1 ⟨rfl,hk⟩
 rw [hd]
 have HB1:=Hz (hk.blk HB.out (fun h=>h))
 have HW1:=Hz (H.out.keep hk (fun _ _ h=>h))
 have HK1:=Hz (((Keeps.refl (SideFp p (.slice ro regs.length rc) wv) w).alloc (.cells #[.int .i64 g, .int .i64 t] 101)).trans (hk.mono fun _ _ h=>h.elim))
 clear hk
 have c0:=HW1.out.hp.cell 0
 have b0:=HB1.out.cell 0;have b1:=HB1.out.cell 1
 have f0:=HW1.out.hp.free 0
 simp only [List.getElem?_cons_zero,List.getElem?_cons_succ] at c0 b0 b1
 go_wp2_with fail
 refine wp_region_ord [(0,0),(1,0),(2,0),(3,0),(4,0),(5,0),(6,1),(7,1),(8,0),(9,0),(10,2)] (fun w'=>w'.cell? ⟨p,0,none⟩=some (.slice ro regs.length rc)∧w'.cell? ⟨w.heap.size,0,none⟩=some (.int .i64 g)∧w'.cell? ⟨w.heap.size,1,none⟩=some (.int .i64 t)) (by kernel_rfl) (by kernel_rfl) ⟨c0,b0,b1⟩ ?_
 iterate 6 (refine wpOrd_pure rfl rfl _ (fun w' hG=>by obtain ⟨g0,g1,g2⟩:=hG;go_simp;exact Gives.mk _ _) (fun K hK=>?_);go_simp;refine hK _ ?_;clear hK K)
 refine wpOrd_run rfl rfl (fun K hK=>?_);unfold gRun;go_simp;refine hK _ _ ?_ ?_
 ·have k:=(Kz w1).alloc (.cells #[.int .i64 g, .int .i64 t] 101)
  have b:=k.blk HW1.out.hp (fun h=>h)
  have b':=k.blk HB1.out (fun h=>h)
  exact ⟨b.cell 0,b'.cell 0,b'.cell 1⟩
 clear hK K
 refine wpOrd_run rfl rfl (fun K hK=>?_)
 refine gRun_app (.tmp 11) (.tmp 13) 131 rfl 101 i0 (.agg #[.int .i64 0, .int .i64 0]) 2 16 Tryz.underlying131 Hi.out Hz0.out Hz1.out Hz2.out rfl (by decide) _ regs.length (entV regs) rfl ?ha ⟨w1.heap.size,0,none⟩ 1 1 [.int .i64 g, .int .i64 t] rfl rfl ?hb ?hc ?hd ?he ?hf
 case ha=>exact HW1.out.hr.keep (((Kz w1).alloc _).drew) (fun _ _ h=>h)
 case hb=>exact news_at w1 101 #[.int .i64 g, .int .i64 t]
 case hc=>intro u hu;simp at hu;rcases hu with rfl | rfl <;> rfl
 case hd=>unfold maxLen;omega
 case he=>omega
 case hf=>
  intro v2 w2 hs2 hk2 ho2
  have hka:Keeps (fun _=>False) w1 ((w1.alloc (.cells #[.int .i64 g, .int .i64 t] 101)).drew):=((Kz w1).alloc _).drew
  have hp2:=hk2.blk (hka.blk HW1.out.hp (fun h=>h)) HW1.out.pr
  have hw2:=(HW1.out.hw.keep hka (fun _ _ h=>h)).keep hk2 (fun b hb hr=>HW1.out.ap b ⟨hr,hb⟩)
  have hb2:=hk2.blk (hka.blk HB1.out (fun h=>h)) (fun hr=>by have:=(HW.out.hr.own hr).1;omega)
  refine hK _ _ ⟨hp2.cell 0,hb2.cell 0,hb2.cell 1⟩ ?_
  clear hK K
  have hs3:Sl w2 101 2 v2 (regs ++ [(g,t)]).length (entV (regs ++ [(g,t)])):=by simpa [entV] using hs2
  obtain ⟨vo,vc,rfl,_,_,_⟩:=hs3.rd
  have HK2:Hid (Keeps (SideFp p (.slice ro regs.length rc) wv) w w2):=(HK1.out.trans (hka.mono fun _ _ h=>h.elim)).trans (hk2.mono fun k _ hk=>.inr (.inl hk))
  have HO:Hid (∀ k,ownB (.slice vo (regs ++ [(g,t)]).length vc) k→ownB (.slice ro regs.length rc) k∨w.heap.size≤k):=fun k hk=>by
   rcases ho2 k hk with h | h
   ·exact .inl h
   ·have:=HK1.out.size;simp at h;exact .inr (by omega)
  have HP:=Hz hp2;have HW2:=Hz hw2;have HS:=Hz hs3
  have HWL:Hid (∀ k,ownB wv k→k<w.heap.size):=fun k hk=>(HW.out.hw.own hk).1
  clear hs2 hk2 ho2 hka hp2 hw2 hb2 hs3
  have d0:=HP.out.cell 0
  have e0:=HP.out.free 0
  simp only [List.getElem?_cons_zero] at d0
  iterate 2 (refine wpOrd_pure rfl rfl _ (fun w' hG=>by obtain ⟨g0,g1,g2⟩:=hG;go_simp;exact Gives.mk _ _) (fun K hK=>?_);go_simp;refine hK _ ?_;clear hK K)
  refine wpOrd_last rfl rfl (fun K hK=>?_);unfold gRun;go_simp;refine hK _ _ ?_
  clear hK K
  refine wpOrd_end ?_
  go_wp2_with fail
  go_ret
  refine ⟨rfl,_,_,⟨by simpa using HP.out.setSame 0 _,HS.out.keep ((Keeps.refl (·=p) w2).setCell (p:=⟨p,0,none⟩) (.inl rfl) _) ?_,HW2.out.keep ((Keeps.refl (·=p) w2).setCell (p:=⟨p,0,none⟩) (.inl rfl) _) ?_,?_⟩,HK2.out.setCell (p:=⟨p,0,none⟩) (.inl (.inl rfl)) _,?_⟩
  ·rintro b hb rfl
   obtain ⟨_,cur,hc⟩:=HS.out.own hb
   exact (hc.ne HP.out (by decide)) rfl
  ·rintro b hb rfl
   obtain ⟨_,cur,hc⟩:=HW2.out.own hb
   exact (hc.ne HP.out (by decide)) rfl
  ·rintro k ⟨h1,h2⟩
   rcases HO.out k h1 with h | h
   ·exact HW.out.ap k ⟨h,h2⟩
   ·have:=HWL.out k h2;omega
  ·rintro k (h | h | h)
   ·exact .inl (.inl h)
   ·rcases HO.out k h with h | h
    ·exact .inl (.inr (.inl h))
    ·exact .inr h
   ·exact .inl (.inr (.inr h))
end
section
open Go.RowKit
theorem entV_get:∀ (l:List (Int × Int)) (i:Nat),i<l.length→(entV l)[i*2]? = some (.int .i64 (l.getD i (0,0)).1)∧(entV l)[i*2+1]? = some (.int .i64 (l.getD i (0,0)).2)
 | e :: l,0,_=>by simp [entV]
 | e :: l,i+1,h=>by
  have ih:=entV_get l i (by simpa using h)
  have h1:(i+1)*2=i*2+1+1:=by omega
  have h2:(i+1)*2+1=i*2+1+1+1:=by omega
  have e0:entV (e :: l)=.int .i64 e.1 :: .int .i64 e.2 :: entV l:=by simp [entV]
  rw [h2,h1,e0]
  simpa using ih
theorem Rd.ent {w:World} {ao:Option Addr} {l:List (Int × Int)} (h:Rd w ao (entV l)) (i:Nat) (hi:i<l.length) :
  ∃ g o,ao=some ⟨g,o,none⟩∧g<w.heap.size∧w.cell? ⟨g,o+i*2,none⟩=some (.int .i64 (l.getD i (0,0)).1)∧w.cell? ⟨g,o+i*2+1,none⟩=some (.int .i64 (l.getD i (0,0)).2):=by
 have hl:=entV_length l
 obtain ⟨g,o,rfl,hg,hc⟩:=h (by intro e;rw [e] at hl;simp at hl;omega)
 have hi2:=entV_get l i hi
 refine ⟨g,o,rfl,hg,?_,?_⟩
 ·rw [hc _ (by omega)];exact hi2.1
 ·rw [show o+i*2+1=o+(i*2+1) by omega,hc _ (by omega)];exact hi2.2
theorem one_entV {l:List (Int × Int)} {u:Value} (h:u ∈ entV l):u.oneCell'=true:=by
 simp only [entV,List.mem_flatMap] at h
 obtain ⟨e,_,he⟩:=h
 simp at he
 rcases he with rfl | rfl <;> rfl
theorem entV_cons (e:Int × Int) (l:List (Int × Int)):entV (e :: l)=.int .i64 e.1 :: .int .i64 e.2 :: entV l:=by simp [entV]
end
section
open Go.RowKit
theorem Sl.laid {w:World} {e size:Nat} {v:Value} {n:Nat} {xs:List Value} (h:Sl w e size v n xs) (hn:0<n) :
  ∃ g o cap cur,v=.slice (some ⟨g,o,none⟩) n cap∧Blk w g cur e∧n≤cap∧cap≤maxLen∧o+cap*size≤cur.length∧(cur.drop o).take (n*size)=xs:=by
 rcases h.2 with ⟨_,h0⟩ | h
 ·omega
 ·exact h
theorem info_int64:(Tryz.prog.info? 2).map (fun i=>(i.zero,i.size,i.bytes))=some (some (.int .i64 0),1,8):=by kernel_rfl
def atG (x:Int) (l:List (Int × Int)):List Int:=(l.filter fun e=>e.1 == x).map (·.2)
theorem atG_step {x:Int} {l:List (Int × Int)} {k:Nat} (h:k<l.length):atG x (l.take (k+1))=atG x (l.take k) ++ if ((l.getD k (0,0)).1 == x)=true then [(l.getD k (0,0)).2] else []:=by
 unfold atG
 rw [List.take_succ_eq_append_getElem h,List.filter_append,List.map_append]
 congr 1
 have hg:l.getD k (0,0)=l[k]:=by simp [List.getD,h]
 rw [hg]
 cases hc:(l[k].1 == x) <;> simp [hc]
theorem atG_le (x:Int) (l:List (Int × Int)):(atG x l).length≤l.length:=by
 unfold atG;rw [List.length_map];exact List.length_filter_le _ _
def LongsRet (w:World) (e:Ending) (w':World) (l:List Int):Prop:=
 ∃ ao cap,e=.returned (.slice ao l.length cap)∧Sl w' 2 1 (.slice ao l.length cap) l.length (l.map (Value.int .i64))∧Keeps (fun _=>False) w w'∧∀ k,ownB (.slice ao l.length cap) k→w.heap.size≤k
theorem At_c (p:Nat) (rv wv:Value) (regs wait:List (Int × Int)) (x:Int) (w:World) (h:SideAt w p rv wv regs wait) (h2:wait.length≤1000000) :
  Calls Tryz.prog 157 #[.pointer (some ⟨p,0,none⟩), .int .i64 x] w fun e w'=>LongsRet w e w' (atG x wait):=by
 obtain ⟨i0,hi,hz0,hz1,hz2⟩:=info_parts info_int64
 have Hi:=Hz hi;have Hz0:=Hz hz0;have Hz1:=Hz hz1;have Hz2:=Hz hz2;clear hi hz0 hz1 hz2
 obtain ⟨wo,wc,rfl,hrd,_,_⟩:=h.hw.rd
 have c1:=h.hp.cell 1
 simp only [List.getElem?_cons_zero,List.getElem?_cons_succ] at c1
 have H:=Hz h;have HR:=Hz hrd
 clear h hrd
 go_enter Tryz.func157,Tryz.ntmps157
 go_wp2_with fail
 go_loopw [5,13] (fun v i wr=>∃ k:Nat,k≤wait.length∧i=.int .i64 k∧Sl wr 2 1 v (atG x (wait.take k)).length ((atG x (wait.take k)).map (Value.int .i64))∧Keeps (fun _=>False) w wr∧∀ k,ownB v k→w.heap.size≤k) (fun _ i _=>wait.length-(intOf i).toNat)
 case atStart=>exact ⟨0,Nat.zero_le _,rfl,by simpa [atG] using Sl.nil w 2 1,Keeps.refl _ _,by intro k hk;simp [ownB,Value.ownBlock] at hk⟩
 case round=>
  obtain ⟨k,hk,rfl,hs,hkk,how⟩:=hrel
  have HK:=Hz hkk;have HS:=Hz hs;have HO:=Hz how;clear hkk hs how
  have hal:(atG x (wait.take k)).length≤k:=Nat.le_trans (atG_le _ _) (List.length_take_le _ _)
  by_cases hlt:k<wait.length
  ·obtain ⟨g,o,rfl,_,d0,d1⟩:=((HR.out.keep HK.out (fun _ _ _ h=>h))).ent k hlt
   have HST:=Hz (atG_step (x:=x) hlt)
   generalize wait.getD k (0,0)=v at *
   cases hv:(v.1 == x)
   ·go_wp2_with fail
    go_roundw
    case rel=>exact ⟨k+1,by omega,by go_num,by rw [HST.out,hv];simpa using HS.out.keep ((Kz wr).alloc _) (fun _ _ h=>h),HK.out.alloc _,HO.out⟩
    case measure=>simp [intOf];omega
   ·go_wp2_with (at_builtin;refine wpList_app rfl (.tmp 21) (.tmp 24) 50 rfl 2 i0 (.int .i64 0) 1 8 Tryz.underlying50 Hi.out Hz0.out Hz1.out Hz2.out rfl (by decide) _ (atG x (wait.take k)).length ((atG x (wait.take k)).map (Value.int .i64)) rfl ?ha ⟨wr.heap.size+1,0,none⟩ 1 1 [.int .i64 v.2] rfl rfl ?hb ?hc ?hd ?he ?hf)
    case ha=>exact HS.out.keep (((Kz wr).alloc _).alloc _) (fun _ _ h=>h)
    case hb=>
     have:=news_at (wr.alloc (Obj.cells #[.int .i64 v.1, .int .i64 v.2] 101)) 2 #[.int .i64 v.2]
     simpa using this
    case hc=>intro u hu;simp at hu;subst hu;rfl
    case hd=>unfold maxLen;omega
    case he=>omega
    case hf=>
     intro v2 w2 hs2 hk2 ho2
     have HK2:=Hz (((HK.out.alloc (Obj.cells #[.int .i64 v.1, .int .i64 v.2] 101)).alloc (Obj.cells #[.int .i64 v.2] 2)).then hk2 (fun j hj=>.inr (HO.out j hj)))
     have HO2:Hid (∀ j,ownB v2 j→w.heap.size≤j):=fun j hj=>by
      rcases ho2 j hj with h | h
      ·exact HO.out j h
      ·have:=HK.out.size;first | omega | (simp at h;omega)
     have HS2:=Hz hs2
     clear hs2 hk2 ho2
     go_wp2_with fail
     go_roundw
     case rel=>exact ⟨k+1,by omega,by go_num,by rw [HST.out,if_pos hv];simpa using HS2.out,HK2.out,HO2.out⟩
     case measure=>simp [intOf];omega
  ·obtain rfl:k=wait.length:=by omega
   go_wp2_with fail
   go_ret
   have hs:=HS.out
   rw [List.take_length] at hs
   obtain ⟨ao,cap,rfl,_,_,_⟩:=hs.rd
   exact ⟨ao,cap,rfl,hs,HK.out,HO.out⟩
def EntsRet (w:World) (e:Ending) (w':World) (l:List (Int × Int)):Prop:=
 ∃ ao cap,e=.returned (.slice ao l.length cap)∧Sl w' 101 2 (.slice ao l.length cap) l.length (entV l)∧Keeps (fun _=>False) w w'∧∀ k,ownB (.slice ao l.length cap) k→w.heap.size≤k
theorem Clone_c (v:Value) (l:List (Int × Int)) (w:World) (h:Sl w 101 2 v l.length (entV l)) (hl:l.length≤1000000) :
  Calls Tryz.prog 132 #[v] w fun e w'=>EntsRet w e w' l:=by
 obtain ⟨i0,hi,hz0,hz1,hz2⟩:=info_parts info_entry
 have Hi:=Hz hi;have Hz0:=Hz hz0;have Hz1:=Hz hz1;have Hz2:=Hz hz2;clear hi hz0 hz1 hz2
 have hxl:=h.1
 rcases h.2 with ⟨rfl,hn⟩ | ⟨g,o,cap,cur,rfl,hb,hnc,hcm,hoc,hx⟩
 ·have hl0:l=[]:=List.eq_nil_of_length_eq_zero hn
  subst hl0
  have hne:=fun (wx:World)=>Lib.run_eql_slice_nil (P:=Tryz.prog) wx 131 101 none 0 0 0 0 Tryz.underlying131
  go_enter Tryz.func132,Tryz.ntmps132
  go_wp2_with fail
  go_ret
  exact ⟨none,0,rfl,Sl.nil _ _ _,Keeps.refl _ _,by intro k hk;simp [ownB,Value.ownBlock] at hk⟩
 ·have hne:=fun (wx:World)=>Lib.run_eql_slice_nil (P:=Tryz.prog) wx 131 101 (some ⟨g,o,none⟩) l.length cap 0 0 Tryz.underlying131
  have HX:=Hz hx;have HB:=Hz hb
  clear hx hb h hxl
  go_enter Tryz.func132,Tryz.ntmps132
  go_wp2_with (at_builtin;refine wpList_app rfl (.tmp 5) (.tmp 6) 131 rfl 101 i0 (.agg #[.int .i64 0, .int .i64 0]) 2 16 Tryz.underlying131 Hi.out Hz0.out Hz1.out Hz2.out rfl (by decide) _ 0 [] rfl ?ha ⟨g,o,none⟩ l.length cap (entV l) rfl ?hl ?hb ?hc ?hd ?he ?hf)
  case ha=>exact ⟨rfl, .inr ⟨w.heap.size,0,0,[],rfl,Blk.newAt _ rfl rfl,Nat.le_refl _,Nat.zero_le _,by simp,by simp⟩⟩
  case hl=>exact entV_length l
  case hb=>
   intro j u hu
   have hj:=(List.getElem?_eq_some_iff.1 hu).1
   rw [entV_length] at hj
   rw [addr_add,(HB.out.alloc _).cell,←hu,←HX.out,List.getElem?_take,if_pos hj,List.getElem?_drop]
  case hc=>intro u hu;exact one_entV hu
  case hd=>unfold maxLen;omega
  case he=>omega
  case hf=>
   intro v2 w2 hs2 hk2 ho2
   go_wp2_with fail
   go_ret
   obtain ⟨ao,c2,rfl,_,_,_⟩:=hs2.rd
   refine ⟨ao,c2,rfl,hs2,((Kz w).alloc _).then hk2 (fun j hj=>by simp [ownB,Value.ownBlock] at hj;exact .inr (by omega)),fun j hj=>?_⟩
   rcases ho2 j hj with h | h
   ·simp [ownB,Value.ownBlock] at h;omega
   ·first | omega | (simp at h;omega)
def SideRet (w:World) (e:Ending) (w':World) (regs wait:List (Int × Int)):Prop:=
 ∃ p' rv' wv',e=.returned (.pointer (some ⟨p',0,none⟩))∧SideAt w' p' rv' wv' regs wait∧Keeps (fun _=>False) w w'∧∀ k,SideFp p' rv' wv' k→w.heap.size≤k
theorem Copy_c (p:Nat) (rv wv:Value) (regs wait:List (Int × Int)) (w:World) (h:SideAt w p rv wv regs wait) (h1:regs.length≤1000000) (h2:wait.length≤1000000) :
  Calls Tryz.prog 68 #[.pointer (some ⟨p,0,none⟩)] w fun e w'=>SideRet w e w' regs wait:=by
 obtain ⟨ro,rc,rfl,_,_,_⟩:=h.hr.rd
 obtain ⟨wo,wc,rfl,_,_,_⟩:=h.hw.rd
 have c0:=h.hp.cell 0
 have c1:=h.hp.cell 1
 simp only [List.getElem?_cons_zero,List.getElem?_cons_succ] at c0 c1
 have H:=Hz h;clear h
 go_enter Tryz.func68,Tryz.ntmps68
 go_wp2_with fail
 refine wp_region_ord [(0,0),(1,0),(2,0),(5,0),(6,0),(7,0),(3,0),(8,0),(4,1),(9,1),(10,0),(11,1),(12,0)] (fun w'=>w'.cell? ⟨p,0,none⟩=some (.slice ro regs.length rc)∧w'.cell? ⟨p,1,none⟩=some (.slice wo wait.length wc)) (by kernel_rfl) (by kernel_rfl) ⟨c0,c1⟩ ?_
 iterate 8 (refine wpOrd_pure rfl rfl _ (fun w' hG=>by obtain ⟨g0,g1⟩:=hG;go_simp;exact Gives.mk _ _) (fun K hK=>?_);go_simp;refine hK _ ?_;clear hK K)
 refine wpOrd_run rfl rfl (fun K hK=>?_);unfold gRun;go_simp
 refine (Clone_c _ regs _ (H.out.hr.keep ((Kz w).drew) (fun _ _ h=>h)) h1).mono ?_
 rintro e w1 ⟨ao,ac,rfl,hs,hk,ho⟩
 have HK1:=Hz (((Kz w).drew).trans hk)
 have H1:=Hz (H.out.keep HK1.out (fun _ _ h=>h))
 have HS:=Hz hs
 have HO:=Hz ho
 have HSL:Hid (∀ k,ownB (.slice ao regs.length ac) k→k<w1.heap.size):=fun k hk=>(HS.out.own hk).1
 clear hs hk ho
 refine hK _ _ ⟨H1.out.hp.cell 0,H1.out.hp.cell 1⟩ ?_
 clear hK K
 refine wpOrd_run rfl rfl (fun K hK=>?_);unfold gRun;go_simp
 refine (Clone_c _ wait _ H1.out.hw h2).mono ?_
 rintro e w2 ⟨bo,bc,rfl,hs,hk,ho⟩
 have HK2:=Hz (HK1.out.trans hk)
 have H2:=Hz (H1.out.keep hk (fun _ _ h=>h))
 have HS1:=Hz (HS.out.keep hk (fun _ _ h=>h))
 have HS2:=Hz hs
 have HO2:=Hz ho
 have hsz:=HK1.out.size
 clear hs hk ho HS
 refine hK _ _ ⟨H2.out.hp.cell 0,H2.out.hp.cell 1⟩ ?_
 clear hK K
 iterate 1 (refine wpOrd_pure rfl rfl _ (fun w' hG=>by obtain ⟨g0,g1⟩:=hG;go_simp;exact Gives.mk _ _) (fun K hK=>?_);go_simp;refine hK _ ?_;clear hK K)
 refine wpOrd_run rfl rfl (fun K hK=>?_);unfold gRun;go_simp
 refine hK _ _ ?_ ?_
 ·have:=H2.out.hp.alloc (Obj.cells #[Value.slice ao regs.length ac,Value.slice bo wait.length bc] 133)
  exact ⟨this.cell 0,this.cell 1⟩
 clear hK K
 iterate 1 (refine wpOrd_pure rfl rfl _ (fun w' hG=>by obtain ⟨g0,g1⟩:=hG;go_simp;exact Gives.mk _ _) (fun K hK=>?_);go_simp;refine hK _ ?_;clear hK K)
 refine wpOrd_end ?_
 go_wp2_with fail
 go_ret
 refine ⟨w2.heap.size, .slice ao regs.length ac, .slice bo wait.length bc,rfl,⟨.newAt _ rfl rfl,HS1.out.keep ((Kz w2).alloc _) (fun _ _ h=>h),HS2.out.keep ((Kz w2).alloc _) (fun _ _ h=>h),?_⟩,HK2.out.alloc _,?_⟩
 ·rintro k ⟨a1,a2⟩
  have:=HO2.out k a2
  have:=HSL.out k a1
  omega
 ·rintro k (a | a | a)
  ·subst a;exact HK2.out.size
  ·exact HO.out k a
  ·exact Nat.le_trans hsz (HO2.out k a)
end
section
abbrev Vl:=Int × Int
abbrev Nd:=Int × List Vl
abbrev Gr:=Int→Nd
abbrev VS:=List Int × List Nd
def refV (n:Nat):Vl:=(3,(n:Int))
def fldM (f:Vl→VS→Vl × VS):List Vl→VS→List Vl × VS
 | [],s=>([],s)
 | v :: l,s=>((f v s).1 :: (fldM f l (f v s).2).1,(fldM f l (f v s).2).2)
def valM (G:Gr):Nat→Vl→VS→Vl × VS
 | 0,v,s=>if v.1=3 then (refV (s.1.idxOf v.2),s) else (v,s)
 | n+1,v,s=>
  if v.1=3 then
   if v.2 ∈ s.1 then (refV (s.1.idxOf v.2),s)
   else
    let r:=fldM (valM G n) (G v.2).2 (s.1 ++ [v.2],s.2 ++ [((G v.2).1,[])])
    (refV s.1.length,(r.2.1,r.2.2.set s.1.length ((G v.2).1,r.1)))
  else (v,s)
theorem valM_plain (G:Gr) (n:Nat) {v:Vl} (s:VS) (h:v.1≠3):valM G n v s=(v,s):=by
 cases n <;> simp [valM,h]
theorem valM_met (G:Gr) (n:Nat) {v:Vl} {s:VS} (h:v.1=3) (hm:v.2 ∈ s.1):valM G n v s=(refV (s.1.idxOf v.2),s):=by
 cases n <;> simp [valM,h,hm]
theorem valM_new (G:Gr) (n:Nat) {v:Vl} {s:VS} (h:v.1=3) (hm:¬ v.2 ∈ s.1):valM G (n+1) v s =
  (refV s.1.length,((fldM (valM G n) (G v.2).2 (s.1 ++ [v.2],s.2 ++ [((G v.2).1,[])])).2.1,
   (fldM (valM G n) (G v.2).2 (s.1 ++ [v.2],s.2 ++ [((G v.2).1,[])])).2.2.set s.1.length ((G v.2).1,(fldM (valM G n) (G v.2).2 (s.1 ++ [v.2],s.2 ++ [((G v.2).1,[])])).1))):=by
 simp [valM,h,hm]
theorem fldM_app (f:Vl→VS→Vl × VS):∀ (a b:List Vl) (s:VS),fldM f (a ++ b) s=((fldM f a s).1 ++ (fldM f b (fldM f a s).2).1,(fldM f b (fldM f a s).2).2)
 | [],b,s=>rfl
 | v :: a,b,s=>by simp [fldM,fldM_app f a b]
theorem fldM_len (f:Vl→VS→Vl × VS):∀ (a:List Vl) (s:VS),(fldM f a s).1.length=a.length
 | [],_=>rfl
 | v :: a,s=>by simp [fldM,fldM_len f a]
def deep:Nat:=5000
def viewM (G:Gr) (roots:List Vl):List Vl × List Nd:=((fldM (valM G deep) roots ([],[])).1,(fldM (valM G deep) roots ([],[])).2.2)
def reV (φ:Int→Int) (v:Vl):Vl:=if v.1=3 then (3,φ v.2) else v
theorem reV_kind (φ:Int→Int) (v:Vl):(reV φ v).1=v.1:=by unfold reV;split <;> simp_all
structure Iso (G H:Gr) (P:Int→Prop) (φ:Int→Int):Prop where
 inj:∀ i j,P i→P j→φ i=φ j→i=j
 same:∀ i,P i→H (φ i)=((G i).1,(G i).2.map (reV φ))
 shut:∀ i,P i→∀ v ∈ (G i).2,v.1=3→P v.2
theorem idxOf_map {φ:Int→Int} {P:Int→Prop} (inj:∀ i j,P i→P j→φ i=φ j→i=j) {x:Int} (hx:P x):∀ (l:List Int),(∀ i ∈ l,P i)→(l.map φ).idxOf (φ x)=l.idxOf x∧(φ x ∈ l.map φ↔x ∈ l)
 | [],_=>by simp
 | a :: l,h=>by
  obtain ⟨h1,h2⟩:=idxOf_map inj hx l (fun i hi=>h i (by simp [hi]))
  have ha:=h a (by simp)
  by_cases e:a=x
  ·subst e;simp
  ·have e':φ a≠φ x:=fun e'=>e (inj _ _ ha hx e')
   refine ⟨?_,?_⟩
   ·have b1:(φ a == φ x)=false:=by simpa using e'
    have b2:(a == x)=false:=by simpa using e
    rw [List.map_cons,List.idxOf_cons,List.idxOf_cons,h1,b1,b2]
   ·rw [List.map_cons,List.mem_cons,List.mem_cons,h2]
    simp [Ne.symm e,Ne.symm e']
theorem valM_iso {G H:Gr} {P:Int→Prop} {φ:Int→Int} (I:Iso G H P φ):∀ (n:Nat) (v:Vl) (s:VS),(v.1=3→P v.2)→(∀ i ∈ s.1,P i) →
  valM H n (reV φ v) (s.1.map φ,s.2)=((valM G n v s).1,((valM G n v s).2.1.map φ,(valM G n v s).2.2))∧∀ i ∈ (valM G n v s).2.1,P i:=by
 intro n
 induction n with
 | zero=>
  intro v s hv hs
  by_cases h3:v.1=3
  ·have:=idxOf_map I.inj (hv h3) s.1 hs
   simp only [valM,h3,reV,if_true,this.1]
   exact ⟨trivial,hs⟩
  ·have e:reV φ v=v:=by unfold reV;rw [if_neg h3]
   rw [valM_plain G _ _ h3,e,valM_plain H _ _ h3]
   exact ⟨rfl,hs⟩
 | succ n ih=>
  intro v s hv hs
  by_cases h3:v.1=3
  ·have hx:=hv h3
   have hi:=idxOf_map I.inj hx s.1 hs
   by_cases hm:v.2 ∈ s.1
   ·rw [valM_met G _ h3 hm,valM_met H _ (by rw [reV_kind];exact h3) (by simp only [reV,h3,if_true];exact hi.2.2 hm)]
    simp only [reV,h3,if_true,hi.1]
    exact ⟨trivial,hs⟩
   ·have fl:∀ (l:List Vl) (s:VS),(∀ u ∈ l,u.1=3→P u.2)→(∀ i ∈ s.1,P i) →
      fldM (valM H n) (l.map (reV φ)) (s.1.map φ,s.2)=((fldM (valM G n) l s).1,((fldM (valM G n) l s).2.1.map φ,(fldM (valM G n) l s).2.2))∧∀ i ∈ (fldM (valM G n) l s).2.1,P i:=by
     intro l
     induction l with
     | nil=>intro s _ hs;exact ⟨rfl,hs⟩
     | cons u l ihl=>
      intro s hl hs
      obtain ⟨h1,h2⟩:=ih u s (hl u (by simp)) hs
      obtain ⟨h4,h5⟩:=ihl (valM G n u s).2 (fun u hu=>hl u (by simp [hu])) h2
      simp only [List.map_cons,fldM,h1]
      rw [h4]
      exact ⟨rfl,h5⟩
    have hs':∀ i ∈ s.1 ++ [v.2],P i:=by
     intro i hi'
     rcases List.mem_append.1 hi' with h | h
     ·exact hs i h
     ·rw [List.mem_singleton.1 h];exact hx
    obtain ⟨h1,h2⟩:=fl (G v.2).2 (s.1 ++ [v.2],s.2 ++ [((G v.2).1,[])]) (fun u hu=>I.shut _ hx u hu) hs'
    have hmr:¬ (reV φ v).2 ∈ s.1.map φ:=by simp only [reV,h3,if_true];exact fun h=>hm (hi.2.1 h)
    have hr2:(reV φ v).2=φ v.2:=by simp [reV,h3]
    rw [valM_new G n h3 hm,valM_new H n (s:=(s.1.map φ,s.2)) (by rw [reV_kind];exact h3) hmr,hr2,I.same _ hx]
    simp only [List.map_append,List.map_cons,List.map_nil] at h1
    dsimp only
    rw [h1]
    simp only [List.length_map]
    exact ⟨trivial,h2⟩
  ·rw [valM_plain G _ _ h3,valM_plain H _ _ (by rw [reV_kind];exact h3)]
   have:reV φ v=v:=by unfold reV;rw [if_neg h3]
   rw [this]
   exact ⟨rfl,hs⟩
theorem fldM_iso {G H:Gr} {P:Int→Prop} {φ:Int→Int} (I:Iso G H P φ) (n:Nat):∀ (l:List Vl) (s:VS),(∀ u ∈ l,u.1=3→P u.2)→(∀ i ∈ s.1,P i) →
  fldM (valM H n) (l.map (reV φ)) (s.1.map φ,s.2)=((fldM (valM G n) l s).1,((fldM (valM G n) l s).2.1.map φ,(fldM (valM G n) l s).2.2))∧∀ i ∈ (fldM (valM G n) l s).2.1,P i
 | [],s,_,hs=>⟨rfl,hs⟩
 | u :: l,s,hl,hs=>by
  obtain ⟨h1,h2⟩:=valM_iso I n u s (hl u (by simp)) hs
  obtain ⟨h4,h5⟩:=fldM_iso I n l (valM G n u s).2 (fun u hu=>hl u (by simp [hu])) h2
  simp only [List.map_cons,fldM,h1]
  rw [h4]
  exact ⟨rfl,h5⟩
theorem viewM_iso {G H:Gr} {P:Int→Prop} {φ:Int→Int} (I:Iso G H P φ) {roots:List Vl} (hr:∀ u ∈ roots,u.1=3→P u.2):viewM H (roots.map (reV φ))=viewM G roots:=by
 have:=(fldM_iso I deep roots ([],[]) hr (by simp)).1
 unfold viewM
 simp only [List.map_nil] at this
 rw [this]
def unM (U met:List Int):Nat:=(U.filter fun x=>!met.contains x).length
end
section
theorem filter_le_of {p q:Int→Bool} (h:∀ x,p x=true→q x=true):∀ U:List Int,(U.filter p).length≤(U.filter q).length
 | []=>Nat.le_refl _
 | a :: U=>by
  have ih:=filter_le_of h U
  simp only [List.filter_cons]
  split
  ·rename_i h1;rw [if_pos (h a h1)];simpa using ih
  ·split
   ·simp;omega
   ·exact ih
theorem filter_lt_of {p q:Int→Bool} {x:Int} (h:∀ x,p x=true→q x=true) (h1:p x=false) (h2:q x=true):∀ U:List Int,x ∈ U→(U.filter p).length<(U.filter q).length
 | [],hx=>by cases hx
 | a :: U,hx=>by
  have hle:=filter_le_of h U
  simp only [List.filter_cons]
  rcases List.mem_cons.1 hx with rfl | hx
  ·rw [if_neg (by rw [h1];decide),if_pos h2];simp;omega
  ·have ih:=filter_lt_of h h1 h2 U hx
   split
   ·rename_i h3;rw [if_pos (h a h3)];simpa using ih
   ·split
    ·simp;omega
    ·exact ih
theorem unM_app (U a b:List Int):unM U (a ++ b)≤unM U a:=
 filter_le_of (fun x hx=>by simp at hx ⊢;exact hx.1) U
theorem unM_push {U met:List Int} {x:Int} (hx:x ∈ U) (hm:¬ x ∈ met):unM U (met ++ [x])<unM U met:=
 filter_lt_of (fun y hy=>by simp at hy ⊢;exact hy.1) (x:=x) (by simp) (by simpa using hm) U hx
theorem unM_zero {U met:List Int} (h:unM U met=0) {x:Int} (hx:x ∈ U):x ∈ met:=by
 by_cases hm:x ∈ met
 ·exact hm
 ·have:=unM_push hx hm;omega
theorem unM_nil (U:List Int):unM U []≤U.length:=List.length_filter_le _ _
theorem fldM_pre {f:Vl→VS→Vl × VS} (hf:∀ v s, ∃ m,(f v s).2.1=s.1 ++ m):∀ (l:List Vl) (s:VS), ∃ m,(fldM f l s).2.1=s.1 ++ m
 | [],s=>⟨[],by simp [fldM]⟩
 | v :: l,s=>by
  obtain ⟨m,h⟩:=hf v s
  obtain ⟨m',h'⟩:=fldM_pre hf l (f v s).2
  exact ⟨m ++ m',by simp only [fldM];rw [h',h];simp⟩
theorem valM_pre (G:Gr):∀ (n:Nat) (v:Vl) (s:VS), ∃ m,(valM G n v s).2.1=s.1 ++ m:=by
 intro n
 induction n with
 | zero=>intro v s;refine ⟨[],?_⟩;simp only [valM];split <;> simp
 | succ n ih=>
  intro v s
  by_cases h3:v.1=3
  ·by_cases hm:v.2 ∈ s.1
   ·exact ⟨[],by rw [valM_met G _ h3 hm];simp⟩
   ·obtain ⟨m,h⟩:=fldM_pre ih (G v.2).2 (s.1 ++ [v.2],s.2 ++ [((G v.2).1,[])])
    exact ⟨[v.2] ++ m,by rw [valM_new G n h3 hm];dsimp only;rw [h];simp⟩
  ·exact ⟨[],by rw [valM_plain G _ _ h3];simp⟩
structure InU (G:Gr) (U:List Int):Prop where
 shut:∀ i ∈ U, ∀ v ∈ (G i).2,v.1=3→v.2 ∈ U
theorem fldM_nodes {f:Vl→VS→Vl × VS} (hf:∀ v s,s.2.length=s.1.length→(f v s).2.2.length=(f v s).2.1.length):∀ (l:List Vl) (s:VS),s.2.length=s.1.length→(fldM f l s).2.2.length=(fldM f l s).2.1.length
 | [],s,h=>h
 | v :: l,s,h=>fldM_nodes hf l _ (hf v s h)
theorem valM_nodes (G:Gr):∀ (n:Nat) (v:Vl) (s:VS),s.2.length=s.1.length→(valM G n v s).2.2.length=(valM G n v s).2.1.length:=by
 intro n
 induction n with
 | zero=>intro v s h;simp only [valM];split <;> exact h
 | succ n ih=>
  intro v s h
  by_cases h3:v.1=3
  ·by_cases hm:v.2 ∈ s.1
   ·rw [valM_met G _ h3 hm];exact h
   ·rw [valM_new G n h3 hm]
    simp only [List.length_set]
    exact fldM_nodes ih _ _ (by simp [h])
  ·rw [valM_plain G _ _ h3];exact h
theorem fldM_count {f:Vl→VS→Vl × VS} {U:List Int} (hf:∀ v s,(v.1=3→v.2 ∈ U)→(f v s).2.1.length+unM U (f v s).2.1≤s.1.length+unM U s.1) :
  ∀ (l:List Vl) (s:VS),(∀ v ∈ l,v.1=3→v.2 ∈ U)→(fldM f l s).2.1.length+unM U (fldM f l s).2.1≤s.1.length+unM U s.1
 | [],s,_=>Nat.le_refl _
 | v :: l,s,hl=>Nat.le_trans (fldM_count hf l _ (fun u hu=>hl u (by simp [hu]))) (hf v s (hl v (by simp)))
theorem valM_count {G:Gr} {U:List Int} (I:InU G U):∀ (n:Nat) (v:Vl) (s:VS),(v.1=3→v.2 ∈ U)→(valM G n v s).2.1.length+unM U (valM G n v s).2.1≤s.1.length+unM U s.1:=by
 intro n
 induction n with
 | zero=>intro v s _;simp only [valM];split <;> exact Nat.le_refl _
 | succ n ih=>
  intro v s hv
  by_cases h3:v.1=3
  ·by_cases hm:v.2 ∈ s.1
   ·rw [valM_met G _ h3 hm];exact Nat.le_refl _
   ·rw [valM_new G n h3 hm]
    have:=fldM_count (f:=valM G n) ih (G v.2).2 (s.1 ++ [v.2],s.2 ++ [((G v.2).1,[])]) (I.shut _ (hv h3))
    have hp:=unM_push (hv h3) hm
    simp only [List.length_append,List.length_cons,List.length_nil] at this
    dsimp only
    omega
  ·rw [valM_plain G _ _ h3];exact Nat.le_refl _
theorem fldM_keepN {f:Vl→VS→Vl × VS} (hl:∀ v s,s.2.length=s.1.length→(f v s).2.2.length=(f v s).2.1.length) (hp:∀ v s, ∃ m,(f v s).2.1=s.1 ++ m)
  (hf:∀ v s,s.2.length=s.1.length→∀ i,i<s.1.length→(f v s).2.2[i]? = s.2[i]?):∀ (l:List Vl) (s:VS),s.2.length=s.1.length→∀ i,i<s.1.length→(fldM f l s).2.2[i]? = s.2[i]?
 | [],s,_,i,_=>rfl
 | v :: l,s,h,i,hi=>by
  obtain ⟨m,hm⟩:=hp v s
  have:=fldM_keepN hl hp hf l (f v s).2 (hl v s h) i (by rw [hm];simp;omega)
  simp only [fldM]
  rw [this,hf v s h i hi]
theorem valM_keepN (G:Gr):∀ (n:Nat) (v:Vl) (s:VS),s.2.length=s.1.length→∀ i,i<s.1.length→(valM G n v s).2.2[i]? = s.2[i]? := by
 intro n
 induction n with
 | zero=>intro v s _ i _;simp only [valM];split <;> rfl
 | succ n ih=>
  intro v s h i hi
  by_cases h3:v.1=3
  ·by_cases hm:v.2 ∈ s.1
   ·rw [valM_met G _ h3 hm]
   ·rw [valM_new G n h3 hm]
    dsimp only
    rw [List.getElem?_set_ne (by omega)]
    have:=fldM_keepN (valM_nodes G n) (valM_pre G n) ih (G v.2).2 (s.1 ++ [v.2],s.2 ++ [((G v.2).1,[])]) (by simp [h]) i (by simp;omega)
    rw [this]
    dsimp only
    rw [List.getElem?_append_left (by omega)]
  ·rw [valM_plain G _ _ h3]
end
section
structure Wo where
 ar:Ar
 cd:List Bool
 rt:List Int
 rg:List (Int × Int)
 wt:List (Int × Int)
def R64e (e:Int × Int):Prop:=R64 e.1∧R64 e.2
structure Wo.ok (O:Wo):Prop where
 ha:O.ar.ok
 h12:O.rt.length=12
 hR:∀ x ∈ O.rt,R64 x
 hg:∀ e ∈ O.rg,R64e e
 hw:∀ e ∈ O.wt,R64e e
 hq:O.rg.length+O.wt.length≤24
 hc:O.cd.length≤1000
def Wo.new (n o:Int):Wo:=⟨Ar.new n o,List.replicate (cardsN o) false,List.replicate 12 2,[],[]⟩
def Ar.thingAt (A:Ar) (x:Int):Int × Int × Int × Int:=if x%4=1∧(A.thing (x/4)).2.2=0 then (x/4,(A.thing (x/4)).1,(A.thing (x/4)).2.1,0) else (0,0,0,2)
def Ar.get (A:Ar) (x i:Int):Int × Int:=
 if (A.thingAt x).2.2.2≠0∨(A.thingAt x).2.1=5 then (0,2) else if i<0∨(A.thingAt x).2.2.1≤i then (0,1) else (A.load (x/4+1+i),0)
def Wo.set (O:Wo) (x i y:Int):Int × Wo:=
 if (O.ar.get x i).2≠0 then ((O.ar.get x i).2,O)
 else (0, { O with ar:=O.ar.store (x/4+1+i) y,cd:=if y%4=1∧(O.ar.store (x/4+1+i) y).young (y/4)=true∧(O.ar.store (x/4+1+i) y).old (x/4)=true then markL O.ar.nur O.cd (x/4) else O.cd })
theorem Wo.set_no' {O:Wo} {x i y:Int} (hc:¬ (O.ar.get x i).2=0):O.set x i y=((O.ar.get x i).2,O):=if_pos hc
theorem Wo.set_yes' {O:Wo} {x i y:Int} (hc:(O.ar.get x i).2=0):O.set x i y=(0, { O with ar:=O.ar.store (x/4+1+i) y,cd:=if y%4=1∧(O.ar.store (x/4+1+i) y).young (y/4)=true∧(O.ar.store (x/4+1+i) y).old (x/4)=true then markL O.ar.nur O.cd (x/4) else O.cd }):=
 if_neg (fun h=>h hc)
def valO (x:Int):Vl:=if x%4=1 then (3,x/4) else ((decW x).1,(decW x).2.1)
def waitO (wt:List (Int × Int)) (g:Int):List Int:=(wt.filter fun e=>e.1 == g).map (·.2)
def Ar.fields (A:Ar) (at_:Int):List Int:=(List.range (A.thing at_).2.1.toNat).map fun (j:Nat)=>A.load (at_+1+(j:Int))
def Wo.gr (O:Wo):Gr:=fun i=>((O.ar.thing i).1,(O.ar.fields i).map valO ++ if (O.ar.thing i).1=5 then (waitO O.wt (4*i+1)).map valO else [])
def Wo.view (O:Wo):List Vl × List Nd:=viewM O.gr (O.rt.map valO)
def Wo.univ (O:Wo):List Int:=((0 :: O.ar.ws) ++ O.rt ++ O.wt.map (·.2)).map (· / 4)
theorem Ar.load_mem {A:Ar} (h:A.ok) (i:Int):A.load i=0∨A.load i ∈ A.ws:=by
 unfold Ar.load
 split
 ·rename_i hu
  have:=h.use_lt hu
  right
  rw [List.getD_eq_getElem?_getD,List.getElem?_eq_getElem (by omega)]
  exact List.getElem_mem _
 ·exact .inl rfl
theorem Wo.univ_load {O:Wo} (h:O.ok) (i:Int):O.ar.load i/4 ∈ O.univ:=by
 unfold Wo.univ
 rcases Ar.load_mem h.ha i with e | e
 ·rw [e];exact List.mem_map.2 ⟨0,by simp,rfl⟩
 ·exact List.mem_map.2 ⟨_,by simp [e],rfl⟩
theorem Wo.univ_root {O:Wo} {x:Int} (h:x ∈ O.rt):x/4 ∈ O.univ:=List.mem_map.2 ⟨x,by simp [h],rfl⟩
theorem Wo.univ_wait {O:Wo} {x g:Int} (h:x ∈ waitO O.wt g):x/4 ∈ O.univ:=by
 unfold waitO at h
 obtain ⟨e,he,rfl⟩:=List.mem_map.1 h
 exact List.mem_map.2 ⟨e.2,by simp only [List.mem_append,List.mem_map];exact .inr ⟨e,(List.mem_filter.1 he).1,rfl⟩,rfl⟩
theorem valO_three {x:Int} (h:(valO x).1=3):x%4=1∧(valO x).2=x/4:=by
 unfold valO at *
 by_cases h1:x%4=1
 ·rw [if_pos h1];exact ⟨h1,rfl⟩
 ·rw [if_neg h1] at h
  dsimp only at h
  unfold decW at h
  exfalso
  repeat' split at h
  all_goals (dsimp only at h;omega)
theorem Wo.inU {O:Wo} (h:O.ok):InU O.gr O.univ:=by
 refine ⟨fun i _ v hv h3=>?_⟩
 unfold Wo.gr at hv
 dsimp only at hv
 rcases List.mem_append.1 hv with h1 | h1
 ·obtain ⟨x,hx,rfl⟩:=List.mem_map.1 h1
  rw [(valO_three h3).2]
  unfold Ar.fields at hx
  obtain ⟨j,_,rfl⟩:=List.mem_map.1 hx
  exact Wo.univ_load h _
 ·split at h1
  ·obtain ⟨x,hx,rfl⟩:=List.mem_map.1 h1
   rw [(valO_three h3).2]
   exact Wo.univ_wait hx
  ·cases h1
theorem Wo.univ_le {O:Wo} (h:O.ok):O.univ.length≤1400:=by
 have h1:=h.ha.h4;have h2:=h.h12;have h3:=h.hq
 unfold Wo.univ
 simp
 omega
theorem Ar.store_len (A:Ar) (i x:Int):(A.store i x).ws.length=A.ws.length:=by unfold Ar.store;split <;> simp
theorem Ar.store_nur (A:Ar) (i x:Int):(A.store i x).nur=A.nur:=by unfold Ar.store;split <;> rfl
theorem Ar.store_yng (A:Ar) (i x:Int):(A.store i x).yng=A.yng:=by unfold Ar.store;split <;> rfl
theorem Ar.store_grn (A:Ar) (i x:Int):(A.store i x).grn=A.grn:=by unfold Ar.store;split <;> rfl
end
section
open Go.RowKit
structure WH where
 p:Nat
 pa:Nat
 g:Nat
 pc:Nat
 cb:Nat
 ps:Nat
 rv:Value
 wv:Value
 ro:Value
def WH.Own (h:WH) (k:Nat):Prop:=k=h.p∨(k=h.pa∨k=h.g)∨(k=h.pc∨k=h.cb)∨SideFp h.ps h.rv h.wv k∨ownB h.ro k
structure WoodAt (w:World) (h:WH) (O:Wo):Prop where
 hp:Blk w h.p [.pointer (some ⟨h.pa,0,none⟩), .pointer (some ⟨h.pc,0,none⟩), .pointer (some ⟨h.ps,0,none⟩),h.ro] 52
 ha:ArenaAt w h.pa h.g O.ar
 hc:CardsAt w h.pc h.cb O.ar.nur O.cd
 hs:SideAt w h.ps h.rv h.wv O.rg O.wt
 hr:Sl w 2 1 h.ro O.rt.length (O.rt.map (Value.int .i64))
 ap:¬ ownB h.ro h.g
 ok:O.ok
section
variable {w w':World} {h:WH} {O:Wo}
theorem WoodAt.keep {S:Nat→Prop} (H:WoodAt w h O) (k:Keeps S w w') (hn:∀ b,h.Own b→¬ S b):WoodAt w' h O:=
 ⟨k.blk H.hp (hn _ (.inl rfl)),H.ha.keep k (hn _ (.inr (.inl (.inl rfl)))) (hn _ (.inr (.inl (.inr rfl)))),H.hc.keep k (hn _ (.inr (.inr (.inl (.inl rfl))))) (hn _ (.inr (.inr (.inl (.inr rfl))))),
  H.hs.keep k (fun b hb=>hn b (.inr (.inr (.inr (.inl hb))))),H.hr.keep k (fun b hb=>hn b (.inr (.inr (.inr (.inr hb))))),H.ap,H.ok⟩
theorem SideAt.fp_type {w:World} {p b:Nat} {rv wv:Value} {regs wait:List (Int × Int)} (h:SideAt w p rv wv regs wait) (hb:SideFp p rv wv b):∃ c T,Blk w b c T∧(T=133∨T=101):=by
 rcases hb with rfl | hb | hb
 ·exact ⟨_,_,h.hp, .inl rfl⟩
 ·obtain ⟨_,c,hc⟩:=h.hr.own hb;exact ⟨_,_,hc, .inr rfl⟩
 ·obtain ⟨_,c,hc⟩:=h.hw.own hb;exact ⟨_,_,hc, .inr rfl⟩
theorem WoodAt.side_ne (H:WoodAt w h O) {b:Nat} {c:List Value} {T:TypeId} (hb:Blk w b c T) (h1:T≠133) (h2:T≠101):¬ SideFp h.ps h.rv h.wv b:=fun hf=>by
 obtain ⟨c',T',hc,hT⟩:=H.hs.fp_type hf
 rcases hT with rfl | rfl
 ·exact hb.ne hc h1 rfl
 ·exact hb.ne hc h2 rfl
theorem WoodAt.ro_ne (H:WoodAt w h O) {b:Nat} {c:List Value} {T:TypeId} (hb:Blk w b c T) (h1:T≠2):¬ ownB h.ro b:=fun hf=>by
 obtain ⟨_,c',hc⟩:=H.hr.own hf
 exact hb.ne hc h1 rfl
theorem WoodAt.arena (H:WoodAt w h O) {A:Ar} (t:ArenaTo w h.pa h.g w' A) (hn:A.nur=O.ar.nur):WoodAt w' h { O with ar:=A }:=by
 have k:=t.k
 have n1:∀ {b:Nat} {c:List Value} {T:TypeId},Blk w b c T→T≠141→T≠2→¬ (b=h.pa∨b=h.g):=fun hb h1 h2 e=>by
  rcases e with e | e
  ·exact hb.ne H.ha.hp h1 e
  ·exact hb.ne H.ha.hg h2 e
 refine ⟨k.blk H.hp (n1 H.hp (by decide) (by decide)),t.at_,?_,H.hs.keep k (fun b hb=>?_),H.hr.keep k (fun b hb=>?_),H.ap, { H.ok with ha:=t.at_.ok }⟩
 ·show CardsAt w' h.pc h.cb A.nur O.cd
  rw [hn];exact H.hc.keep k (n1 H.hc.hp (by decide) (by decide)) (n1 H.hc.hq (by decide) (by decide))
 ·obtain ⟨c,T,hc,hT⟩:=H.hs.fp_type hb
  rcases hT with rfl | rfl
  ·exact n1 hc (by decide) (by decide)
  ·exact n1 hc (by decide) (by decide)
 ·rintro (rfl | rfl)
  ·exact H.ro_ne H.ha.hp (by decide) hb
  ·exact H.ap hb
theorem WoodAt.cards (H:WoodAt w h O) {l:List Bool} (t:CardsAt w' h.pc h.cb O.ar.nur l) (hl:l.length≤1000) (k:Keeps (·=h.cb) w w'):WoodAt w' h { O with cd:=l }:=by
 have n1:∀ {b:Nat} {c:List Value} {T:TypeId},Blk w b c T→T≠4→¬ (b=h.cb):=fun hb h1 e=>hb.ne H.hc.hq h1 e
 refine ⟨k.blk H.hp (n1 H.hp (by decide)),H.ha.keep k (n1 H.ha.hp (by decide)) (n1 H.ha.hg (by decide)),t,H.hs.keep k (fun b hb=>?_),H.hr.keep k (fun b hb=>?_),H.ap, { H.ok with hc:=hl }⟩
 ·obtain ⟨c,T,hc,hT⟩:=H.hs.fp_type hb
  rcases hT with rfl | rfl
  ·exact n1 hc (by decide)
  ·exact n1 hc (by decide)
 ·rintro rfl;exact H.ro_ne H.hc.hq (by decide) hb
theorem WoodAt.ptrs (H:WoodAt w h O):w.cell? ⟨h.p,0,none⟩=some (.pointer (some ⟨h.pa,0,none⟩))∧w.cell? ⟨h.p,1,none⟩=some (.pointer (some ⟨h.pc,0,none⟩))∧w.cell? ⟨h.p,2,none⟩=some (.pointer (some ⟨h.ps,0,none⟩))∧w.cell? ⟨h.p,3,none⟩=some h.ro:=
 ⟨H.hp.cell 0,H.hp.cell 1,H.hp.cell 2,H.hp.cell 3⟩
def WoodTo (w:World) (h:WH) (w':World) (O:Wo):Prop:=
 ∃ h',WoodAt w' h' O∧h'.p=h.p∧Keeps h.Own w w'∧∀ k,h'.Own k→h.Own k∨w.heap.size≤k
theorem WoodAt.arenaTo (H:WoodAt w h O) {A:Ar} (t:ArenaTo w h.pa h.g w' A) (hn:A.nur=O.ar.nur):WoodTo w h w' { O with ar:=A }:=
 ⟨h,H.arena t hn,rfl,t.k.mono (fun k _ hk=>.inr (.inl hk)),fun k hk=>.inl hk⟩
theorem WoodTo.same (H:WoodAt w h O) (k:Keeps (fun _=>False) w w'):WoodTo w h w' O:=
 ⟨h,H.keep k (fun _ _ h=>h),rfl,k.mono (fun _ _ h=>h.elim),fun k hk=>.inl hk⟩
theorem thingAt_no {A:Ar} {x:Int} (h:¬ (x%4=1∧(A.thing (x/4)).2.2=0)):A.thingAt x=(0,0,0,2):=if_neg h
theorem thingAt_yes {A:Ar} {x:Int} (h:x%4=1∧(A.thing (x/4)).2.2=0):A.thingAt x=(x/4,(A.thing (x/4)).1,(A.thing (x/4)).2.1,0):=if_pos h
theorem results_tmp4 {fn:Func} {t u v x:Tmp} (h:fn.results=#[.tmp t, .tmp u, .tmp v, .tmp x]) (tmps:Array Value) (P:Program) (w:World) :
  (results fn tmps).run P w=.ok (.tuple #[tmps.getD t undef,tmps.getD u undef,tmps.getD v undef,tmps.getD x undef]) w:=by
 simp [results,h]
theorem ret_four {a b c d:Int} {y:Int × Int × Int × Int} (h:y=(a,b,c,d)) :
  Ending.returned (.tuple #[.int .i64 a, .int .i64 b, .int .i64 c, .int .i64 d])=Ending.returned (.tuple #[.int .i64 y.1, .int .i64 y.2.1, .int .i64 y.2.2.1, .int .i64 y.2.2.2]):=by subst h;rfl
theorem thing_c (x:Int) (H:WoodAt w h O) :
  Calls Tryz.prog 116 #[.pointer (some ⟨h.p,0,none⟩), .int .i64 x] w fun e w'=>
   e=.returned (.tuple #[.int .i64 (O.ar.thingAt x).1, .int .i64 (O.ar.thingAt x).2.1, .int .i64 (O.ar.thingAt x).2.2.1, .int .i64 (O.ar.thingAt x).2.2.2])∧w=w':=by
 have HH:=Hz H
 obtain ⟨c0,-,-,-⟩:=H.ptrs
 have pl:=H.hp.lt
 have HA:=Hz H.ha
 clear H
 by_cases hx:x%4=1
 ·by_cases hc:(O.ar.thing (x/4)).2.2=0
  ·have HE:=Hz (thingAt_yes ⟨hx,hc⟩)
   obtain ⟨⟨k,n,c⟩,hT⟩:∃ t,O.ar.thing (x/4)=t:=⟨_,rfl⟩
   rw [hT] at hc HE
   dsimp only at hc HE
   subst hc
   have HT:=Hz hT;have HX:=Hz hx;clear hT hx
   go_enter Tryz.func116,Tryz.ntmps116
   go_wp2_with fail
   refine (At_yes x _ HX.out).mono ?_
   rintro e w1 ⟨rfl,rfl⟩
   go_wp2_with fail
   refine (Thing_c (x/4) _ HA.out).mono ?_
   rintro e w1 ⟨rfl,rfl⟩
   rw [HT.out]
   dsimp only
   go_wp2_with fail
   ((try simp only [Exit.inBlock,Exit.then]);refine bodyPost_ret (results_tmp4 rfl _ _ _) rfl ?_)
   exact ⟨ret_four HE.out,rfl⟩
  ·have HE:=Hz (thingAt_no (A:=O.ar) (x:=x) (fun h=>hc h.2))
   obtain ⟨⟨k,n,c⟩,hT⟩:∃ t,O.ar.thing (x/4)=t:=⟨_,rfl⟩
   rw [hT] at hc
   dsimp only at hc
   have hcb:(c != 0)=true:=by simpa using hc
   have HT:=Hz hT;have HX:=Hz hx;clear hT hx hc
   go_enter Tryz.func116,Tryz.ntmps116
   go_wp2_with fail
   refine (At_yes x _ HX.out).mono ?_
   rintro e w1 ⟨rfl,rfl⟩
   go_wp2_with fail
   refine (Thing_c (x/4) _ HA.out).mono ?_
   rintro e w1 ⟨rfl,rfl⟩
   rw [HT.out]
   dsimp only
   go_wp2_with fail
   ((try simp only [Exit.inBlock,Exit.then]);refine bodyPost_ret (results_tmp4 rfl _ _ _) rfl ?_)
   exact ⟨ret_four HE.out,rfl⟩
 ·have HE:=Hz (thingAt_no (A:=O.ar) (x:=x) (fun h=>hx h.1))
  have HX:=Hz hx;clear hx
  go_enter Tryz.func116,Tryz.ntmps116
  go_wp2_with fail
  refine (At_no x _ HX.out).mono ?_
  rintro e w1 ⟨rfl,rfl⟩
  go_wp2_with fail
  ((try simp only [Exit.inBlock,Exit.then]);refine bodyPost_ret (results_tmp4 rfl _ _ _) rfl ?_)
  exact ⟨ret_four HE.out,rfl⟩
theorem Kind_c (x:Int) (H:WoodAt w h O) :
  Calls Tryz.prog 50 #[.pointer (some ⟨h.p,0,none⟩), .int .i64 x] w fun e w'=>
   e=.returned (.tuple #[.int .i64 (O.ar.thingAt x).2.1, .int .i64 (O.ar.thingAt x).2.2.1, .int .i64 (O.ar.thingAt x).2.2.2])∧w=w':=by
 go_enter Tryz.func50,Tryz.ntmps50
 go_wp2_with fail
 refine (thing_c x H).mono ?_
 rintro e w1 ⟨rfl,rfl⟩
 go_wp2_with fail
 go_ret3
 exact ⟨rfl,rfl⟩
theorem get_kind {A:Ar} {x i:Int} (h:(A.thingAt x).2.2.2≠0∨(A.thingAt x).2.1=5):A.get x i=(0,2):=if_pos h
theorem get_range {A:Ar} {x i:Int} (h:¬ ((A.thingAt x).2.2.2≠0∨(A.thingAt x).2.1=5)) (h2:i<0∨(A.thingAt x).2.2.1≤i):A.get x i=(0,1):=by unfold Ar.get;rw [if_neg h,if_pos h2]
theorem get_ok {A:Ar} {x i:Int} (h:¬ ((A.thingAt x).2.2.2≠0∨(A.thingAt x).2.1=5)) (h2:¬ (i<0∨(A.thingAt x).2.2.1≤i)):A.get x i=(A.load (x/4+1+i),0):=by unfold Ar.get;rw [if_neg h,if_neg h2]
theorem thingAt_bounds (A:Ar) (x:Int):0≤(A.thingAt x).2.2.1∧(A.thingAt x).2.2.1≤12:=by
 unfold Ar.thingAt
 split
 ·exact A.thing_fields _
 ·decide
theorem thingAt_place {A:Ar} (hk:A.ok) {x:Int} (h:(A.thingAt x).2.2.2=0):x%4=1∧(A.thing (x/4)).2.2=0∧0≤x/4∧x/4<A.ws.length∧(A.thingAt x).1=x/4:=by
 by_cases hc:x%4=1∧(A.thing (x/4)).2.2=0
 ·have:=hk.use_lt (A.thing_use hc.2)
  refine ⟨hc.1,hc.2,this.1,this.2,?_⟩
  rw [thingAt_yes hc]
 ·rw [thingAt_no hc] at h;simp at h
theorem Get_c (x i:Int) (H:WoodAt w h O) :
  Calls Tryz.prog 48 #[.pointer (some ⟨h.p,0,none⟩), .int .i64 x, .int .i64 i] w fun e w'=>
   e=.returned (.tuple #[.int .i64 (O.ar.get x i).1, .int .i64 (O.ar.get x i).2])∧w=w':=by
 have HH:=Hz H
 obtain ⟨c0,-,-,-⟩:=H.ptrs
 have pl:=H.hp.lt
 have HA:=Hz H.ha
 have hb:=thingAt_bounds O.ar x
 have hpl:=fun e=>thingAt_place H.ok.ha (x:=x) e
 have h4:=H.ok.ha.h4
 have gk:=fun e=>get_kind (A:=O.ar) (x:=x) (i:=i) e
 have gr:=fun e1 e2=>get_range (A:=O.ar) (x:=x) (i:=i) e1 e2
 have go:=fun e1 e2=>get_ok (A:=O.ar) (x:=x) (i:=i) e1 e2
 have HTc:=Hz (thing_c x H)
 obtain ⟨⟨p,k,n,c⟩,hT⟩:∃ t,O.ar.thingAt x=t:=⟨_,rfl⟩
 rw [hT] at hb hpl gk gr go HTc
 dsimp only at hb hpl gk gr go HTc
 clear H hT
 by_cases hc:c=0
 ·obtain ⟨-,-,p0,p1,rfl⟩:=hpl hc
  subst hc
  by_cases hk:k=5
  ·have HG:=Hz (gk (.inr hk))
   subst hk
   clear gk gr go hpl
   go_enter Tryz.func48,Tryz.ntmps48
   go_wp2_with fail
   refine HTc.out.mono ?_
   rintro e w1 ⟨rfl,rfl⟩
   go_wp2_with fail
   go_ret2
   exact ⟨by rw [HG.out];rfl,rfl⟩
  ·have h1:¬ ((0:Int)≠0∨k=5):=fun h=>by rcases h with h | h;exact h rfl;exact hk h
   have hkb:(k == 5)=false:=by simpa using hk
   by_cases hi:i<0∨n≤i
   ·have HG:=Hz (gr h1 hi)
    clear gk gr go hpl h1 hk
    by_cases hi0:i<0
    ·have hd:decide (i<0)=true:=by simpa using hi0
     clear hi
     go_enter Tryz.func48,Tryz.ntmps48
     go_wp2_with fail
     refine HTc.out.mono ?_
     rintro e w1 ⟨rfl,rfl⟩
     go_wp2_with fail
     go_ret2
     exact ⟨by rw [HG.out];rfl,rfl⟩
    ·have hd:decide (i<0)=false:=by simpa using hi0
     have hd2:decide (n≤i)=true:=by simp;omega
     clear hi
     go_enter Tryz.func48,Tryz.ntmps48
     go_wp2_with fail
     refine HTc.out.mono ?_
     rintro e w1 ⟨rfl,rfl⟩
     go_wp2_with fail
     go_ret2
     exact ⟨by rw [HG.out];rfl,rfl⟩
   ·have HG:=Hz (go h1 hi)
    have hd:decide (i<0)=false:=by simp;omega
    have hd2:decide (n≤i)=false:=by simp;omega
    have hi0:0≤i:=by omega
    have hi1:i<n:=by omega
    clear gk gr go hpl h1 hk hi
    go_enter Tryz.func48,Tryz.ntmps48
    go_wp2_with fail
    refine HTc.out.mono ?_
    rintro e w1 ⟨rfl,rfl⟩
    go_wp2_with fail
    refine (Load_c (x/4+1+i) _ HA.out).mono ?_
    rintro e w1 ⟨rfl,rfl⟩
    go_wp2_with fail
    go_ret2
    exact ⟨by rw [HG.out];rfl,rfl⟩
 ·have HG:=Hz (gk (.inl hc))
  have hcb:(c != 0)=true:=by simpa using hc
  clear gk gr go hpl hc
  go_enter Tryz.func48,Tryz.ntmps48
  go_wp2_with fail
  refine HTc.out.mono ?_
  rintro e w1 ⟨rfl,rfl⟩
  go_wp2_with fail
  go_ret2
  exact ⟨by rw [HG.out];rfl,rfl⟩
end
end
end Go.Proofs.YtjifdalflepcoacGreat
