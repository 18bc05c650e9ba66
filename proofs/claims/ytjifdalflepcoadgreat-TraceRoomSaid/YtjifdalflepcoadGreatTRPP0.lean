/-
  Parts of the proof, merged: what the functions do, and plain laws.
-/
import Derived.BigQuiet
import Derived.Deep.DeepCutAuto
import Derived.Deep.MidRow
import Derived.Deep.QuietTactic
import Derived.Laws.CopyRow
import Derived.Lib.Hide
import Derived.Outline
import Derived.Test.YtjifdalflepcoadGreatProg
import Derived.WalkKit
import Derived.WalkLawsBesides
import Derived.WalkSpells
set_option maxHeartbeats 16000000
set_option maxRecDepth 100000
set_option linter.unusedVariables false
set_option linter.unusedSimpArgs false
namespace Go.Proofs.YtjifdalflepcoadGreat
section
open Go.RowKit
theorem Lz.{u} {α:Type u} {a:α} {l:List α}:(a::l)[0]?=some a:=List.getElem?_cons_zero
theorem aB.{u} {α:Type u} {a:α} {i:Nat} {l:List α}:(a::l)[i+1]?=l[i]?:=List.getElem?_cons_succ
theorem Ld.{u} {α:Type u} {l:List α} {i:Nat} {a:α}:l.getD i a=l[i]?.getD a:=List.getD_eq_getElem?_getD
theorem Le.{u} {α:Type u} {l:List α} {i:Nat} (h:i<l.length):l[i]?=some l[i]:=List.getElem?_eq_getElem h
def Hd (p:Prop):Prop:=p
theorem Hd.o {p:Prop} (h:Hd p):p:=h
theorem Hz {p:Prop} (h:p):Hd p:=h
theorem Za {n m k:Nat} (h:n<=m) (g:m<=k):n<=k:=Nat.le_trans h g
theorem Zb (n:Nat):n<=n:=Nat.le_refl n
theorem Zc (n:Nat):0<=n:=Nat.zero_le n
theorem Zd {n m k:Nat} (h:n<m) (g:m<=k):n<k:=Nat.lt_of_lt_of_le h g
theorem Ze.{u} {α:Type u} {l:List α} {n:Nat} (h:n<l.length):l[n]∈l:=List.getElem_mem h
theorem Zf.{u,v} {α:Type u} {β:Type v} {l:List α} {f g:α->β} (h:∀ a∈l,f a=g a):l.map f=l.map g:=List.map_congr_left h
theorem Zg {a:Int} (h:0<=a):∃ n:Nat,a=n:=Int.eq_ofNat_of_zero_le h
theorem Zh.{u} {α:Type u} {l:List α} {i:Nat} {a:α} (e:l[i]?=some a):a∈l:=List.mem_of_getElem? e
theorem Zi.{u,v} {α:Type u} {β:Type v} {b:β} {f:α->β} {l:List α}:b∈l.map f↔∃ a,a∈l/\f a=b:=List.mem_map
theorem Zj.{u} {α:Type u} {l:List α} {i:Nat} {a:α}:l[i]?=some a↔∃ h:i<l.length,l[i]=a:=List.getElem?_eq_some_iff
theorem Zk.{u} {α:Type u} {a:α} {s t:List α}:a∈s++t↔a∈s\/a∈t:=List.mem_append
theorem Zl.{u} {α:Type u} {a b:α}:a∈[b]↔a=b:=List.mem_singleton
theorem Zm.{u} {α:Type u} {b:α} {l:List α} {a:α}:a∈b::l↔a=b\/a∈l:=List.mem_cons
theorem Zn {a:Prop}:¬¬a↔a:=Classical.not_not
theorem Zo.{u} {α:Type u} {x:α} {p:α->Bool} {l:List α}:x∈l.filter p↔x∈l/\p x=true:=List.mem_filter
theorem Zp.{u,v} {α:Type u} {β:Type v} {l:List α} (f:α->β):(l.map f).length=l.length:=List.length_map f
theorem Zq.{u} {α:Type u} {l m:List α}:(l++m).length=l.length+m.length:=List.length_append
theorem Zr (a b:Bool):((a&&b)=true)=(a=true/\b=true):=Bool.and_eq_true a b
theorem Zs.{u,v} {α:Type u} {β:Type v} {f:α->β} {a:α} {l:List α}:(a::l).map f=f a::l.map f:=List.map_cons
theorem Zt (n:Nat):((n:Int)).toNat=n:=Int.toNat_natCast n
theorem Zu.{u} {α:Type u} {x a:α} {l:List α}:(x::l).set 0 a=a::l:=List.set_cons_zero
theorem Zv.{u} {α:Type u} {x a:α} {l:List α} {i:Nat}:(x::l).set (i+1) a=x::l.set i a:=List.set_cons_succ
theorem Zw.{u,v} {α:Type u} {β:Type v} {f:α->β} {l:List α} {i:Nat}:(l.map f)[i]?=l[i]?.map f:=List.getElem?_map
theorem Zx.{u} {α:Type u} {i:Nat} {l:List α}:(l.take i).length=min i l.length:=List.length_take
theorem int_eq {k:IntKind} {a b:Int} (h:a=b):Value.int k a=Value.int k b:=by rw [h]
theorem Cp {a b:Value} (h:a=b):Ending.returned a=Ending.returned b:=by rw [h]
theorem cS {k:IntKind} {a b:Int} (h:a=b):Ending.returned (.int k a)=Ending.returned (.int k b):=by rw [h]
theorem de {a b:Bool} (h:a=b):Ending.returned (.bool a)=Ending.returned (.bool b):=by rw [h]
def ak (w:World) (b:Nat) (c:List Value) (T:TypeId):Prop:=w.heap[b]? = some (.cells c.toArray T (0,0))
theorem ak.lt {w:World} {b:Nat} {c:List Value} {T:TypeId} (h:ak w b c T):b<w.heap.size:=lt_of_block h
theorem ak.cell {w:World} {b:Nat} {c:List Value} {T:TypeId} (h:ak w b c T) (i:Nat):w.cell? ⟨b,i,none⟩=c[i]? := by
 unfold ak at h;simp [World.cell?,h]
theorem ak.free {w:World} {b:Nat} {c:List Value} {T:TypeId} (h:ak w b c T) (i:Nat):w.frozen? ⟨b,i,none⟩=false:=by
 unfold ak at h;simp [World.frozen?,h]
theorem ak.ne {w:World} {a b:Nat} {c d:List Value} {T U:TypeId} (h:ak w a c T) (k:ak w b d U) (hTU:T≠U):a≠b:=by
 rintro rfl;unfold ak at h k;rw [h] at k;simp at k;exact hTU k.2
theorem ak.aE {w:World} {b:Nat} {c:List Value} {T:TypeId} (h:ak w b c T) (i:Nat) (v:Value):ak (w.setCell ⟨b,i,none⟩ v) b (c.set i v) T:=by
 unfold ak at *;simp [World.setCell,Array.getElem?_modify,h]
theorem ak.cj {w:World} {b:Nat} {c:List Value} {T:TypeId} (h:ak w b c T) {a:Addr} (hn:b≠a.block) (v:Value):ak (w.setCell a v) b c T:=by
 unfold ak at *;rw [Below.heap_setCell _ _ _ _ hn];exact h
theorem ak.alloc {w:World} {b:Nat} {c:List Value} {T:TypeId} (h:ak w b c T) (o:Obj):ak (w.alloc o) b c T:=by
 have:=h.lt;unfold ak at *;rw [Below.heap_alloc _ _ _ this];exact h
theorem ak.drew {w:World} {b:Nat} {c:List Value} {T:TypeId} (h:ak w b c T):ak w.drew b c T:=h
theorem ak.new (w:World) (c:List Value) (T:TypeId):ak (w.alloc (.cells c.toArray T)) w.heap.size c T:=by
 unfold ak
 show (w.heap.push _)[w.heap.size]? = _
 simp
theorem ak.newAt {w:World} {b:Nat} {c:List Value} {T:TypeId} (a:Array Value) (hb:b=w.heap.size) (hc:a.toList=c):ak (w.alloc (.cells a T)) b c T:=by
 subst hb;subst hc;simpa using ak.new w a.toList T
structure aa (S:Nat->Prop) (w w':World):Prop where
 os:w'.os=w.os
 tape:w'.tape=w.tape
 output:w'.output=w.output
 size:w.heap.size<=w'.heap.size
 block:∀ k,k<w.heap.size->¬ S k->w'.heap[k]? = w.heap[k]?
theorem aa.refl (S:Nat->Prop) (w:World):aa S w w:=⟨rfl,rfl,rfl,Zb _,λ_ _ _=>rfl⟩
theorem Kz (w:World):aa (λ_=>False) w w:=aa.refl _ w
theorem aa.trans {S:Nat->Prop} {a b c:World} (h:aa S a b) (k:aa S b c):aa S a c:=
 ⟨k.os.trans h.os,k.tape.trans h.tape,k.output.trans h.output,Za h.size k.size,
  λi hi hn=>(k.block i (Zd hi h.size) hn).trans (h.block i hi hn)⟩
theorem aa.mono {S T:Nat->Prop} {w w':World} (h:aa S w w') (hST:∀ k,k<w.heap.size->S k->T k):aa T w w':=
 ⟨h.os,h.tape,h.output,h.size,λi hi hn=>h.block i hi (λhs=>hn (hST i hi hs))⟩
theorem aa.au {S:Nat->Prop} {w w':World} (h:aa S w w') {b:Nat} {c:List Value} {T:TypeId} (k:ak w b c T) (hn:¬ S b):ak w' b c T:=by
 have:=h.block b k.lt hn;unfold ak at *;rw [this];exact k
theorem aa.drew {S:Nat->Prop} {w w':World} (h:aa S w w'):aa S w w'.drew:=⟨h.os,h.tape,h.output,h.size,h.block⟩
theorem aa.alloc {S:Nat->Prop} {w w':World} (h:aa S w w') (o:Obj):aa S w (w'.alloc o):=
 h.trans ⟨rfl,rfl,rfl,by simp,λk hk _=>Below.heap_alloc _ _ _ hk⟩
theorem aa.setCell {S:Nat->Prop} {w w':World} (h:aa S w w') {p:Addr} (hp:S p.block\/w.heap.size<=p.block) (u:Value):aa S w (w'.setCell p u):=by
 refine ⟨h.os,h.tape,h.output,by simpa using h.size,λk hk hn=>?_⟩;rw [Below.heap_setCell _ _ _ _ (by rintro rfl;rcases hp with hp | hp;exact hn hp;omega)];exact h.block k hk hn
theorem aa.below {S:Nat->Prop} {w w':World} (h:aa S w w') (hS:∀ k,k<w.heap.size->¬ S k):Below w.heap.size w w':=
 ⟨h.os,h.tape,h.output,h.size,λk hk=>h.block k hk (hS k hk)⟩
theorem aa.from {S:Nat->Prop} {w₀ w w':World} (h₀:aa S w₀ w) (h:aa (λk=>S k\/w₀.heap.size<=k) w w'):aa S w₀ w':=
 ⟨h.os.trans h₀.os,h.tape.trans h₀.tape,h.output.trans h₀.output,Za h₀.size h.size,
  λi hi hn=>(h.block i (Zd hi h₀.size) (by rintro (hs | hs);exact hn hs;omega)).trans (h₀.block i hi hn)⟩
theorem aa.then {S T:Nat->Prop} {w₀ w w':World} (h₀:aa S w₀ w) (h:aa T w w') (hT:∀ k,T k->S k\/w₀.heap.size<=k):aa S w₀ w':=
 h₀.from (h.mono λk _ hk=>hT k hk)
end
section
open Go.RowKit
theorem ak.setRow {w:World} {b:Nat} {c:List Value} {T:TypeId} (h:ak w b c T) (d:List Value):ak (w.setRow b d.toArray) b d T:=
 setRow_heap w b _ _ T _ h
theorem kD (w:World) (g k:Nat) (cs:Array Value) (h:k≠g):(w.setRow g cs).heap[k]? = w.heap[k]? := by
 unfold World.setRow;simp only [Array.getElem?_modify];rw [if_neg (λe=>h e.symm)]
theorem size_setRow (w:World) (g:Nat) (cs:Array Value):(w.setRow g cs).heap.size=w.heap.size:=by simp [World.setRow]
theorem ak.mn {w:World} {b:Nat} {c:List Value} {T:TypeId} (h:ak w b c T) {g:Nat} (hn:b≠g) (cs:Array Value):ak (w.setRow g cs) b c T:=by
 unfold ak at *;rw [kD _ _ _ _ hn];exact h
theorem aa.setRow {S:Nat->Prop} {w w':World} (h:aa S w w') {g:Nat} (hp:S g\/w.heap.size<=g) (cs:Array Value):aa S w (w'.setRow g cs):=by
 refine ⟨h.os,h.tape,h.output,by rw [size_setRow];exact h.size,λk hk hn=>?_⟩;rw [kD _ _ _ _ (by rintro rfl;rcases hp with hp | hp;exact hn hp;omega)];exact h.block k hk hn
theorem tr (z:Value) (hz:z.cells=#[z]) (n:Nat):madeCells z.cells n=(List.replicate n z).toArray:=by
 rw [hz];apply Array.ext
 ·simp [size_madeCells]
 ·intro i h1 h2;simp [madeCells,Nat.mod_one]
theorem ts (z:Value) (hz:z.cells=#[z]) (n:Nat):Builtin.zeroCells z.cells n=(List.replicate n z).toArray:=by
 rw [hz];apply Array.ext
 ·simp [Builtin.zeroCells]
 ·intro i h1 h2;simp [Builtin.zeroCells,Nat.mod_one]
theorem dV {P:Program} (w:World) (t e:TypeId) (i:TypeInfo) (z:Value) (ht:P.underlying t=some (.slice e)) (hi:P.info? e=some i) (hz:i.zero=some z) (hc:z.cells=#[z]) (hs:i.size=1)
  (n:Nat) (hbytes:i.bytes*n<=281474976710656) (h63:n<=9223372036854775807) :
  (Instr.makeSlice t (.int .i64 n) (.int .i64 n)).run P w=.ok (.slice (some ⟨w.heap.size,0,none⟩) n n) (w.alloc (.cells (List.replicate n z).toArray e)):=by
 have hb':(i.bytes:Int)*(n:Int)<=281474976710656:=by
  have h:((i.bytes*n:Nat):Int)<=281474976710656:=by omega
  rwa [Int.natCast_mul] at h
 rw [run_make (P:=P) w t e i z ht hi hz .i64 .i64 n n (by omega) (Int.le_refl _) hb' (by omega)];simp only [Zt,hs,Nat.mul_one];rw [tr z hc]
theorem tt {P:Program} (w:World) (t ty e:TypeId) (z:Value) (ht:P.underlying t=some (.slice e)) (hz:∀ w,(zeroValue e).run P w=.ok z w) (hc:z.cells=#[z]) (h1:z.oneCell'=true)
  (g n cap:Nat) (c:List Value) (hg:ak w g c e) (hn:c.length=n) :
  (Builtin.clear_ #[t] ty #[.slice (some ⟨g,0,none⟩) n cap]).run P w=.ok (.tuple #[]) (w.setRow g (List.replicate n z).toArray):=by
 subst hn;cases c with
 | nil=>
  have:w.setRow g (List.replicate 0 z).toArray=w:=by
   have:=setRow_self w g _ e (0,0) hg;simpa using this
  simp only [List.length_nil];rw [this];simp [Builtin.clear_,run_underlying ht]
 | cons a l=>
  have hst:=run_storeCells_at P g 0 e (List.replicate (l.length+1) z) 0 (a :: l).toArray w hg (by simp) (by intro v hv;rw [(List.mem_replicate.1 hv).2];exact h1);simp only [Nat.add_zero,List.take_zero,List.nil_append,Nat.zero_add,List.length_replicate] at hst;simp only [List.length_cons];have hd:List.drop (l.length+1) (a :: l)=[]:=by simp
  simp only [List.toList_toArray,hd,List.append_nil] at hst;simp [Builtin.clear_,run_underlying ht,hz,ts z hc,hst]
def Rd (w:World) (ao:Option Addr) (xs:List Value):Prop:=
 xs≠[]->∃ g o,ao=some ⟨g,o,none⟩/\g<w.heap.size/\∀ j,j<xs.length->w.cell? ⟨g,o+j,none⟩=xs[j]?
theorem Rd.nil (w:World) (ao:Option Addr):Rd w ao []:=λh=>(h rfl).elim
theorem Rd.ab {w w':World} {ao:Option Addr} {xs:List Value} {S:Nat->Prop} (h:Rd w ao xs) (k:aa S w w') (hn:∀ a,ao=some a->a.block<w.heap.size->¬ S a.block):Rd w' ao xs:=by
 intro hx;obtain ⟨g,o,rfl,hg,hc⟩:=h hx;refine ⟨g,o,rfl,Zd hg k.size,λj hj=>?_⟩;rw [<-hc j hj];exact World.cell?_of_block (w:=w) (a:=⟨g,o+j,none⟩) (k.block g hg (hn _ rfl hg))
theorem Rd.au {w:World} {g:Nat} {c:List Value} {T:TypeId} (h:ak w g c T) (o:Nat) (xs:List Value) (hx:(c.drop o).take xs.length=xs):Rd w (some ⟨g,o,none⟩) xs:=by
 intro _;refine ⟨g,o,rfl,h.lt,λj hj=>?_⟩;rw [h.cell];have:((c.drop o).take xs.length)[j]? = xs[j]? := by rw [hx]
 rw [<-this,List.getElem?_take,if_pos hj,List.getElem?_drop]
theorem Rd.int {w:World} {ao:Option Addr} {k:IntKind} {l:List Int} (h:Rd w ao (l.map (Value.int k))) (i:Nat) (hi:i<l.length) :
  ∃ g o,ao=some ⟨g,o,none⟩/\w.cell? ⟨g,o+i,none⟩=some (.int k (l.getD i 0)):=by
 obtain ⟨g,o,rfl,_,hc⟩:=h (by intro e;simp at e;subst e;simp at hi);refine ⟨g,o,rfl,?_⟩;rw [hc i (by simpa using hi)];simp [List.getD,hi]
def aq (v:Value) (k:Nat):Prop:=v.ownBlock=some k
def Sl (w:World) (e size:Nat) (v:Value) (n:Nat) (xs:List Value):Prop:=
 xs.length=n*size/\((v=.slice none 0 0/\n=0) \/
  ∃ g o cap cur,v=.slice (some ⟨g,o,none⟩) n cap/\ak w g cur e/\n<=cap/\cap<=maxLen/\o+cap*size<=cur.length/\(cur.drop o).take (n*size)=xs)
theorem Sl.nil (w:World) (e size:Nat):Sl w e size (.slice none 0 0) 0 []:=⟨by simp, .inl ⟨rfl,rfl⟩⟩
theorem Sl.own {w:World} {e size:Nat} {v:Value} {n:Nat} {xs:List Value} (h:Sl w e size v n xs) {k:Nat} (hk:aq v k):k<w.heap.size/\∃ cur,ak w k cur e:=by
 obtain ⟨_,⟨rfl,_⟩ | ⟨g,o,cap,cur,rfl,hb,_⟩⟩:=h
 ·simp [aq,Value.ownBlock] at hk
 ·simp [aq,Value.ownBlock] at hk;subst hk;exact ⟨hb.lt,_,hb⟩
theorem Sl.ab {w w':World} {e size:Nat} {v:Value} {n:Nat} {xs:List Value} {S:Nat->Prop} (h:Sl w e size v n xs) (k:aa S w w') (hn:∀ g,aq v g->¬ S g):Sl w' e size v n xs:=by
 refine ⟨h.1,?_⟩;rcases h.2 with h | ⟨g,o,cap,cur,rfl,hb,r⟩
 ·exact .inl h
 ·exact .inr ⟨g,o,cap,cur,rfl,k.au hb (hn g rfl),r⟩
theorem Sl.rd {w:World} {e size:Nat} {v:Value} {n:Nat} {xs:List Value} (h:Sl w e size v n xs):∃ ao cap,v=.slice ao n cap/\Rd w ao xs/\n<=maxLen/\n<=cap:=by
 obtain ⟨hl,⟨rfl,rfl⟩ | ⟨g,o,cap,cur,rfl,hb,h1,h2,h3,h4⟩⟩:=h
 ·refine ⟨none,0,rfl,?_,Zc _,Zb _⟩;have:xs=[]:=by simpa using hl
  subst this;exact Rd.nil _ _
 ·exact ⟨_,cap,rfl,Rd.au hb o xs (by rw [hl];exact h4),Za h1 h2,h1⟩
theorem Sl.len {w:World} {e size:Nat} {v:Value} {n:Nat} {xs:List Value} (h:Sl w e size v n xs):xs.length=n*size:=h.1
theorem fw (g o j:Nat):(⟨g,o,none⟩:Addr).add j=⟨g,o+j,none⟩:=by unfold Addr.add;split <;> simp_all
theorem rP {P:Program} (w:World) (t ty e:TypeId) (i:TypeInfo) (z:Value) (size bytes:Nat) (ht:P.underlying t=some (.slice e)) (hi:P.info? e=some i) (hz:i.zero=some z)
  (hsize:i.size=size) (hby:i.bytes=bytes) (hzs:z.cells.size=size) (hsz:0<size)
  (v:Value) (n:Nat) (xs:List Value) (hs:Sl w e size v n xs)
  (a:Addr) (m c:Nat) (news:List Value) (hl:news.length=m*size) (hnews:∀ j u,news[j]? = some u->w.cell? (a.add j)=some u) (h1:∀ u ∈ news,u.oneCell'=true)
  (h63:n+m<=maxLen) (hbytes:(n+m)*bytes<=140737488355328) :
  ∃ v' w',(Builtin.append_ #[t,t] ty #[v, .slice (some a) m c]).run P w=.ok v' w'/\Sl w' e size v' (n+m) (xs ++ news)/\aa (aq v) w w'/\(∀ k,aq v' k->aq v k\/w.heap.size<=k):=by
 subst hsize;subst hby
 obtain ⟨hxl,hv⟩:=hs;have hlen:(xs ++ news).length=(n+m)*i.size:=by rw [Zq,hxl,hl,Nat.add_mul]
 have h63':n+m<=9223372036854775807:=by simpa [maxLen] using h63
 have grown:∀ (aK:Nat) (S:Nat->Prop),
   Sl (w.drew.alloc (.cells (xs.toArray ++ news.toArray ++ Builtin.zeroCells z.cells (grownCap w (n+m) aK e-(n+m))) e)) e i.size (.slice (some ⟨w.heap.size,0,none⟩) (n+m) (grownCap w (n+m) aK e)) (n+m) (xs ++ news) /\
   aa S w (w.drew.alloc (.cells (xs.toArray ++ news.toArray ++ Builtin.zeroCells z.cells (grownCap w (n+m) aK e-(n+m))) e)):=by
  intro aK S;have hge:=grownCap_ge w (n+m) aK e;have hcm:grownCap w (n+m) aK e<=maxLen:=grownCap_le_maxLen w (n+m) aK e h63;refine ⟨⟨hlen, .inr ⟨w.heap.size,0,_,_,rfl,ak.newAt _ rfl rfl,hge,hcm,?_,?_⟩⟩,((aa.refl _ _).drew).alloc _⟩
  ·simp only [Array.length_toList,Array.size_append,List.size_toArray,size_zeroCells,hzs,hxl,hl,<-Nat.add_mul,Nat.zero_add];apply Nat.mul_le_mul_right;omega
  ·simp only [Array.toList_append,List.append_assoc,List.drop_zero];rw [<-List.append_assoc,<-hlen];exact List.take_left
 rcases hv with ⟨rfl,rfl⟩ | ⟨g,o,cap,cur,rfl,hb,hnc,hcm,hoc,hx⟩
 ·have hx:xs=[]:=List.eq_nil_of_length_eq_zero (by simpa using hxl);subst hx;by_cases hm:m=0
  ·subst hm;have hn:news=[]:=List.eq_nil_of_length_eq_zero (by simpa using hl);subst hn;refine ⟨.slice none 0 0,w,?_,Sl.nil _ _ _,aa.refl _ _,λk hk=>.inl hk⟩;simp [Builtin.append_,run_underlying ht,sizeOf,typeInfo,hi,Builtin.lenOf,Builtin.firstCells,loadCells,loadCellsFrom]
  ·have hr:=run_append_nil (P:=P) w t ty e i z ht hi hz a m c news hl hnews (by omega) (by omega) (by have hb:=hbytes;simp only [Nat.zero_add] at hb;omega);have hgr:=grown 0 (aq (.slice none 0 0));simp only [Nat.zero_add,List.nil_append,Array.empty_append] at hgr ⊢;refine ⟨_,_,hr,hgr.1,hgr.2,λk hk=>.inr ?_⟩;simp [aq,Value.ownBlock] at hk;omega
 ·by_cases hr:n+m<=cap
  ·have hf:=run_firstCells_some (P:=P) w i.size m a m c news hl hnews;have hfit:o+n*i.size+news.length<=cur.length:=by
    have:(n+m)*i.size<=cap*i.size:=Nat.mul_le_mul_right _ hr;rw [Nat.add_mul] at this;omega
   have hst:=run_storeCells_at P g (o+n*i.size) e news 0 cur.toArray w hb (by simpa using hfit) h1;simp only [Nat.add_zero] at hst;refine ⟨.slice (some ⟨g,o,none⟩) (n+m) cap,w.setRow g (cur.take (o+n*i.size) ++ news ++ cur.drop (o+n*i.size+news.length)).toArray,?_,?_,?_,?_⟩
   ·simp [Builtin.append_,run_underlying ht,sizeOf,typeInfo,hi,Builtin.lenOf,hr,hf,fw,hst]
   ·refine ⟨hlen, .inr ⟨g,o,cap,_,rfl,ak.setRow hb _,hr,hcm,?_,?_⟩⟩
    ·simp;omega
    ·have h1:(cur.take (o+n*i.size) ++ news ++ cur.drop (o+n*i.size+news.length)).drop o=(cur.drop o).take (n*i.size) ++ news ++ cur.drop (o+n*i.size+news.length):=by
      rw [List.append_assoc,List.drop_append_of_le_length (by simp;omega),List.drop_take,<-List.append_assoc];congr 3;omega
     rw [h1,hx,<-hlen,List.take_append_of_le_length (by simp),List.take_length]
   ·exact (aa.refl (aq (.slice (some ⟨g,o,none⟩) n cap)) w).setRow (g:=g) (.inl rfl) _
   ·intro k hk;exact .inl hk
  ·have holds:∀ j u,xs[j]? = some u->w.cell? ((⟨g,o,none⟩:Addr).add j)=some u:=by
    intro j u hu;have:=(Zj.1 hu).1;rw [fw,hb.cell,<-hu,<-hx,List.getElem?_take,List.getElem?_drop,if_pos (by omega)]
   have hr:=run_append_grow (P:=P) w t ty e i z ht hi hz ⟨g,o,none⟩ n cap xs hxl holds a m c news hl hnews (by omega) (by omega) (growslice_fits (by omega) hbytes);have hgr:=grown cap (aq (.slice (some ⟨g,o,none⟩) n cap));refine ⟨_,_,hr,hgr.1,hgr.2,λk hk=>.inr ?_⟩;simp [aq,Value.ownBlock] at hk;omega
theorem cE {P:Program} {w:World} {ops:Array Oper} {rest:List Oper} {o:Oper} {a:Act} {Q:Exit->Act->World->Prop} (hgd:o.guard=none) (s x:Operand) (t:TypeId)
  (ho:o.op=.call { callee:=.builtin .append,args:=#[s,x],argTypes:=#[t,t] })
  (e:TypeId) (i:TypeInfo) (z:Value) (size bytes:Nat) (ht:P.underlying t=some (.slice e)) (hi:P.info? e=some i) (hz:i.zero=some z)
  (hsize:i.size=size) (hby:i.bytes=bytes) (hzs:z.cells.size=size) (hsz:0<size)
  (v:Value) (n:Nat) (xs:List Value) (hs:a.eval s=v) (hown:Sl w e size v n xs)
  (ad:Addr) (m c:Nat) (news:List Value) (hx:a.eval x=.slice (some ad) m c) (hl:news.length=m*size) (hnews:∀ j u,news[j]? = some u->w.cell? (ad.add j)=some u) (h1:∀ u ∈ news,u.oneCell'=true)
  (h63:n+m<=maxLen) (hbytes:(n+m)*bytes<=140737488355328)
  (h:∀ v' w',Sl w' e size v' (n+m) (xs ++ news)->aa (aq v) w w'->(∀ k,aq v' k->aq v k\/w.heap.size<=k)->wpList P ops Q rest (a.put o.dst v') w'):wpList P ops Q (o :: rest) a w:=by
 refine wpList_plain hgd λ_ hK=>?_;obtain ⟨v',w',hr,h2,h3,h4⟩:=rP (P:=P) w t o.type e i z size bytes ht hi hz hsize hby hzs hsz v n xs hown ad m c news hl hnews h1 h63 hbytes;unfold Oper.wp execOp;simp only [ho,resolve,invoke,builtin,Sem.run_bind,Sem.run_pure,Result.andThen_ok,List.map_toArray,Zs,List.map_nil,hs,hx,hr];exact hK _ _ (h v' w' h2 h3 h4)
theorem bV (w:World) (T:TypeId) (a:Array Value):∀ (j:Nat) (u:Value),a.toList[j]? = some u->(w.alloc (.cells a T)).cell? ((⟨w.heap.size,0,none⟩:Addr).add j)=some u:=by
 intro j u h;rw [fw,(ak.newAt (w:=w) (T:=T) a rfl rfl).cell,Nat.zero_add];exact h
theorem tG {P:Program} (w:World) (t ty e:TypeId) (i:TypeInfo) (size:Nat) (ht:P.underlying t=some (.slice e)) (hi:P.info? e=some i) (hsize:i.size=size)
  (g o n cap:Nat) (cur:List Value) (hb:ak w g cur e) (a:Addr) (m c:Nat) (news:List Value) (hl:news.length=m*size) (hnews:∀ j u,news[j]? = some u->w.cell? (a.add j)=some u) (h1:∀ u ∈ news,u.oneCell'=true)
  (hr:n+m<=cap) (hoc:o+cap*size<=cur.length) :
  (Builtin.append_ #[t,t] ty #[.slice (some ⟨g,o,none⟩) n cap, .slice (some a) m c]).run P w=.ok (.slice (some ⟨g,o,none⟩) (n+m) cap) (w.setRow g (cur.take (o+n*size) ++ news ++ cur.drop (o+n*size+news.length)).toArray):=by
 subst hsize;have hf:=run_firstCells_some (P:=P) w i.size m a m c news hl hnews;have hfit:o+n*i.size+news.length<=cur.length:=by
  have:(n+m)*i.size<=cap*i.size:=Nat.mul_le_mul_right _ hr;rw [Nat.add_mul] at this;omega
 have hst:=run_storeCells_at P g (o+n*i.size) e news 0 cur.toArray w hb (by simpa using hfit) h1;simp only [Nat.add_zero] at hst;simp [Builtin.append_,run_underlying ht,sizeOf,typeInfo,hi,Builtin.lenOf,hr,hf,fw,hst]
theorem lr {P:Program} (w:World) (t ty e:TypeId) (z:Value) (ht:P.underlying t=some (.slice e)) (hz:∀ w,(zeroValue e).run P w=.ok z w) (h1:∀ u ∈ z.cells,u.oneCell'=true) (hpos:0<z.cells.size)
  (g o n cap:Nat) (cur:List Value) (hb:ak w g cur e) (hfit:o+n*z.cells.size<=cur.length) :
  ∃ zs:List Value,zs.length=n*z.cells.size/\(Builtin.clear_ #[t] ty #[.slice (some ⟨g,o,none⟩) n cap]).run P w=.ok (.tuple #[]) (w.setRow g (cur.take o ++ zs ++ cur.drop (o+zs.length)).toArray):=by
 refine ⟨(Builtin.zeroCells z.cells n).toList,by simp [size_zeroCells],?_⟩;cases n with
 | zero=>
  have hz0:(Builtin.zeroCells z.cells 0).toList=[]:=by simp [Builtin.zeroCells]
  have:w.setRow g (cur.take o ++ [] ++ cur.drop (o+0)).toArray=w:=by
   have:=setRow_self w g _ e (0,0) hb;simpa using this
  rw [hz0];simp only [List.length_nil];rw [this];simp [Builtin.clear_,run_underlying ht]
 | succ n=>
  have hlen:(Builtin.zeroCells z.cells (n+1)).toList.length=(n+1)*z.cells.size:=by simp [size_zeroCells]
  have hst:=run_storeCells_at P g o e (Builtin.zeroCells z.cells (n+1)).toList 0 cur.toArray w hb (by simp only [Nat.add_zero,hlen,List.size_toArray];exact hfit) (by
   intro v hv;simp only [Builtin.zeroCells,Array.toList_map,List.mem_map] at hv;obtain ⟨i,_,rfl⟩:=hv;apply h1;have hm:i%z.cells.size<z.cells.size:=Nat.mod_lt _ hpos;rw [getElem!_pos z.cells _ hm]
   exact Array.getElem_mem hm)
  simp only [Nat.add_zero] at hst;simp [Builtin.clear_,run_underlying ht,hz,hst]
end
section
open Go.RowKit
section
variable {P:Program} {ops:Array Oper} {md:Region.Mode} {G:World->Prop}
def gUpon (P:Program) (o:Oper) (a:Act) (K:Act->World->Prop):Result Next->Prop
 | .ok (.value v) w'=>K (a.put o.dst v) w'
 | .ok .skip w'=>K (a.put o.dst undef) w'
 | .ok (.enter f args) w'=>Calls P f args w' fun
   | .returned v,w''=>K (a.put o.dst v) w''
   | _,_=>False
 | _=>False
def ax (P:Program) (o:Oper) (a:Act) (w:World) (K:Act->World->Prop):Prop:=gUpon P o a K ((execOp a.eval o).run P w)
def gOp (P:Program) (ops:Array Oper) (i:Nat) (K:Act->World->Prop) (a:Act) (w:World):Prop:=
 match ops[i]? with
 | none=>K a w
 | some o=>if Region.wanted o (yielded ops a.tmps)=true then ax P o a w K else K (a.put o.dst undef) w
theorem xQ {o:Oper} {a:Act} {w:World} {K K':Act->World->Prop} (h:∀ a w,K a w->K' a w) (hh:ax P o a w K):ax P o a w K':=by
 unfold ax at *;generalize (execOp a.eval o).run P w=r at *;cases r with
 | ok n w'=>
  cases n <;> simp only [gUpon] at hh ⊢
  case value u=>exact h _ _ hh
  case skip=>exact h _ _ hh
  case enter f args=>exact hh.mono λe w'' hq=>by cases e <;> first | exact h _ _ hq | exact hq
 | halt x w'=>exact hh
theorem eP {i:Nat} {a:Act} {w:World} {K K':Act->World->Prop} (h:∀ a w,K a w->K' a w) (hh:gOp P ops i K a w):gOp P ops i K' a w:=by
 unfold gOp at *;split
 ·rename_i ho;simp only [ho] at hh;exact h _ _ hh
 ·rename_i o ho;simp only [ho] at hh;split
  ·rename_i hw;rw [if_pos hw] at hh;exact xQ h hh
  ·rename_i hw;rw [if_neg hw] at hh;exact h _ _ hh
theorem pD {i:Nat} {a:Act} {w:World} {K:Act->World->Prop} {Q':Exit->Act->World->Prop} (hh:gOp P ops i K a w):wpOp P ops Q' i K a w:=by
 unfold gOp at hh;unfold wpOp;split
 ·rename_i ho;simp only [ho] at hh;exact hh
 ·rename_i o ho;simp only [ho] at hh;split
  ·rename_i hw;rw [if_pos hw] at hh;left;unfold ax at hh;unfold Oper.wp;generalize (execOp a.eval o).run P w=r at *;cases r with
   | ok n w'=>
    cases n <;> simp only [gUpon] at hh <;> simp only [Oper.upon]
    case value u=>exact hh
    case skip=>exact hh
    case enter f args=>exact hh.mono λe w'' hq=>by cases e <;> first | exact hq | exact hq.elim
   | halt x w'=>exact hh.elim
  ·rename_i hw;rw [if_neg hw] at hh;exact hh
def waitsT (md:Region.Mode) (ops:Array Oper):Nat->Nat->Nat->Bool
 | 0,_,_=>false
 | n+1,j,i=>match ops[j]? with
  | none=>false
  | some o=>o.after.any λe=>Region.binds md e && (e.on == i || waitsT md ops n e.on i)
def jD (md:Region.Mode) (ops:Array Oper) (listed:Array Bool):Prop:=
 ∀ (j:Nat) (o:Oper),ops[j]? = some o->listed.getD j false=true->∀ e ∈ o.after,Region.binds md e=true->listed.getD e.on false=true
theorem jD.waits {listed:Array Bool} (h:jD md ops listed):∀ (n j i:Nat),(∃ o,ops[j]? = some o/\∀ e ∈ o.after,Region.binds md e=true->listed.getD e.on false=true)->waitsT md ops n j i=true->listed.getD i false=true
 | 0,_,_,_,hw=>by simp [waitsT] at hw
 | n+1,j,i,⟨o,ho,hall⟩,hw=>by
  simp only [waitsT,ho,Array.any_eq_true] at hw;obtain ⟨k,hk,hb⟩:=hw;simp only [Zr,Bool.or_eq_true,beq_iff_eq] at hb;have he:=hall _ (Array.getElem_mem hk) hb.1;rcases hb.2 with e | e
  ·rw [<-e];exact he
  ·refine h.waits n _ i ?_ e;cases hx:ops[(o.after[k]).on]? with
   | none=>exfalso;cases n <;> simp [waitsT,hx] at e
   | some ox=>exact ⟨ox,rfl,h _ ox hx he⟩
theorem jD.next {listed:Array Bool} (h:jD md ops listed) {i:Nat} (hi:i ∈ Region.ready md ops listed):jD md ops (listed.setIfInBounds i true):=by
 intro j o ho hl e he hb;by_cases hji:j=i
 ·subst hji;obtain ⟨_,o',ho',hall⟩:=mem_ready.1 hi;rw [ho] at ho';cases ho';exact getD_set_true (hall e he hb)
 ·rw [getD_set_ne false (Ne.symm hji)] at hl;exact getD_set_true (h j o ho hl e he hb)
def om (P:Program) (md:Region.Mode) (ops:Array Oper) (z:List Nat) (G:World->Prop) (Q:Act->World->Prop):Nat->Array Bool->Act->World->Prop
 | 0,listed,a,w=>Region.ready md ops listed=[]/\Q a w
 | f+1,listed,a,w=>
  (Region.ready md ops listed=[]->Q a w) /\
  ∀ i ∈ Region.ready md ops listed,gOp P ops i (λa' w'=>(z.contains i=false->G w')/\om P md ops z G Q f (listed.setIfInBounds i true) a' w') a w
theorem qF {z:List Nat} {Q:Act->World->Prop} {Q':Exit->Act->World->Prop} (hQ:∀ a w,Q a w->Q' .normal a w):∀ (f:Nat) (listed:Array Bool) (a:Act) (w:World),
  om P md ops z G Q f listed a w->wpAny P md ops Q' f listed a w
 | 0,_,_,_,h=>⟨h.1,hQ _ _ h.2⟩
 | f+1,_,_,_,h=>⟨λh0=>hQ _ _ (h.1 h0),λi hi=>pD (eP (λa w ⟨_,hk⟩=>qF hQ f _ a w hk) (h.2 i hi))⟩
def bA (v:Value) (w:World) (r:Result Next):Prop:=r=.ok (.value v) w
theorem bA.mk (v:Value) (w:World):bA v w (.ok (.value v) w):=rfl
def ft (P:Program) (ops:Array Oper) (G:World->Prop) (o:Oper) (v:Value) (a:Act):Prop:=
 (Region.wanted o (yielded ops a.tmps)=true/\∀ w,G w->bA v w ((execOp a.eval o).run P w))\/(Region.wanted o (yielded ops a.tmps)=false/\v=undef)
theorem ft.gOp {i:Nat} {o:Oper} {v:Value} {a:Act} {w:World} (hi:ops[i]? = some o) (hy:ft P ops G o v a) (hw:G w) {K:Act->World->Prop} (h:K (a.put o.dst v) w):gOp P ops i K a w:=by
 unfold Go.Proofs.YtjifdalflepcoadGreat.gOp;simp only [hi];rcases hy with ⟨hwt,hv⟩ | ⟨hwt,rfl⟩
 ·rw [if_pos hwt];unfold ax;rw [show (execOp a.eval o).run P w=_ from hv w hw];exact h
 ·rw [if_neg (by simp [hwt])];exact h
theorem vN {j:Nat} {oi oj:Oper} {v:Value} (hj:ops[j]? = some oj) (hap:oi.apart ops oj=true)
  (hsi:∀ cs b,oi.op≠.select cs b) (hsj:∀ cs b,oj.op≠.select cs b) {K:Act->World->Prop} {a:Act} {w:World}
  (hy:ft P ops G oi v a) (h:gOp P ops j K (a.put oi.dst v) w) :
  gOp P ops j (λa' w'=>ft P ops G oi v a'/\K (a'.put oi.dst v) w') a w:=by
 obtain ⟨h1,h2,h3⟩:=Oper.apart_spec hap;have ab:∀ u,ft P ops G oi v (a.put oj.dst u):=λu=>by
  unfold ft at *;rw [execOp_put oi hsi a oj.dst u h3,wanted_put oi a oj.dst u h3];exact hy
 have com:∀ u,(a.put oi.dst v).put oj.dst u=(a.put oj.dst u).put oi.dst v:=λu=>Act.put_comm a v u h2;unfold gOp at *;simp only [hj] at *;rw [wanted_put oj a oi.dst v h1] at h;split
 ·rename_i hw;rw [if_pos hw] at h;unfold ax at *;rw [execOp_put oj hsj a oi.dst v h1] at h;generalize (execOp a.eval oj).run P w=r at *;cases r with
  | ok n w'=>
   cases n <;> simp only [gUpon] at h ⊢
   case value u=>exact ⟨ab u,by rw [<-com];exact h⟩
   case skip=>exact ⟨ab undef,by rw [<-com];exact h⟩
   case enter f args=>
    refine h.mono λe w'' hq=>?_;cases e with
    | returned u=>exact ⟨ab u,by rw [<-com];exact hq⟩
    | panicked _=>exact hq
    | outgrown=>exact hq
  | halt x w'=>exact h
 ·rename_i hw;rw [if_neg hw] at h;exact ⟨ab undef,by rw [<-com];exact h⟩
theorem tH {z:List Nat} {Q:Act->World->Prop} {i:Nat} {oi:Oper} {v:Value} (hi:ops[i]? = some oi) (hsel:∀ (j:Nat) (o:Oper) cs b,ops[j]? = some o->o.op≠.select cs b)
  (hz:∀ j,z.contains j=true->waitsT md ops ops.size j i=true) :
  ∀ (fuel:Nat) (listed:Array Bool) (a:Act) (w:World),G w->jD md ops listed ->
   (∀ j oj,ops[j]? = some oj->j≠i->listed.getD j true=false->(∀ e ∈ oj.after,Region.binds md e=true->e.on≠i)->oi.apart ops oj=true) ->
   i ∈ Region.ready md ops listed->ft P ops G oi v a ->
   om P md ops z G Q fuel (listed.setIfInBounds i true) (a.put oi.dst v) w->om P md ops z G Q (fuel+1) listed a w:=by
 intro fuel
 induction fuel with
 | zero=>
  intro listed a w hG hS _ hr hy H;refine ⟨λh=>(by rw [h] at hr;cases hr),λj hj=>?_⟩;by_cases hji:j=i
  ·subst hji;exact hy.gOp hi hG ⟨λ_=>hG,H⟩
  ·have:=ready_mono hj hji;rw [H.1] at this;cases this
 | succ fuel ih=>
  intro listed a w hG hS hfree hr hy H;refine ⟨λh=>(by rw [h] at hr;cases hr),λj hj=>?_⟩;by_cases hji:j=i
  ·subst hji;exact hy.gOp hi hG ⟨λ_=>hG,H⟩
  ·have h1:=H.2 j (ready_mono hj hji);obtain ⟨hjun,oj,hoj,hall⟩:=mem_ready.1 hj;have hin:listed.getD i false=false:=by
    have h0:=(mem_ready.1 hr).1;rcases Nat.lt_or_ge i listed.size with h' | h'
    ·simp [h'] at h0 ⊢;exact h0
    ·simp [Array.getElem?_eq_none h'] at h0
   have hjz:z.contains j=false:=by
    cases hc:z.contains j
    ·rfl
    ·have:=hS.waits _ j i ⟨oj,hoj,hall⟩ (hz j hc);rw [hin] at this;cases this
   have hnot:∀ e ∈ oj.after,Region.binds md e=true->e.on≠i:=λe he hb heq=>by
    have h1:=hall e he hb;rw [heq,hin] at h1;cases h1
   have h2:=vN hoj (hfree j oj hoj hji hjun hnot) (λcs b=>hsel i oi cs b hi) (λcs b=>hsel j oj cs b hoj) hy h1;have hfree':∀ k ok,ops[k]? = some ok->k≠i->(listed.setIfInBounds j true).getD k true=false ->
     (∀ e ∈ ok.after,Region.binds md e=true->e.on≠i)->oi.apart ops ok=true:=λk ok hk hki hun hno=>by
    refine hfree k ok hk hki ?_ hno;by_cases hjk:j=k
    ·subst hjk;exact hjun
    ·rw [getD_set_ne true hjk] at hun;exact hun
   refine eP (λa' w' ⟨hy',hG',h3⟩=>?_) h2;refine ⟨λ_=>hG' hjz,ih (listed.setIfInBounds j true) a' w' (hG' hjz) (hS.next hj) hfree' (ready_mono hr (Ne.symm hji)) hy' ?_⟩;rw [Array.setIfInBounds_comm _ _ hji];exact h3
def tI (ord:List (Nat × Nat)):List Nat:=(ord.filter λp=>p.2 == 2).map (·.1)
def ordB (md:Region.Mode) (ops:Array Oper) (z:List Nat):List (Nat × Nat)->Array Bool->Bool
 | [],listed=>(Region.ready md ops listed).isEmpty
 | (i,k) :: r,listed=>
  (if k=0 then (Region.ready md ops listed).contains i && Region.free md ops listed i && z.all λj=>waitsT md ops ops.size j i
  else Region.ready md ops listed == [i] && (k == 1 || z.contains i && r.all λp=>p.2 != 0)) && ordB md ops z r (listed.setIfInBounds i true)
def js (P:Program) (ops:Array Oper) (z:List Nat) (G:World->Prop) (Q:Act->World->Prop):List (Nat × Nat)->Act->World->Prop
 | [],a,w=>Q a w
 | (i,0) :: r,a,w=>∃ o v,ops[i]? = some o/\ft P ops G o v a/\js P ops z G Q r (a.put o.dst v) w
 | (i,k+1) :: r,a,w=>gOp P ops i (λa' w'=>(k=0->G w')/\js P ops z G Q r a' w') a w
theorem kG {z:List Nat} {Q:Act->World->Prop} (hs:Region.noSelect ops=true):∀ (ord:List (Nat × Nat)) (listed:Array Bool) (a:Act) (w:World),jD md ops listed->(G w\/∀ p ∈ ord,p.2≠0) ->
  ordB md ops z ord listed=true->js P ops z G Q ord a w->om P md ops z G Q ord.length listed a w
 | [],_,_,_,_,_,hB,h=>⟨by simpa [ordB] using hB,h⟩
 | (i,0) :: r,listed,a,w,hS,hG,hB,h=>by
  have hG:G w:=by
   rcases hG with h | h
   ·exact h
   ·exact absurd rfl (h (i,0) (by simp))
  simp only [ordB,if_true,Zr] at hB;obtain ⟨⟨⟨hr,hf⟩,hz⟩,hB'⟩:=hB;obtain ⟨o,v,ho,hy,hn⟩:=h;have hr':i ∈ Region.ready md ops listed:=by simpa using hr
  refine tH ho (Region.noSelect_spec hs) (λj hj=>?_) r.length listed a w hG hS (Region.free_spec ho hf) hr' hy ?_
  ·have:=List.all_eq_true.1 hz j (by simpa using hj);exact this
  ·exact kG hs r _ _ w (hS.next hr') (.inl hG) hB' hn
 | (i,k+1) :: r,listed,a,w,hS,hG,hB,h=>by
  have h0:¬ (k+1=0):=by omega
  simp only [ordB,if_neg h0,Zr] at hB;obtain ⟨⟨hr,hk⟩,hB'⟩:=hB;have hr1:Region.ready md ops listed=[i]:=by simpa using hr
  have hin:i ∈ Region.ready md ops listed:=by rw [hr1];simp
  refine ⟨(λh0=>by rw [hr1] at h0;cases h0),λj hj=>?_⟩;rw [hr1] at hj;obtain rfl:j=i:=by simpa using hj
  refine eP (λa' w' ⟨hG',hn⟩=>?_) h;by_cases hk0:k=0
  ·exact ⟨λ_=>hG' hk0,kG hs r _ a' w' (hS.next hin) (.inl (hG' hk0)) hB' hn⟩
  ·have hk1:(k+1 == 1)=false:=by simpa using hk0
   simp only [hk1,Bool.false_or,Zr] at hk;refine ⟨(λhz=>by rw [hk.1] at hz;cases hz),kG hs r _ a' w' (hS.next hin) (.inr λp hp=>?_) hB' hn⟩;have:=List.all_eq_true.1 hk.2 p hp;simpa using this
theorem cy {id:Nat} {Q:Exit->Act->World->Prop} {a:Act} {w:World} {l:List Oper} (ord:List (Nat × Nat)) (G:World->Prop) (hm:P.follows .mixedOrders=true)
  (hB:(Region.noSelect l.toArray && ord.length == l.toArray.size && ordB .any l.toArray (tI ord) ord (Array.replicate l.toArray.size false))=true) (hG:G w.drew)
  (h:js P l.toArray (tI ord) G (λa' w'=>Q .normal a' w') ord a w.drew):(Code.region id l.toArray true).wp P Q a w:=by
 simp only [Zr,beq_iff_eq] at hB;obtain ⟨⟨hs,hl⟩,hB⟩:=hB;refine wp_region_any hm ?_;have hshut:jD .any l.toArray (Array.replicate l.toArray.size false):=by
  intro j o ho hx;have h0:(Array.replicate l.toArray.size false).getD j false=false:=by
   rw [Array.getD_eq_getD_getElem?,Array.getElem?_replicate];split <;> rfl
  rw [h0] at hx;cases hx
 have:=kG (z:=tI ord) (md:=.any) hs ord _ a w.drew hshut (.inl hG) hB h;rw [hl] at this;exact qF (λ_ _ h=>h) _ _ _ _ this
theorem bp {z:List Nat} {Q:Act->World->Prop} {i:Nat} {r:List (Nat × Nat)} {a:Act} {w:World} {o:Oper} (ho:ops[i]? = some o) (hw:Region.wanted o (yielded ops a.tmps)=true) (v:Value)
  (h:∀ w',G w'->bA v w' ((execOp a.eval o).run P w')) (hn:∀ K:Act->Prop,(∀ a',js P ops z G Q r a' w->K a')->K (a.put o.dst v)):js P ops z G Q ((i,0) :: r) a w:=
 ⟨o,v,ho, .inl ⟨hw,h⟩,hn _ (λ_ h=>h)⟩
theorem bB {z:List Nat} {Q:Act->World->Prop} {i:Nat} {r:List (Nat × Nat)} {a:Act} {w:World} {o:Oper} (ho:ops[i]? = some o) (hw:Region.wanted o (yielded ops a.tmps)=true)
  (h:∀ K:Act->World->Prop,(∀ a' w',G w'->js P ops z G Q r a' w'->K a' w')->ax P o a w K):js P ops z G Q ((i,1) :: r) a w:=by
 show gOp P ops i _ a w
 unfold gOp;simp only [ho,hw,if_true];exact h _ (λa' w' hg hk=>⟨λ_=>hg,hk⟩)
theorem kH {z:List Nat} {Q:Act->World->Prop} {i:Nat} {r:List (Nat × Nat)} {a:Act} {w:World} {o:Oper} (ho:ops[i]? = some o) (hw:Region.wanted o (yielded ops a.tmps)=true)
  (h:∀ K:Act->World->Prop,(∀ a' w',js P ops z G Q r a' w'->K a' w')->ax P o a w K):js P ops z G Q ((i,2) :: r) a w:=by
 show gOp P ops i _ a w
 unfold gOp;simp only [ho,hw,if_true];exact h _ (λa' w' hk=>⟨(λh=>by cases h),hk⟩)
theorem dE {z:List Nat} {Q:Act->World->Prop} {a:Act} {w:World} (h:Q a w):js P ops z G Q [] a w:=h
theorem dN {w:World} {o:Oper} {a:Act} {K:Act->World->Prop} (s x:Operand) (t:TypeId)
  (ho:o.op=.call { callee:=.builtin .append,args:=#[s,x],argTypes:=#[t,t] })
  (e:TypeId) (i:TypeInfo) (z:Value) (size bytes:Nat) (ht:P.underlying t=some (.slice e)) (hi:P.info? e=some i) (hz:i.zero=some z)
  (hsize:i.size=size) (hby:i.bytes=bytes) (hzs:z.cells.size=size) (hsz:0<size)
  (v:Value) (n:Nat) (xs:List Value) (hs:a.eval s=v) (hown:Sl w e size v n xs)
  (ad:Addr) (m c:Nat) (news:List Value) (hx:a.eval x=.slice (some ad) m c) (hl:news.length=m*size) (hnews:∀ j u,news[j]? = some u->w.cell? (ad.add j)=some u) (h1:∀ u ∈ news,u.oneCell'=true)
  (h63:n+m<=maxLen) (hbytes:(n+m)*bytes<=140737488355328)
  (h:∀ v' w',Sl w' e size v' (n+m) (xs ++ news)->aa (aq v) w w'->(∀ k,aq v' k->aq v k\/w.heap.size<=k)->K (a.put o.dst v') w'):ax P o a w K:=by
 obtain ⟨v',w',hr,h2,h3,h4⟩:=rP (P:=P) w t o.type e i z size bytes ht hi hz hsize hby hzs hsz v n xs hown ad m c news hl hnews h1 h63 hbytes;unfold ax execOp;simp only [ho,resolve,invoke,builtin,Sem.run_bind,Sem.run_pure,Result.andThen_ok,List.map_toArray,Zs,List.map_nil,hs,hx,hr];exact h v' w' h2 h3 h4
theorem nY {w:World} {o:Oper} {a:Act} {K:Act->World->Prop} (s x:Operand) (t:TypeId)
  (ho:o.op=.call { callee:=.builtin .append,args:=#[s,x],argTypes:=#[t,t] })
  (e:TypeId) (i:TypeInfo) (size:Nat) (ht:P.underlying t=some (.slice e)) (hi:P.info? e=some i) (hsize:i.size=size)
  (g off n cap:Nat) (cur:List Value) (hs:a.eval s=.slice (some ⟨g,off,none⟩) n cap) (hb:ak w g cur e)
  (ad:Addr) (m c:Nat) (news:List Value) (hx:a.eval x=.slice (some ad) m c) (hl:news.length=m*size) (hnews:∀ j u,news[j]? = some u->w.cell? (ad.add j)=some u) (h1:∀ u ∈ news,u.oneCell'=true)
  (hr:n+m<=cap) (hoc:off+cap*size<=cur.length)
  (h:K (a.put o.dst (.slice (some ⟨g,off,none⟩) (n+m) cap)) (w.setRow g (cur.take (off+n*size) ++ news ++ cur.drop (off+n*size+news.length)).toArray)):ax P o a w K:=by
 have hr:=tG (P:=P) w t o.type e i size ht hi hsize g off n cap cur hb ad m c news hl hnews h1 hr hoc;unfold ax execOp;simp only [ho,resolve,invoke,builtin,Sem.run_bind,Sem.run_pure,Result.andThen_ok,List.map_toArray,Zs,List.map_nil,hs,hx,hr];exact h
end
end
section
open Go.RowKit
inductive RO where
 | fin
 | pure (i:Nat) (r:RO)
 | free (i:Nat) (r:RO)
 | base (i:Nat) (r:RO)
 | run (i:Nat) (r:RO)
 | two (i:Nat) (r:RO) (j:Nat) (s:RO)
 | swi (z:List Nat) (r:RO)
def ftq:List Nat->RO->RO
 | [],t=>t
 | k::l,t=>.free k (ftq l t)
def ptq:List Nat->RO->RO
 | [],t=>t
 | k::l,t=>.pure k (ptq l t)
namespace RO
def size:RO->Nat
 | fin=>0
 | pure _ r=>r.size+1
 | free _ r=>r.size+1
 | base _ r=>r.size+1
 | run _ r=>r.size+1
 | two _ r _ _=>r.size+1
 | swi _ r=>r.size
def gK:RO->Bool
 | fin=>true
 | pure _ _=>false
 | free _ r=>r.gK
 | base _ r=>r.gK
 | run _ r=>r.gK
 | two _ r _ s=>r.gK && s.gK
 | swi _ _=>true
end RO
section
variable {P:Program} {ops:Array Oper} {md:Region.Mode}
def roB (md:Region.Mode) (ops:Array Oper):RO->List Nat->Array Bool->Bool
 | .fin,_,listed=>(Region.ready md ops listed).isEmpty
 | .pure i r,z,listed=>(Region.ready md ops listed).contains i && Region.free md ops listed i && (z.all λj=>waitsT md ops ops.size j i) && roB md ops r z (listed.setIfInBounds i true)
 | .free i r,z,listed=>(Region.ready md ops listed).contains i && Region.free md ops listed i && roB md ops r z (listed.setIfInBounds i true)
 | .base i r,z,listed=>(Region.ready md ops listed).contains i && Region.free md ops listed i && roB md ops r z (listed.setIfInBounds i true)
 | .run i r,z,listed=>Region.ready md ops listed == [i] && (!z.contains i || r.gK) && roB md ops r z (listed.setIfInBounds i true)
 | .two i r j s,z,listed=>Region.ready md ops listed == [i,j] && (!z.contains i || r.gK) && (!z.contains j || s.gK) && r.size == s.size && roB md ops r z (listed.setIfInBounds i true) && roB md ops s z (listed.setIfInBounds j true)
 | .swi z' r,z,listed=>((List.range ops.size).all λk=>listed.getD k true || z.contains k) && roB md ops r z' listed
def gA (P:Program) (ops:Array Oper) (B:World->Prop) (Q:Act->World->Prop):RO->List Nat->(World->Prop)->Act->World->Prop
 | .fin,_,_,a,w=>Q a w
 | .pure i r,z,G,a,w=>∃ o v,ops[i]? = some o/\ft P ops G o v a/\gA P ops B Q r z G (a.put o.dst v) w
 | .free i r,z,G,a,w=>∃ o v,ops[i]? = some o/\ft P ops (λ_=>True) o v a/\gA P ops B Q r z G (a.put o.dst v) w
 | .base i r,z,G,a,w=>∃ o v,ops[i]? = some o/\ft P ops B o v a/\gA P ops B Q r z G (a.put o.dst v) w
 | .run i r,z,G,a,w=>gOp P ops i (λa' w'=>(B w->B w')/\(z.contains i=false->G w->G w')/\gA P ops B Q r z G a' w') a w
 | .two i r j s,z,G,a,w=>gOp P ops i (λa' w'=>(B w->B w')/\(z.contains i=false->G w->G w')/\gA P ops B Q r z G a' w') a w/\gOp P ops j (λa' w'=>(B w->B w')/\(z.contains j=false->G w->G w')/\gA P ops B Q s z G a' w') a w
 | .swi z' r,_,_,a,w=>∃ G':World->Prop,G' w/\gA P ops B Q r z' G' a w
def wpAnyH (P:Program) (md:Region.Mode) (ops:Array Oper) (B:World->Prop) (z:List Nat) (G:World->Prop) (Q:Act->World->Prop):Nat->Array Bool->Act->World->Prop
 | 0,listed,a,w=>Region.ready md ops listed=[]/\Q a w
 | f+1,listed,a,w=>
  (Region.ready md ops listed=[]->Q a w) /\
  ∀ i ∈ Region.ready md ops listed,gOp P ops i (λa' w'=>(B w->B w')/\(z.contains i=false->G w->G w')/\wpAnyH P md ops B z G Q f (listed.setIfInBounds i true) a' w') a w
variable {B:World->Prop}
theorem mR {z:List Nat} {G:World->Prop} {Q:Act->World->Prop} {Q':Exit->Act->World->Prop} (hQ:∀ a w,Q a w->Q' .normal a w):∀ (f:Nat) (listed:Array Bool) (a:Act) (w:World),
  wpAnyH P md ops B z G Q f listed a w->wpAny P md ops Q' f listed a w
 | 0,_,_,_,h=>⟨h.1,hQ _ _ h.2⟩
 | f+1,_,_,_,h=>⟨λh0=>hQ _ _ (h.1 h0),λi hi=>pD (eP (λa w ⟨_,_,hk⟩=>mR hQ f _ a w hk) (h.2 i hi))⟩
theorem y8 {listed:Array Bool} {i:Nat} (hi:i ∈ Region.ready md ops listed):i<ops.size/\listed.getD i true=false:=by
 obtain ⟨hun,oi,hoi,_⟩:=mem_ready.1 hi;refine ⟨?_,hun⟩;rcases Nat.lt_or_ge i ops.size with h | h
 ·exact h
 ·rw [Array.getElem?_eq_none h] at hoi;cases hoi
theorem qG {z z':List Nat} {G G':World->Prop} {Q:Act->World->Prop}:∀ (fuel:Nat) (listed:Array Bool) (a:Act) (w:World),
  (∀ k,k<ops.size->listed.getD k true=false->z.contains k=true)->wpAnyH P md ops B z' G' Q fuel listed a w->wpAnyH P md ops B z G Q fuel listed a w
 | 0,_,_,_,_,h=>h
 | f+1,listed,a,w,hz,h=>⟨h.1,λi hi=>eP (λa' w' ⟨hb,_,hk⟩=>by
   obtain ⟨hil,hun⟩:=y8 hi;refine ⟨hb,λhc=>?_,qG f _ a' w' (λk hk hl=>?_) hk⟩
   ·have:=hz i hil hun;rw [hc] at this;cases this
   ·by_cases hki:i=k
    ·subst hki;exact hz i hil hun
    ·rw [getD_set_ne true hki] at hl;exact hz k hk hl) (h.2 i hi)⟩
theorem wpAnyH_first {G Gy:World->Prop} {z:List Nat} {Q:Act->World->Prop} {i:Nat} {oi:Oper} {v:Value} (hi:ops[i]? = some oi) (hsel:∀ (j:Nat) (o:Oper) cs b,ops[j]? = some o->o.op≠.select cs b)
  (hz:(Gy=G/\∀ j,z.contains j=true->waitsT md ops ops.size j i=true)\/Gy=B\/∀ w,Gy w) :
  ∀ (fuel:Nat) (listed:Array Bool) (a:Act) (w:World),Gy w->jD md ops listed ->
   (∀ j oj,ops[j]? = some oj->j≠i->listed.getD j true=false->(∀ e ∈ oj.after,Region.binds md e=true->e.on≠i)->oi.apart ops oj=true) ->
   i ∈ Region.ready md ops listed->ft P ops Gy oi v a ->
   wpAnyH P md ops B z G Q fuel (listed.setIfInBounds i true) (a.put oi.dst v) w->wpAnyH P md ops B z G Q (fuel+1) listed a w:=by
 intro fuel
 induction fuel with
 | zero=>
  intro listed a w hG hS _ hr hy H;refine ⟨λh=>(by rw [h] at hr;cases hr),λj hj=>?_⟩;by_cases hji:j=i
  ·subst hji;exact hy.gOp hi hG ⟨λh=>h,λ_ h=>h,H⟩
  ·have:=ready_mono hj hji;rw [H.1] at this;cases this
 | succ fuel ih=>
  intro listed a w hG hS hfree hr hy H;refine ⟨λh=>(by rw [h] at hr;cases hr),λj hj=>?_⟩;by_cases hji:j=i
  ·subst hji;exact hy.gOp hi hG ⟨λh=>h,λ_ h=>h,H⟩
  ·have h1:=H.2 j (ready_mono hj hji);obtain ⟨hjun,oj,hoj,hall⟩:=mem_ready.1 hj;have hin:listed.getD i false=false:=by
    have h0:=(mem_ready.1 hr).1;rcases Nat.lt_or_ge i listed.size with h' | h'
    ·simp [h'] at h0 ⊢;exact h0
    ·simp [Array.getElem?_eq_none h'] at h0
   have hnot:∀ e ∈ oj.after,Region.binds md e=true->e.on≠i:=λe he hb heq=>by
    have h1:=hall e he hb;rw [heq,hin] at h1;cases h1
   have h2:=vN hoj (hfree j oj hoj hji hjun hnot) (λcs b=>hsel i oi cs b hi) (λcs b=>hsel j oj cs b hoj) hy h1;have hfree':∀ k ok,ops[k]? = some ok->k≠i->(listed.setIfInBounds j true).getD k true=false ->
     (∀ e ∈ ok.after,Region.binds md e=true->e.on≠i)->oi.apart ops ok=true:=λk ok hk hki hun hno=>by
    refine hfree k ok hk hki ?_ hno;by_cases hjk:j=k
    ·subst hjk;exact hjun
    ·rw [getD_set_ne true hjk] at hun;exact hun
   refine eP (λa' w' ⟨hy',hB',hG',h3⟩=>?_) h2;refine ⟨hB',hG',ih (listed.setIfInBounds j true) a' w' ?_ (hS.next hj) hfree' (ready_mono hr (Ne.symm hji)) hy' ?_⟩
   ·rcases hz with ⟨rfl,hzz⟩ | rfl | h2
    ·refine hG' ?_ hG;cases hc:z.contains j
     ·rfl
     ·have:=hS.waits _ j i ⟨oj,hoj,hall⟩ (hzz j hc);rw [hin] at this;cases this
    ·exact hB' hG
    ·exact h2 w'
   ·rw [Array.setIfInBounds_comm _ _ hji];exact h3
theorem eI {Q:Act->World->Prop} (hs:Region.noSelect ops=true):∀ (t:RO) (z:List Nat) (G:World->Prop) (listed:Array Bool) (a:Act) (w:World),jD md ops listed->B w->(G w\/t.gK=true) ->
  roB md ops t z listed=true->gA P ops B Q t z G a w->wpAnyH P md ops B z G Q t.size listed a w
 | .fin,_,_,_,_,_,_,_,_,hB,h=>⟨by simpa [roB] using hB,h⟩
 | .pure i r,z,G,listed,a,w,hS,hb,hG,hB,h=>by
  have hG:G w:=by
   rcases hG with h | h
   ·exact h
   ·simp [RO.gK] at h
  simp only [roB,Zr] at hB;obtain ⟨⟨⟨hr,hf⟩,hz⟩,hB'⟩:=hB;obtain ⟨o,v,ho,hy,hn⟩:=h;have hr':i ∈ Region.ready md ops listed:=by simpa using hr
  refine wpAnyH_first ho (Region.noSelect_spec hs) (.inl ⟨rfl,λj hj=>?_⟩) r.size listed a w hG hS (Region.free_spec ho hf) hr' hy ?_
  ·exact List.all_eq_true.1 hz j (by simpa using hj)
  ·exact eI hs r z G _ _ w (hS.next hr') hb (.inl hG) hB' hn
 | .free i r,z,G,listed,a,w,hS,hb,hG,hB,h=>by
  simp only [roB,Zr] at hB;obtain ⟨⟨hr,hf⟩,hB'⟩:=hB;obtain ⟨o,v,ho,hy,hn⟩:=h;have hr':i ∈ Region.ready md ops listed:=by simpa using hr
  refine wpAnyH_first ho (Region.noSelect_spec hs) (.inr (.inr λ_=>trivial)) r.size listed a w trivial hS (Region.free_spec ho hf) hr' hy ?_;exact eI hs r z G _ _ w (hS.next hr') hb hG hB' hn
 | .base i r,z,G,listed,a,w,hS,hb,hG,hB,h=>by
  simp only [roB,Zr] at hB;obtain ⟨⟨hr,hf⟩,hB'⟩:=hB;obtain ⟨o,v,ho,hy,hn⟩:=h;have hr':i ∈ Region.ready md ops listed:=by simpa using hr
  refine wpAnyH_first ho (Region.noSelect_spec hs) (.inr (.inl rfl)) r.size listed a w hb hS (Region.free_spec ho hf) hr' hy ?_;exact eI hs r z G _ _ w (hS.next hr') hb hG hB' hn
 | .run i r,z,G,listed,a,w,hS,hb,hG,hB,h=>by
  simp only [roB,Zr] at hB;obtain ⟨⟨hr,hk⟩,hB'⟩:=hB;have hr1:Region.ready md ops listed=[i]:=by simpa using hr
  have hin:i ∈ Region.ready md ops listed:=by rw [hr1];simp
  refine ⟨(λh0=>by rw [hr1] at h0;cases h0),λj hj=>?_⟩;rw [hr1] at hj;obtain rfl:j=i:=by simpa using hj
  refine eP (λa' w' ⟨hb',hG',hn⟩=>⟨hb',hG',eI hs r z G _ a' w' (hS.next hin) (hb' hb) ?_ hB' hn⟩) h;cases hc:z.contains j
  ·rcases hG with hG | hG
   ·exact .inl (hG' hc hG)
   ·exact .inr hG
  ·rw [hc] at hk;exact .inr (by simpa using hk)
 | .two i r k s,z,G,listed,a,w,hS,hb,hG,hB,h=>by
  simp only [roB,Zr,beq_iff_eq] at hB;obtain ⟨⟨⟨⟨⟨hr,hki⟩,hkk⟩,hsz⟩,sw⟩,vO⟩:=hB;have hr1:Region.ready md ops listed=[i,k]:=by simpa using hr
  refine ⟨(λh0=>by rw [hr1] at h0;cases h0),λj hj=>?_⟩;have hin:j ∈ Region.ready md ops listed:=hj;rw [hr1] at hj;have hj:j=i\/j=k:=by simpa using hj
  rcases hj with rfl | rfl
  ·refine eP (λa' w' ⟨hb',hG',hn⟩=>⟨hb',hG',eI hs r z G _ a' w' (hS.next hin) (hb' hb) ?_ sw hn⟩) h.1;cases hc:z.contains j
   ·rcases hG with hG | hG
    ·exact .inl (hG' hc hG)
    ·simp only [RO.gK,Zr] at hG;exact .inr hG.1
   ·rw [hc] at hki;exact .inr (by simpa using hki)
  ·show gOp P ops j (λa' w'=>(B w->B w')/\(z.contains j=false->G w->G w')/\wpAnyH P md ops B z G Q r.size (listed.setIfInBounds j true) a' w') a w
   rw [hsz];refine eP (λa' w' ⟨hb',hG',hn⟩=>⟨hb',hG',eI hs s z G _ a' w' (hS.next hin) (hb' hb) ?_ vO hn⟩) h.2;cases hc:z.contains j
   ·rcases hG with hG | hG
    ·exact .inl (hG' hc hG)
    ·simp only [RO.gK,Zr] at hG;exact .inr hG.2
   ·rw [hc] at hkk;exact .inr (by simpa using hkk)
 | .swi z' r,z,G,listed,a,w,hS,hb,hG,hB,h=>by
  simp only [roB,Zr] at hB;obtain ⟨hz,hB'⟩:=hB;obtain ⟨G',hG',hn⟩:=h;refine qG _ listed a w (λk hk hl=>?_) (eI hs r z' G' listed a w hS hb (.inl hG') hB' hn);have:=List.all_eq_true.1 hz k (List.mem_range.2 hk);rw [hl] at this;simpa using this
structure cF (P:Program) (ops:Array Oper) (B:World->Prop) (Q:Act->World->Prop) (t:RO) (z:List Nat) (G:World->Prop) (a:Act) (w:World):Prop where
 raw:gA P ops B Q t z G a w
abbrev jE (P:Program) (ops:Array Oper) (Q:Act->World->Prop) (t:RO) (z:List Nat) (G:World->Prop) (a:Act) (w:World):Prop:=cF P ops (λ_=>True) Q t z G a w
theorem nZ {id:Nat} {Q:Exit->Act->World->Prop} {a:Act} {w:World} {l:List Oper} (t:RO) (z:List Nat) (B G:World->Prop) (hm:P.follows .mixedOrders=true)
  (hB:(Region.noSelect l.toArray && t.size == l.toArray.size && roB .any l.toArray t z (Array.replicate l.toArray.size false))=true) (hb:B w.drew) (hG:G w.drew)
  (h:cF P l.toArray B (λa' w'=>Q .normal a' w') t z G a w.drew):(Code.region id l.toArray true).wp P Q a w:=by
 simp only [Zr,beq_iff_eq] at hB;obtain ⟨⟨hs,hl⟩,hB⟩:=hB;refine wp_region_any hm ?_;have hshut:jD .any l.toArray (Array.replicate l.toArray.size false):=by
  intro j o ho hx;have h0:(Array.replicate l.toArray.size false).getD j false=false:=by
   rw [Array.getD_eq_getD_getElem?,Array.getElem?_replicate];split <;> rfl
  rw [h0] at hx;cases hx
 have:=eI (md:=.any) hs t z G _ a w.drew hshut hb (.inl hG) hB h.raw;rw [hl] at this;exact mR (λ_ _ h=>h) _ _ _ _ this
theorem oo {id:Nat} {Q:Exit->Act->World->Prop} {a:Act} {w:World} {l:List Oper} (t:RO) (z:List Nat) (G:World->Prop) (hm:P.follows .mixedOrders=true)
  (hB:(Region.noSelect l.toArray && t.size == l.toArray.size && roB .any l.toArray t z (Array.replicate l.toArray.size false))=true) (hG:G w.drew)
  (h:jE P l.toArray (λa' w'=>Q .normal a' w') t z G a w.drew):(Code.region id l.toArray true).wp P Q a w:=nZ t z _ G hm hB trivial hG h
section
variable {z:List Nat} {G:World->Prop} {Q:Act->World->Prop} {i:Nat} {r:RO} {a:Act} {w:World} {o:Oper}
theorem j9 (ho:ops[i]? = some o) (hw:Region.wanted o (yielded ops a.tmps)=true) (v:Value)
  (h:∀ w',G w'->bA v w' ((execOp a.eval o).run P w')) (hn:∀ K:Act->Prop,(∀ a',cF P ops B Q r z G a' w->K a')->K (a.put o.dst v)):cF P ops B Q (.pure i r) z G a w:=
 ⟨⟨o,v,ho, .inl ⟨hw,h⟩,hn (λa'=>gA P ops B Q r z G a' w) (λ_ h=>h.raw)⟩⟩
theorem sx (ho:ops[i]? = some o) (hw:Region.wanted o (yielded ops a.tmps)=true) (v:Value)
  (h:∀ w',B w'->bA v w' ((execOp a.eval o).run P w')) (hn:∀ K:Act->Prop,(∀ a',cF P ops B Q r z G a' w->K a')->K (a.put o.dst v)):cF P ops B Q (.base i r) z G a w:=
 ⟨⟨o,v,ho, .inl ⟨hw,h⟩,hn (λa'=>gA P ops B Q r z G a' w) (λ_ h=>h.raw)⟩⟩
theorem hY (ho:ops[i]? = some o) (hw:Region.wanted o (yielded ops a.tmps)=true) (v:Value)
  (h:∀ w',bA v w' ((execOp a.eval o).run P w')) (hn:∀ K:Act->Prop,(∀ a',cF P ops B Q r z G a' w->K a')->K (a.put o.dst v)):cF P ops B Q (.free i r) z G a w:=
 ⟨⟨o,v,ho, .inl ⟨hw,λw' _=>h w'⟩,hn (λa'=>gA P ops B Q r z G a' w) (λ_ h=>h.raw)⟩⟩
theorem lT (ho:ops[i]? = some o) (hw:Region.wanted o (yielded ops a.tmps)=false)
  (hn:∀ K:Act->Prop,(∀ a',cF P ops B Q r z G a' w->K a')->K (a.put o.dst undef)):cF P ops B Q (.pure i r) z G a w:=
 ⟨⟨o,undef,ho, .inr ⟨hw,rfl⟩,hn (λa'=>gA P ops B Q r z G a' w) (λ_ h=>h.raw)⟩⟩
theorem wR (ho:ops[i]? = some o) (hw:Region.wanted o (yielded ops a.tmps)=false)
  (hn:∀ K:Act->Prop,(∀ a',cF P ops B Q r z G a' w->K a')->K (a.put o.dst undef)):cF P ops B Q (.base i r) z G a w:=
 ⟨⟨o,undef,ho, .inr ⟨hw,rfl⟩,hn (λa'=>gA P ops B Q r z G a' w) (λ_ h=>h.raw)⟩⟩
theorem kI (ho:ops[i]? = some o) (hw:Region.wanted o (yielded ops a.tmps)=false)
  (hn:∀ K:Act->Prop,(∀ a',cF P ops B Q r z G a' w->K a')->K (a.put o.dst undef)):cF P ops B Q (.free i r) z G a w:=
 ⟨⟨o,undef,ho, .inr ⟨hw,rfl⟩,hn (λa'=>gA P ops B Q r z G a' w) (λ_ h=>h.raw)⟩⟩
theorem jF {K:Act->World->Prop} (ho:ops[i]? = some o) (hw:Region.wanted o (yielded ops a.tmps)=true) (h:ax P o a w K):gOp P ops i K a w:=by
 unfold gOp;simp only [ho,hw,if_true];exact h
theorem xR (ho:ops[i]? = some o) (hw:Region.wanted o (yielded ops a.tmps)=true)
  (h:∀ K:Act->World->Prop,(∀ a' w',(B w->B w')->(G w->G w')->cF P ops B Q r z G a' w'->K a' w')->ax P o a w K):cF P ops B Q (.run i r) z G a w:=
 ⟨jF ho hw (h _ (λa' w' hb hg hk=>⟨hb,λ_=>hg,hk.raw⟩))⟩
theorem aN (ho:ops[i]? = some o) (hw:Region.wanted o (yielded ops a.tmps)=true)
  (h:∀ K:Act->World->Prop,(∀ a' w',(G w->G w')->jE P ops Q r z G a' w'->K a' w')->ax P o a w K):jE P ops Q (.run i r) z G a w:=
 xR ho hw λK hK=>h K λa' w' hg hk=>hK a' w' (λh=>h) hg hk
theorem ou (ho:ops[i]? = some o) (hz:z.contains i=true) (hw:Region.wanted o (yielded ops a.tmps)=true)
  (h:∀ K:Act->World->Prop,(∀ a' w',(B w->B w')->cF P ops B Q r z G a' w'->K a' w')->ax P o a w K):cF P ops B Q (.run i r) z G a w:=
 ⟨jF ho hw (h _ (λa' w' hb hk=>⟨hb,(λhc=>by rw [hz] at hc;cases hc),hk.raw⟩))⟩
theorem aD (ho:ops[i]? = some o) (hz:z.contains i=true) (hw:Region.wanted o (yielded ops a.tmps)=true)
  (h:∀ K:Act->World->Prop,(∀ a' w',jE P ops Q r z G a' w'->K a' w')->ax P o a w K):jE P ops Q (.run i r) z G a w:=
 ou ho hz hw λK hK=>h K λa' w' hk=>hK a' w' (λh=>h) hk
theorem lu {j:Nat} {s:RO} {o':Oper} (ho:ops[i]? = some o) (hw:Region.wanted o (yielded ops a.tmps)=true) (ho':ops[j]? = some o') (hw':Region.wanted o' (yielded ops a.tmps)=true)
  (h:∀ K:Act->World->Prop,(∀ a' w',(B w->B w')->(z.contains i=false->G w->G w')->cF P ops B Q r z G a' w'->K a' w')->ax P o a w K)
  (h':∀ K:Act->World->Prop,(∀ a' w',(B w->B w')->(z.contains j=false->G w->G w')->cF P ops B Q s z G a' w'->K a' w')->ax P o' a w K):cF P ops B Q (.two i r j s) z G a w:=
 ⟨⟨jF ho hw (h _ (λa' w' hb hg hk=>⟨hb,hg,hk.raw⟩)),jF ho' hw' (h' _ (λa' w' hb hg hk=>⟨hb,hg,hk.raw⟩))⟩⟩
theorem aC {z':List Nat} (G':World->Prop) (hG:G' w) (h:cF P ops B Q r z' G' a w):cF P ops B Q (.swi z' r) z G a w:=⟨⟨G',hG,h.raw⟩⟩
theorem av (h:Q a w):cF P ops B Q .fin z G a w:=⟨h⟩
def rowB (P:Program) (t:TypeId) (n:Nat):Bool:=(match P.underlying t with | some d=>d.isRow | none=>false) && (P.info? t).map (·.size) == some n
theorem kf {t:TypeId} {n:Nat} (h:rowB P t n=true):∃ d,P.underlying t=some d/\d.isRow=true/\(P.info? t).map (·.size)=some n:=by
 unfold rowB at h;simp only [Zr,beq_iff_eq] at h;cases hd:P.underlying t with
 | none=>rw [hd] at h;cases h.1
 | some d=>rw [hd] at h;exact ⟨d,rfl,h.1,h.2⟩
theorem pT {b off:Nat} {v0 v1:Value} (h0:w.cell? ⟨b,off,none⟩=some v0) (h1:w.cell? ⟨b,off+1,none⟩=some v1):w.rangeAt b off [v0,v1]:=by
 intro j v hj
 match j with
 | 0=>simp at hj;subst hj;exact h0
 | 1=>simp at hj;subst hj;exact h1
 | j+2=>simp at hj
theorem qH {t:TypeId} {x:Operand} {b off:Nat} {v0 v1:Value} (ho:o.op=.load t x) (hr:rowB P t 2=true) (hx:a.eval x=.pointer (some ⟨b,off,none⟩))
  (h0:w.cell? ⟨b,off,none⟩=some v0) (h1:w.cell? ⟨b,off+1,none⟩=some v1):bA (.agg #[v0,v1]) w ((execOp a.eval o).run P w):=by
 obtain ⟨d,hu,hd,hi⟩:=kf hr;have:=run_loadAt_mid (P:=P) w b off t [v0,v1] d (pT h0 h1) hu hd hi;unfold bA execOp;simp only [ho,hx,Sem.run_bind,Sem.run_pure,Result.andThen_ok,this]
theorem kJ {v:Value} (ho:ops[i]? = some o) (hw:Region.wanted o (yielded ops a.tmps)=true) (hn:∀ K:Act->Prop,(∀ a',cF P ops B Q r z G a' w->K a')->K (a.put o.dst v))
  (h:∀ w',bA v w' ((execOp a.eval o).run P w'):=by intro w';go_simp;exact bA.mk _ _):cF P ops B Q (.free i r) z G a w:=hY ho hw v h hn
theorem kK {v:Value} (ho:ops[i]? = some o) (hw:Region.wanted o (yielded ops a.tmps)=true) (hn:∀ K:Act->Prop,(∀ a',cF P ops B Q r z G a' w->K a')->K (a.put o.dst v))
  (h:∀ w',G w'->bA v w' ((execOp a.eval o).run P w'):=by intro w' hG;(repeat (have:=And.left hG;replace hG:=And.right hG));go_simp;exact bA.mk _ _):cF P ops B Q (.pure i r) z G a w:=j9 ho hw v h hn
theorem wS {v:Value} (ho:ops[i]? = some o) (hw:Region.wanted o (yielded ops a.tmps)=true) (hn:∀ K:Act->Prop,(∀ a',cF P ops B Q r z G a' w->K a')->K (a.put o.dst v))
  (h:∀ w',B w'->bA v w' ((execOp a.eval o).run P w'):=by intro w' hG;(repeat (have:=And.left hG;replace hG:=And.right hG));go_simp;exact bA.mk _ _):cF P ops B Q (.base i r) z G a w:=sx ho hw v h hn
theorem lU {v:Value} (ho:ops[i]? = some o) (hw:Region.wanted o (yielded ops a.tmps)=true) (hn:∀ K:Act->Prop,(∀ a',cF P ops B Q r z G a' w->K a')->K (a.put o.dst v))
  (h:∀ w',G w'->bA v w' ((execOp a.eval o).run P w'):=by intro w' hG;(repeat (have:=And.left hG;replace hG:=And.right hG));exact qH rfl (by decide +kernel) rfl (by assumption) (by assumption)):cF P ops B Q (.pure i r) z G a w:=j9 ho hw v h hn
theorem wT {v:Value} (ho:ops[i]? = some o) (hw:Region.wanted o (yielded ops a.tmps)=true) (hn:∀ K:Act->Prop,(∀ a',cF P ops B Q r z G a' w->K a')->K (a.put o.dst v))
  (h:∀ w',B w'->bA v w' ((execOp a.eval o).run P w'):=by intro w' hG;(repeat (have:=And.left hG;replace hG:=And.right hG));exact qH rfl (by decide +kernel) rfl (by assumption) (by assumption)):cF P ops B Q (.base i r) z G a w:=sx ho hw v h hn
theorem ct {rest:List Oper} {Q:Exit->Act->World->Prop} (hgd:o.guard=none) (t:TypeId) (x:Operand) (ho:o.op=.load t x) (hr:rowB P t 2=true) (b off:Nat) (hx:a.eval x=.pointer (some ⟨b,off,none⟩)) (v0 v1:Value)
  (h0:w.cell? ⟨b,off,none⟩=some v0) (h1:w.cell? ⟨b,off+1,none⟩=some v1) (h:wpList P ops Q rest (a.put o.dst (.agg #[v0,v1])) w):wpList P ops Q (o :: rest) a w:=by
 obtain ⟨d,hu,hd,hi⟩:=kf hr;exact wpList_load_mid hgd t x ho b off hx [v0,v1] d (pT h0 h1) hu hd hi h
end
end
theorem Wz {p q:Prop} (k:q) (h:q->p:=by intro k;(first | refine kJ rfl rfl λK hK=>?_ | refine kI rfl rfl λK hK=>?_ | refine lU rfl rfl λK hK=>?_ | refine kK rfl rfl λK hK=>?_ | refine lT rfl rfl λK hK=>?_ | refine wS rfl rfl λK hK=>?_ | refine wT rfl rfl λK hK=>?_ | refine wR rfl rfl λK hK=>?_);go_simp;refine hK _ ?_;clear hK K;exact k):p:=h k
theorem Rz {P:Program} {id:Nat} {Q:Exit->Act->World->Prop} {a:Act} {w:World} {l:List Oper} (t:RO) (z:List Nat) (G:World->Prop) (hG:G w.drew) (h:jE P l.toArray (λa' w'=>Q .normal a' w') t z G a w.drew) (hm:P.follows .mixedOrders=true:=by kernel_rfl) (hB:(Region.noSelect l.toArray && t.size == l.toArray.size && roB .any l.toArray t z (Array.replicate l.toArray.size false))=true:=by kernel_rfl):(Code.region id l.toArray true).wp P Q a w:=oo t z G hm hB hG h
theorem Ew {P:Program} {id:Nat} {Q:Exit->Act->World->Prop} {a:Act} {w:World} {l:List Oper} (t:RO) (z:List Nat) (B G:World->Prop) (hb:B w.drew) (hG:G w.drew) (h:cF P l.toArray B (λa' w'=>Q .normal a' w') t z G a w.drew) (hm:P.follows .mixedOrders=true:=by kernel_rfl) (hB:(Region.noSelect l.toArray && t.size == l.toArray.size && roB .any l.toArray t z (Array.replicate l.toArray.size false))=true:=by kernel_rfl):(Code.region id l.toArray true).wp P Q a w:=nZ t z B G hm hB hb hG h
def At (G:World->Prop) (w:World):Prop:=G w
theorem Fa {w:World} {p:Addr} {v:Value} (h:w.cell? p=some v):At (λw'=>w'.cell? p=some v) w.drew:=h
theorem Fz {w:World} {p:Addr} {v:Value} {G:World->Prop} (h:w.cell? p=some v) (hg:At G w.drew):At (λw'=>w'.cell? p=some v/\G w') w.drew:=⟨h,hg⟩
theorem a6 {P:Program} {id:Nat} {Q:Exit->Act->World->Prop} {a:Act} {w:World} {l:List Oper} (t:RO) (z:List Nat) {G:World->Prop} (hG:At G w.drew) (h:jE P l.toArray (λa' w'=>Q .normal a' w') t z G a w.drew) (hm:P.follows .mixedOrders=true:=by kernel_rfl) (hB:(Region.noSelect l.toArray && t.size == l.toArray.size && roB .any l.toArray t z (Array.replicate l.toArray.size false))=true:=by kernel_rfl):(Code.region id l.toArray true).wp P Q a w:=oo t z G hm hB hG h
end
section
open Go.RowKit
theorem y9 {P:Program} (w:World) (t ty e:TypeId) (i:TypeInfo) (z:Value) (size bytes:Nat) (ht:P.underlying t=some (.slice e)) (hi:P.info? e=some i) (hz:i.zero=some z)
  (hsize:i.size=size) (hby:i.bytes=bytes) (hzs:z.cells.size=size) (hsz:0<size)
  (v:Value) (n:Nat) (xs:List Value) (hs:Sl w e size v n xs)
  (ao:Option Addr) (m c:Nat) (news:List Value) (hl:news.length=m*size) (hrd:Rd w ao news) (h1:∀ u ∈ news,u.oneCell'=true)
  (h63:n+m<=maxLen) (hbytes:(n+m)*bytes<=140737488355328) :
  ∃ v' w',(Builtin.append_ #[t,t] ty #[v, .slice ao m c]).run P w=.ok v' w'/\Sl w' e size v' (n+m) (xs ++ news)/\aa (aq v) w w'/\(∀ k,aq v' k->aq v k\/w.heap.size<=k):=by
 cases ao with
 | some a=>
  refine rP w t ty e i z size bytes ht hi hz hsize hby hzs hsz v n xs hs a m c news hl ?_ h1 h63 hbytes;intro j u hu;have hj:=(Zj.1 hu).1;obtain ⟨g,o,e,_,hc⟩:=hrd (by rintro rfl;simp at hj);cases e;rw [fw,hc j hj,hu]
 | none=>
  have hn:news=[]:=by
   by_cases h:news=[]
   ·exact h
   ·obtain ⟨g,o,e,_⟩:=hrd h;cases e
  subst hn;have hm:m=0:=by
   rcases Nat.mul_eq_zero.1 (show m*size=0 by simpa using hl.symm) with h | h
   ·exact h
   ·omega
  subst hm;refine ⟨v,w,?_,by simpa using hs,aa.refl _ _,λk hk=>.inl hk⟩;subst hsize;obtain ⟨hxl,⟨rfl,rfl⟩ | ⟨g,o,cap,cur,rfl,hb,hnc,hcm,hoc,hx⟩⟩:=hs
  ·simp [Builtin.append_,run_underlying ht,sizeOf,typeInfo,hi,Builtin.lenOf,Builtin.firstCells]
  ·simp [Builtin.append_,run_underlying ht,sizeOf,typeInfo,hi,Builtin.lenOf,Builtin.firstCells,hnc,storeCells]
theorem mq {P:Program} {w:World} {ops:Array Oper} {rest:List Oper} {o:Oper} {a:Act} {Q:Exit->Act->World->Prop} (hgd:o.guard=none) (s x:Operand) (t:TypeId)
  (ho:o.op=.call { callee:=.builtin .append,args:=#[s,x],argTypes:=#[t,t] })
  (e:TypeId) (i:TypeInfo) (z:Value) (size bytes:Nat) (ht:P.underlying t=some (.slice e)) (hi:P.info? e=some i) (hz:i.zero=some z)
  (hsize:i.size=size) (hby:i.bytes=bytes) (hzs:z.cells.size=size) (hsz:0<size)
  (v:Value) (n:Nat) (xs:List Value) (hs:a.eval s=v) (hown:Sl w e size v n xs)
  (ao:Option Addr) (m c:Nat) (news:List Value) (hx:a.eval x=.slice ao m c) (hl:news.length=m*size) (hrd:Rd w ao news) (h1:∀ u ∈ news,u.oneCell'=true)
  (h63:n+m<=maxLen) (hbytes:(n+m)*bytes<=140737488355328)
  (h:∀ v' w',Sl w' e size v' (n+m) (xs ++ news)->aa (aq v) w w'->(∀ k,aq v' k->aq v k\/w.heap.size<=k)->wpList P ops Q rest (a.put o.dst v') w'):wpList P ops Q (o :: rest) a w:=by
 refine wpList_plain hgd λ_ hK=>?_;obtain ⟨v',w',hr,h2,h3,h4⟩:=y9 (P:=P) w t o.type e i z size bytes ht hi hz hsize hby hzs hsz v n xs hown ao m c news hl hrd h1 h63 hbytes;unfold Oper.wp execOp;simp only [ho,resolve,invoke,builtin,Sem.run_bind,Sem.run_pure,Result.andThen_ok,List.map_toArray,Zs,List.map_nil,hs,hx,hr];exact hK _ _ (h v' w' h2 h3 h4)
end
section
open Go.RowKit
section
variable {P:Program} {w:World} {ops:Array Oper} {o:Oper} {a:Act}
theorem ov {t:TypeId} {x:Operand} {b off:Nat} {cs:List Value} (ho:o.op=.load t x) (hr:rowB P t cs.length=true) (hx:a.eval x=.pointer (some ⟨b,off,none⟩)) (h:w.rangeAt b off cs):bA (.agg cs.toArray) w ((execOp a.eval o).run P w):=by
 obtain ⟨d,hu,hd,hi⟩:=kf hr;have:=run_loadAt_mid (P:=P) w b off t cs d h hu hd hi;unfold bA execOp;simp only [ho,hx,Sem.run_bind,Sem.run_pure,Result.andThen_ok,this]
theorem bD {rest:List Oper} {Q:Exit->Act->World->Prop} (hgd:o.guard=none) (t:TypeId) (x:Operand) (ho:o.op=.load t x) (cs:List Value) (hr:rowB P t cs.length=true) (b off:Nat) (hx:a.eval x=.pointer (some ⟨b,off,none⟩))
  (h0:w.rangeAt b off cs) (h:wpList P ops Q rest (a.put o.dst (.agg cs.toArray)) w):wpList P ops Q (o :: rest) a w:=by
 obtain ⟨d,hu,hd,hi⟩:=kf hr;exact wpList_load_mid hgd t x ho b off hx cs d h0 hu hd hi h
theorem a9 {b off:Nat}:w.rangeAt b off []:=by intro j v hj;simp at hj
theorem ae {b off:Nat} {v:Value} {cs:List Value} (h:w.cell? ⟨b,off,none⟩=some v) (hr:w.rangeAt b (off+1) cs):w.rangeAt b off (v :: cs):=by
 intro j u hj;cases j with
 | zero=>simp at hj;subst hj;exact h
 | succ j=>simp at hj;rw [show off+(j+1)=off+1+j by omega];exact hr j u hj
end
end
section
open Go.RowKit
theorem pU (n:Int):bits .and .i64 n 3=n%4:=by
 have h3:(BitVec.ofInt 64 3).toNat=2 ^ 2-1:=by decide
 have key:(BitVec.ofInt 64 n &&& BitVec.ofInt 64 3).toNat=(n%((2 ^ 64:Nat):Int)).toNat%2 ^ 2:=by
  rw [BitVec.toNat_and,BitVec.toNat_ofInt,h3,Nat.and_two_pow_sub_one_eq_mod]
 show IntKind.i64.wrap ((BitVec.ofInt 64 n &&& BitVec.ofInt 64 3).toNat:Nat)=n%4
 rw [key,IntKind.wrap_i64];omega
theorem xS (n:Int):bits .and .i64 n 15=n%16:=by
 have h3:(BitVec.ofInt 64 15).toNat=2 ^ 4-1:=by decide
 have key:(BitVec.ofInt 64 n &&& BitVec.ofInt 64 15).toNat=(n%((2 ^ 64:Nat):Int)).toNat%2 ^ 4:=by
  rw [BitVec.toNat_and,BitVec.toNat_ofInt,h3,Nat.and_two_pow_sub_one_eq_mod]
 show IntKind.i64.wrap ((BitVec.ofInt 64 n &&& BitVec.ofInt 64 15).toNat:Nat)=n%16
 rw [key,IntKind.wrap_i64];omega
theorem AS (n:Int) (h1:-9223372036854775808<=n) (h2:n<=9223372036854775807):bits .or .i64 n 0=n:=by
 have key:(BitVec.ofInt 64 n ||| BitVec.ofInt 64 0).toNat=(n%((2 ^ 64:Nat):Int)).toNat:=by
  rw [show BitVec.ofInt 64 0=0#64 from by decide,BitVec.or_zero,BitVec.toNat_ofInt]
 show IntKind.i64.wrap ((BitVec.ofInt 64 n ||| BitVec.ofInt 64 0).toNat:Nat)=n
 rw [key,IntKind.wrap_i64];omega
theorem sA (n:Int) (h₀:0<=n) (h₁:n<2 ^ 63):IntKind.i64.wrap n=n:=by rw [IntKind.wrap_i64];omega
theorem vP (n:Int) (h1:0<=n) (h2:n<2305843009213693951):bits .or .i64 (n*4) 1=n*4+1:=
 bits_join .i64 63 (by decide) sA 2 (n*4) 1 (by omega) (by omega) (by omega) (by omega) (by omega) (by omega)
theorem lx (f k:Int) (h1:0<=f) (h2:f<=100) (h3:0<=k) (h4:k<16):bits .or .i64 (f*16) k=f*16+k:=
 bits_join .i64 63 (by decide) sA 4 (f*16) k (by omega) (by omega) (by omega) (by omega) (by omega) (by omega)
def cG:Int:=1152921504606846976
def fU (k n:Int):Int × Int:=
 if k=0 then if n=0 then (2,0) else (0,7)
 else if k=2 then if n=0 then (3,0) else (0,7)
 else if k=1 then if -cG<=n/\n<cG then (4*n,0) else (0,1)
 else if k=3 then if 0<=n/\n<cG then (4*n+1,0) else (0,1)
 else (0,2)
def fC (x:Int):Int × Int × Int:=
 if x%4=0 then if -cG<=x/4/\x/4<cG then (1,x/4,0) else (0,0,1)
 else if x%4=1 then if 0<=x/4/\x/4<cG then (3,x/4,0) else (0,0,1)
 else if x/4=0 then if x=2 then (0,0,0) else (2,0,0)
 else (0,0,7)
def bj (k f:Int):Bool:=((k == 1 || k == 3 || k == 4) && f == 2) || (k == 5 && f == 0) || (k == 2 && decide (0<=f) && decide (f<=12))
def jt (k f:Int):Int × Int:=if k<1\/5<k then (0,2) else if bj k f=true then (16*f+k,0) else (0,1)
def fD (h:Int):Int × Int × Int:=if bj (h%16) (h/16)=true then (h%16,h/16,0) else (0,0,7)
theorem bL {k f:Int} (h:bj k f=true):1<=k/\k<=5/\0<=f/\f<=12:=by
 simp [bj] at h;omega
theorem za {n:Int} (h:-1152921504606846976<=n/\n<1152921504606846976):fU 1 n=(4*n,0):=if_pos (c:=-cG<=n/\n<cG) h
theorem pE {n:Int} (h:¬ (-1152921504606846976<=n/\n<1152921504606846976)):fU 1 n=(0,1):=if_neg (c:=-cG<=n/\n<cG) h
theorem zb {n:Int} (h:0<=n/\n<1152921504606846976):fU 3 n=(4*n+1,0):=if_pos (c:=0<=n/\n<cG) h
theorem pF {n:Int} (h:¬ (0<=n/\n<1152921504606846976)):fU 3 n=(0,1):=if_neg (c:=0<=n/\n<cG) h
theorem wU {k n:Int} (h0:k≠0) (h1:k≠1) (h2:k≠2) (h3:k≠3):fU k n=(0,2):=by
 unfold fU;rw [if_neg h0,if_neg h2,if_neg h1,if_neg h3]
theorem tJ {x:Int} (h:x%4=0) (h1:-1152921504606846976<=x/4/\x/4<1152921504606846976):fC x=(1,x/4,0):=by
 unfold fC;rw [if_pos h,if_pos (show -cG<=x/4/\x/4<cG from h1)]
theorem pG {x:Int} (h:x%4=0) (h1:¬ (-1152921504606846976<=x/4/\x/4<1152921504606846976)):fC x=(0,0,1):=by
 unfold fC;rw [if_pos h,if_neg (show ¬ (-cG<=x/4/\x/4<cG) from h1)]
theorem zc {x:Int} (h:x%4=1) (h1:0<=x/4/\x/4<1152921504606846976):fC x=(3,x/4,0):=by
 unfold fC;rw [if_neg (by omega),if_pos h,if_pos (show 0<=x/4/\x/4<cG from h1)]
theorem pH {x:Int} (h:x%4=1) (h1:¬ (0<=x/4/\x/4<1152921504606846976)):fC x=(0,0,1):=by
 unfold fC;rw [if_neg (by omega),if_pos h,if_neg (show ¬ (0<=x/4/\x/4<cG) from h1)]
theorem xT {x:Int} (h0:x%4≠0) (h:x%4≠1) (h1:x/4≠0):fC x=(0,0,7):=by
 unfold fC;rw [if_neg h0,if_neg h,if_neg h1]
end
section
open Go.RowKit
theorem mE {a b c d:Int} (h1:a=c) (h2:b=d):Ending.returned (.tuple #[.int .i64 a, .int .i64 b])=Ending.returned (.tuple #[.int .i64 c, .int .i64 d]):=by rw [h1,h2]
theorem tK (k n:Int) (w:World) (h1:-9223372036854775808<=n) (h2:n<=9223372036854775807) :
  Calls Tryz.prog 26 #[.agg #[.int .i64 k, .int .i64 n]] w λe w'=>e=.returned (.tuple #[.int .i64 (fU k n).1, .int .i64 (fU k n).2])/\aa (λ_=>False) w w':=by
 by_cases k0:k=0
 ·subst k0;by_cases n0:n=0
  ·subst n0;go_enter Tryz.func26,Tryz.ntmps26
   go_wp2
   go_ret2;exact ⟨rfl,(aa.refl _ _).alloc _⟩
  ·have hz:(n != 0)=true:=by simpa using n0
   have he:fU 0 n=(0,7):=by simp [fU,n0]
   have HE:=Hz he;clear he n0;go_enter Tryz.func26,Tryz.ntmps26
   go_wp2
   go_ret2;exact ⟨by rw [HE.o];rfl,(aa.refl _ _).alloc _⟩
 by_cases k2:k=2
 ·subst k2;by_cases n0:n=0
  ·subst n0;go_enter Tryz.func26,Tryz.ntmps26
   go_wp2
   go_ret2;exact ⟨rfl,(aa.refl _ _).alloc _⟩
  ·have hz:(n != 0)=true:=by simpa using n0
   have he:fU 2 n=(0,7):=by simp [fU,n0]
   have HE:=Hz he;clear he n0;go_enter Tryz.func26,Tryz.ntmps26
   go_wp2
   go_ret2;exact ⟨by rw [HE.o];rfl,(aa.refl _ _).alloc _⟩
 by_cases k1:k=1
 ·subst k1;by_cases c1:n < -1152921504606846976
  ·have he:fU 1 n=(0,1):=pE (by omega);have HE:=Hz he;clear he;go_enter Tryz.func26,Tryz.ntmps26
   go_wp2
   go_ret2;exact ⟨by rw [HE.o];rfl,(aa.refl _ _).alloc _⟩
  by_cases c2:1152921504606846976<=n
  ·have he:fU 1 n=(0,1):=pE (by omega);have HE:=Hz he;clear he;go_enter Tryz.func26,Tryz.ntmps26
   go_wp2
   go_ret2;exact ⟨by rw [HE.o];rfl,(aa.refl _ _).alloc _⟩
  have he:fU 1 n=(4*n,0):=za (by omega);have HE:=Hz he;clear he;have hor:=AS (n*4) (by omega) (by omega);go_enter Tryz.func26,Tryz.ntmps26
  go_wp2
  go_ret2;exact ⟨by rw [HE.o];exact mE (Int.mul_comm _ _) rfl,(aa.refl _ _).alloc _⟩
 by_cases k3:k=3
 ·subst k3;by_cases c1:n<0
  ·have he:fU 3 n=(0,1):=pF (by omega);have HE:=Hz he;clear he;go_enter Tryz.func26,Tryz.ntmps26
   go_wp2
   go_ret2;exact ⟨by rw [HE.o];rfl,(aa.refl _ _).alloc _⟩
  by_cases c2:1152921504606846976<=n
  ·have he:fU 3 n=(0,1):=pF (by omega);have HE:=Hz he;clear he;go_enter Tryz.func26,Tryz.ntmps26
   go_wp2
   go_ret2;exact ⟨by rw [HE.o];rfl,(aa.refl _ _).alloc _⟩
  have he:fU 3 n=(4*n+1,0):=zb (by omega);have HE:=Hz he;clear he;have hor:=vP n (by omega) (by omega);go_enter Tryz.func26,Tryz.ntmps26
  go_wp2
  go_ret2;exact ⟨by rw [HE.o];exact mE (by omega) rfl,(aa.refl _ _).alloc _⟩
 have e0:(k == 0)=false:=by simpa using k0
 have e1:(k == 1)=false:=by simpa using k1
 have e2:(k == 2)=false:=by simpa using k2
 have e3:(k == 3)=false:=by simpa using k3
 have he:fU k n=(0,2):=wU k0 k1 k2 k3;have HE:=Hz he;clear he k0 k1 k2 k3;go_enter Tryz.func26,Tryz.ntmps26
 go_wp2
 go_ret2;exact ⟨by rw [HE.o];rfl,(aa.refl _ _).alloc _⟩
theorem Au (x:Int) (w:World) (h1:0<=x) (h2:x<1152921504606846976) :
  Calls Tryz.prog 59 #[.int .i64 x] w λe w'=>e=.returned (.int .i64 (4*x+1))/\w=w':=by
 have hor:=vP x (by omega) (by omega);go_enter Tryz.func59,Tryz.ntmps59
 go_wp2
 go_ret;exact ⟨cS (by omega),rfl⟩
theorem wV (w:World):Calls Tryz.prog 28 #[] w λe w'=>e=.returned (.int .i64 2)/\w=w':=by
 go_enter Tryz.func28,Tryz.ntmps28
 go_wp2
 go_ret;exact ⟨rfl,rfl⟩
theorem tL (w:World):Calls Tryz.prog 129 #[] w λe w'=>e=.returned (.int .i64 3)/\w=w':=by
 go_enter Tryz.func129,Tryz.ntmps129
 go_wp2
 go_ret;exact ⟨rfl,rfl⟩
theorem dH (x:Int) (w:World) (h:x%4=1) :
  Calls Tryz.prog 49 #[.int .i64 x] w λe w'=>e=.returned (.tuple #[.int .i64 (x/4), .bool true])/\w=w':=by
 have ha:bits .and .i64 x 3=1:=by rw [pU,h]
 clear h;go_enter Tryz.func49,Tryz.ntmps49
 go_wp2
 go_ret2;exact ⟨rfl,rfl⟩
theorem lV (x:Int) (w:World) (h:x%4≠1) :
  Calls Tryz.prog 49 #[.int .i64 x] w λe w'=>e=.returned (.tuple #[.int .i64 0, .bool false])/\w=w':=by
 have ha:(bits .and .i64 x 3 != 1)=true:=by rw [pU];simpa using h
 clear h;go_enter Tryz.func49,Tryz.ntmps49
 go_wp2
 go_ret2;exact ⟨rfl,rfl⟩
theorem jG {k n c:Int} {y:Int × Int × Int} (h:y=(k,n,c)) :
  Ending.returned (.tuple #[.agg #[.int .i64 k, .int .i64 n], .int .i64 c])=Ending.returned (.tuple #[.agg #[.int .i64 y.1, .int .i64 y.2.1], .int .i64 y.2.2]):=by subst h;rfl
theorem zd (x:Int) (w:World) (h1:-9223372036854775808<=x) (h2:x<=9223372036854775807) :
  Calls Tryz.prog 50 #[.int .i64 x] w λe w'=>e=.returned (.tuple #[.agg #[.int .i64 (fC x).1, .int .i64 (fC x).2.1], .int .i64 (fC x).2.2])/\aa (λ_=>False) w w':=by
 have hm:=Hz (pU x);by_cases m0:x%4=0
 ·have ha:bits .and .i64 x 3=0:=by rw [hm.o,m0]
  by_cases c1:x/4 < -1152921504606846976
  ·have HE:=Hz (pG m0 (by omega));clear m0;go_enter Tryz.func50,Tryz.ntmps50
   go_wp2
   exact bodyPost_ret (v:=.tuple #[.agg #[.int .i64 0, .int .i64 0], .int .i64 1]) (by simp [results,Tryz.results50,go_sem]) rfl ⟨jG HE.o,(((aa.refl _ _).alloc _))⟩
  by_cases c2:1152921504606846976<=x/4
  ·have HE:=Hz (pG m0 (by omega));clear m0;go_enter Tryz.func50,Tryz.ntmps50
   go_wp2
   exact bodyPost_ret (v:=.tuple #[.agg #[.int .i64 0, .int .i64 0], .int .i64 1]) (by simp [results,Tryz.results50,go_sem]) rfl ⟨jG HE.o,(((aa.refl _ _).alloc _))⟩
  have HE:=Hz (tJ m0 (by omega));clear m0;go_enter Tryz.func50,Tryz.ntmps50
  go_wp2
  exact bodyPost_ret (v:=.tuple #[.agg #[.int .i64 1, .int .i64 (x/4)], .int .i64 0]) (by simp [results,Tryz.results50,go_sem]) rfl ⟨jG HE.o,(((aa.refl _ _).alloc _))⟩
 by_cases m1:x%4=1
 ·have ha:bits .and .i64 x 3=1:=by rw [hm.o,m1]
  by_cases c1:x/4<0
  ·have HE:=Hz (pH m1 (by omega));clear m1;go_enter Tryz.func50,Tryz.ntmps50
   go_wp2
   exact bodyPost_ret (v:=.tuple #[.agg #[.int .i64 0, .int .i64 0], .int .i64 1]) (by simp [results,Tryz.results50,go_sem]) rfl ⟨jG HE.o,(((aa.refl _ _).alloc _))⟩
  by_cases c2:1152921504606846976<=x/4
  ·have HE:=Hz (pH m1 (by omega));clear m1;go_enter Tryz.func50,Tryz.ntmps50
   go_wp2
   exact bodyPost_ret (v:=.tuple #[.agg #[.int .i64 0, .int .i64 0], .int .i64 1]) (by simp [results,Tryz.results50,go_sem]) rfl ⟨jG HE.o,(((aa.refl _ _).alloc _))⟩
  have HE:=Hz (zc m1 (by omega));clear m1;go_enter Tryz.func50,Tryz.ntmps50
  go_wp2
  exact bodyPost_ret (v:=.tuple #[.agg #[.int .i64 3, .int .i64 (x/4)], .int .i64 0]) (by simp [results,Tryz.results50,go_sem]) rfl ⟨jG HE.o,(((aa.refl _ _).alloc _))⟩
 have ha0:(bits .and .i64 x 3 == 0)=false:=by rw [hm.o];simpa using m0
 have ha1:(bits .and .i64 x 3 == 1)=false:=by rw [hm.o];simpa using m1
 by_cases c1:x/4=0
 ·have h23:x=2\/x=3:=by omega
  clear m0 m1 ha0 ha1 c1 hm;rcases h23 with rfl | rfl
  ·go_enter Tryz.func50,Tryz.ntmps50
   go_wp2
   exact bodyPost_ret (v:=.tuple #[.agg #[.int .i64 0, .int .i64 0], .int .i64 0]) (by simp [results,Tryz.results50,go_sem]) rfl ⟨rfl,(((aa.refl _ _).alloc _))⟩
  ·go_enter Tryz.func50,Tryz.ntmps50
   go_wp2
   exact bodyPost_ret (v:=.tuple #[.agg #[.int .i64 2, .int .i64 0], .int .i64 0]) (by simp [results,Tryz.results50,go_sem]) rfl ⟨rfl,(((aa.refl _ _).alloc _))⟩
 ·have hz:(x/4 != 0)=true:=by simpa using c1
  have HE:=Hz (xT m0 m1 c1);clear m0 m1 c1;go_enter Tryz.func50,Tryz.ntmps50
  go_wp2
  exact bodyPost_ret (v:=.tuple #[.agg #[.int .i64 0, .int .i64 0], .int .i64 7]) (by simp [results,Tryz.results50,go_sem]) rfl ⟨jG HE.o,(((aa.refl _ _).alloc _))⟩
end
section
open Go.RowKit
theorem qI {k f:Int} (h:k<1\/5<k):jt k f=(0,2):=if_pos h
theorem jH {k f:Int} (h:1<=k/\k<=5) (hf:bj k f=false):jt k f=(0,1):=by
 unfold jt;rw [if_neg (by omega),if_neg (by simp [hf])]
theorem jh {k f:Int} (h:1<=k/\k<=5) (hf:bj k f=true):jt k f=(16*f+k,0):=by
 unfold jt;rw [if_neg (by omega),if_pos hf]
theorem rQ {k f:Int} (hk:k=1\/k=3\/k=4):bj k f=(f == 2):=by
 rcases hk with rfl | rfl | rfl <;> simp [bj]
theorem AU {f:Int}:bj 5 f=(f == 0):=by simp [bj]
theorem oy {f:Int}:bj 2 f=(decide (0<=f) && decide (f<=12)):=by simp [bj]
theorem oz (k f:Int) (w:World) (h1:-9223372036854775808<=f) (h2:f<=9223372036854775807) :
  Calls Tryz.prog 141 #[.int .i64 k, .int .i64 f] w λe w'=>e=.returned (.tuple #[.int .i64 (jt k f).1, .int .i64 (jt k f).2])/\w=w':=by
 by_cases c1:k<1
 ·have HE:=Hz (qI (f:=f) (.inl c1));go_enter Tryz.func141,Tryz.ntmps141
  go_wp2
  go_ret2;exact ⟨by rw [HE.o];rfl,rfl⟩
 by_cases c2:5<k
 ·have HE:=Hz (qI (f:=f) (.inr c2));go_enter Tryz.func141,Tryz.ntmps141
  go_wp2
  go_ret2;exact ⟨by rw [HE.o];rfl,rfl⟩
 have hk:k=1\/k=2\/k=3\/k=4\/k=5:=by omega
 clear c1 c2;rcases hk with rfl | rfl | rfl | rfl | rfl
 ·by_cases c:f=2
  ·subst c;have hor:=lx 2 1 (by omega) (by omega) (by omega) (by omega);have HE:=Hz (jh (k:=1) (f:=2) (by omega) (by decide));go_enter Tryz.func141,Tryz.ntmps141
   go_wp2
   go_ret2;exact ⟨by rw [HE.o];rfl,rfl⟩
  ·have hne:(f != 2)=true:=by simpa using c
   have HE:=Hz (jH (k:=1) (f:=f) (by omega) (by rw [rQ (by omega)];simpa using c));clear c;go_enter Tryz.func141,Tryz.ntmps141
   go_wp2
   go_ret2;exact ⟨by rw [HE.o];rfl,rfl⟩
 ·by_cases c1:f<0
  ·have HE:=Hz (jH (k:=2) (f:=f) (by omega) (by rw [oy];simp;omega));go_enter Tryz.func141,Tryz.ntmps141
   go_wp2
   go_ret2;exact ⟨by rw [HE.o];rfl,rfl⟩
  by_cases c2:12<f
  ·have HE:=Hz (jH (k:=2) (f:=f) (by omega) (by rw [oy];simp;omega));go_enter Tryz.func141,Tryz.ntmps141
   go_wp2
   go_ret2;exact ⟨by rw [HE.o];rfl,rfl⟩
  have hor:=lx f 2 (by omega) (by omega) (by omega) (by omega);have HE:=Hz (jh (k:=2) (f:=f) (by omega) (by rw [oy];simp;omega));go_enter Tryz.func141,Tryz.ntmps141
  go_wp2
  go_ret2;exact ⟨by rw [HE.o];exact mE (by omega) rfl,rfl⟩
 ·by_cases c:f=2
  ·subst c;have hor:=lx 2 3 (by omega) (by omega) (by omega) (by omega);have HE:=Hz (jh (k:=3) (f:=2) (by omega) (by decide));go_enter Tryz.func141,Tryz.ntmps141
   go_wp2
   go_ret2;exact ⟨by rw [HE.o];rfl,rfl⟩
  ·have hne:(f != 2)=true:=by simpa using c
   have HE:=Hz (jH (k:=3) (f:=f) (by omega) (by rw [rQ (by omega)];simpa using c));clear c;go_enter Tryz.func141,Tryz.ntmps141
   go_wp2
   go_ret2;exact ⟨by rw [HE.o];rfl,rfl⟩
 ·by_cases c:f=2
  ·subst c;have hor:=lx 2 4 (by omega) (by omega) (by omega) (by omega);have HE:=Hz (jh (k:=4) (f:=2) (by omega) (by decide));go_enter Tryz.func141,Tryz.ntmps141
   go_wp2
   go_ret2;exact ⟨by rw [HE.o];rfl,rfl⟩
  ·have hne:(f != 2)=true:=by simpa using c
   have HE:=Hz (jH (k:=4) (f:=f) (by omega) (by rw [rQ (by omega)];simpa using c));clear c;go_enter Tryz.func141,Tryz.ntmps141
   go_wp2
   go_ret2;exact ⟨by rw [HE.o];rfl,rfl⟩
 ·by_cases c:f=0
  ·subst c;have hor:=lx 0 5 (by omega) (by omega) (by omega) (by omega);have HE:=Hz (jh (k:=5) (f:=0) (by omega) (by decide));go_enter Tryz.func141,Tryz.ntmps141
   go_wp2
   go_ret2;exact ⟨by rw [HE.o];rfl,rfl⟩
  ·have hne:(f != 0)=true:=by simpa using c
   have HE:=Hz (jH (k:=5) (f:=f) (by omega) (by rw [AU];simpa using c));clear c;go_enter Tryz.func141,Tryz.ntmps141
   go_wp2
   go_ret2;exact ⟨by rw [HE.o];rfl,rfl⟩
theorem lW {a b c:Int} {y:Int × Int × Int} (h:y=(a,b,c)) :
  Ending.returned (.tuple #[.int .i64 a, .int .i64 b, .int .i64 c])=Ending.returned (.tuple #[.int .i64 y.1, .int .i64 y.2.1, .int .i64 y.2.2]):=by subst h;rfl
theorem sB {h:Int} (hf:bj (h%16) (h/16)=false):fD h=(0,0,7):=by unfold fD;rw [if_neg (by simp [hf])]
theorem wW {h:Int} (hf:bj (h%16) (h/16)=true):fD h=(h%16,h/16,0):=by unfold fD;rw [if_pos hf]
theorem qJ {h:Int} (c:h<0\/207<h):fD h=(0,0,7):=by
 apply sB;cases hf:bj (h%16) (h/16)
 ·rfl
 ·have:=bL hf;omega
theorem qK {k f:Int} (h:bj k f=false):(jt k f).1=0/\((jt k f).2 != 0)=true:=by
 unfold jt;split
 ·exact ⟨rfl,rfl⟩
 ·rw [if_neg (by simp [h])];exact ⟨rfl,rfl⟩
theorem qL {k f:Int} (h:bj k f=true):jt k f=(16*f+k,0):=jh ⟨(bL h).1,(bL h).2.1⟩ h
theorem AV (h:Int) (w:World) (h1:-9223372036854775808<=h) (h2:h<=9223372036854775807) :
  Calls Tryz.prog 136 #[.int .i64 h] w λe w'=>e=.returned (.tuple #[.int .i64 (fD h).1, .int .i64 (fD h).2.1, .int .i64 (fD h).2.2])/\w=w':=by
 by_cases c1:h<0
 ·have HE:=Hz (qJ (.inl c1));go_enter Tryz.func136,Tryz.ntmps136;go_wp2_with fail
  go_ret3
  exact ⟨lW HE.o,rfl⟩
 by_cases c2:207<h
 ·have HE:=Hz (qJ (.inr c2));go_enter Tryz.func136,Tryz.ntmps136;go_wp2_with fail
  go_ret3
  exact ⟨lW HE.o,rfl⟩
 have ha:=xS h;cases hf:bj (h%16) (h/16)
 ·have HE:=Hz (sB hf);have hc:=(qK hf).2;have HF:=Hz hf;clear hf;go_enter Tryz.func136,Tryz.ntmps136;go_wp2_with fail;refine (oz (h%16) (h/16) _ (by omega) (by omega)).mono ?_;rintro e w' ⟨rfl,rfl⟩;go_wp2_with fail
  go_ret3
  exact ⟨lW HE.o,rfl⟩
 ·have HE:=Hz (wW hf);have HC:=Hz (qL hf);have HF:=Hz hf;clear hf;go_enter Tryz.func136,Tryz.ntmps136;go_wp2_with fail;refine (oz (h%16) (h/16) _ (by omega) (by omega)).mono ?_;rintro e w' ⟨rfl,rfl⟩;rw [HC.o];go_wp2_with fail
  go_ret3
  exact ⟨lW HE.o,rfl⟩
end
section
def bm (x:Int):Prop:=-9223372036854775808<=x/\x<=9223372036854775807
structure Ar where
 ws:List Int
 nur:Nat
 yng:Nat
 grn:Nat
structure Ar.ok (A:Ar):Prop where
 h1:A.yng<=A.nur
 h2:A.nur<=A.grn
 h3:A.grn<=A.ws.length
 h4:A.ws.length<=1280
 hw:∀ x ∈ A.ws,bm x
def Ar.aA (A:Ar) (i:Int):Bool:=decide (0<=i) && decide (i<A.yng)
def Ar.aK (A:Ar) (i:Int):Bool:=decide ((A.nur:Int)<=i) && decide (i<A.grn)
def Ar.aM (A:Ar) (i:Int):Bool:=A.aA i || A.aK i
def Ar.load (A:Ar) (i:Int):Int:=if A.aM i then A.ws.getD i.toNat 0 else 0
def Ar.store (A:Ar) (i x:Int):Ar:=if A.aM i then { A with ws:=A.ws.set i.toNat x } else A
def Ar.pn (A:Ar) (n:Int):Int × Ar:=if 0<=n/\n<=(A.nur:Int)-A.yng then (A.yng, { A with yng:=A.yng+n.toNat }) else (-1,A)
def Ar.pq (A:Ar) (n:Int):Int × Ar:=if 0<=n/\n<=(A.ws.length:Int)-A.grn then (A.grn, { A with grn:=A.grn+n.toNat }) else (-1,A)
def lay (l:List Int) (i:Nat) (m:List Int):List Int:=l.take i ++ m ++ l.drop (i+m.length)
theorem dW {l m:List Int} {i:Nat} (h:i+m.length<=l.length):(lay l i m).length=l.length:=by
 unfold lay;simp only [Zq,Zx,List.length_drop];omega
theorem rR {l m:List Int} {i j:Nat} (h:i+m.length<=l.length):(lay l i m)[j]? = if i<=j/\j<i+m.length then m[j-i]? else l[j]? := by
 unfold lay;by_cases h1:j<i
 ·rw [List.append_assoc,List.getElem?_append_left (by simp;omega),List.getElem?_take,if_pos h1,if_neg (by omega)]
 ·by_cases h2:j<i+m.length
  ·rw [List.append_assoc,List.getElem?_append_right (by simp;omega),Zx,List.getElem?_append_left (by omega),if_pos ⟨by omega,h2⟩];congr 1;omega
  ·rw [List.getElem?_append_right (by simp;omega),if_neg (by omega),List.getElem?_drop,Zq,Zx];congr 1;omega
theorem jI {l m:List Int} {i j:Nat} (h:i+m.length<=l.length):(lay l i m).getD j 0=if i<=j/\j<i+m.length then m.getD (j-i) 0 else l.getD j 0:=by
 simp only [Ld,rR h];split <;> rfl
theorem pt {l m:List Int} {i:Nat} {x:Int} (h:x ∈ lay l i m):x ∈ l\/x ∈ m:=by
 unfold lay at h;simp only [List.mem_append] at h;rcases h with (h | h) | h
 ·exact .inl (List.mem_of_mem_take h)
 ·exact .inr h
 ·exact .inl (List.mem_of_mem_drop h)
def fE (k f:Int):List Int:=(16*f+k) :: List.replicate f.toNat 2
def Ar.make (A:Ar) (k f:Int):Int × Ar:=
 if bj k f=true/\1+f<=(A.nur:Int)-A.yng then (A.yng, { A with yng:=A.yng+(1+f).toNat,ws:=lay A.ws A.yng (fE k f) }) else (-1,A)
theorem Ar.vQ {A:Ar} {k f:Int} (h:¬ (bj k f=true/\1+f<=(A.nur:Int)-A.yng)):A.make k f=(-1,A):=if_neg h
theorem Ar.pV {A:Ar} {k f:Int} (h:bj k f=true/\1+f<=(A.nur:Int)-A.yng):A.make k f=((A.yng:Int), { A with yng:=A.yng+(1+f).toNat,ws:=lay A.ws A.yng (fE k f) }):=if_pos h
def Ar.ah (A:Ar) (i:Int):Int × Int × Int:=fD (A.load i)
def Ar.whole (A:Ar) (i n:Int):Bool:=(A.aA i && A.aA (i+n)) || (A.aK i && A.aK (i+n))
def Ar.copy (A:Ar) (i:Int):Int × Ar:=
 let n:=(A.ah i).2.1
 if (A.ah i).2.2=0/\A.whole i n=true/\1+n<=(A.ws.length:Int)-A.grn then
  (A.grn, { A with grn:=A.grn+(1+n).toNat,ws:=lay A.ws A.grn ((A.ws.drop i.toNat).take (1+n).toNat) })
 else (-1,A)
theorem Ar.AW {A:Ar} {i:Int} (h:¬ ((A.ah i).2.2=0/\A.whole i (A.ah i).2.1=true/\1+(A.ah i).2.1<=(A.ws.length:Int)-A.grn)):A.copy i=(-1,A):=if_neg h
theorem Ar.tM {A:Ar} {i:Int} (h:(A.ah i).2.2=0/\A.whole i (A.ah i).2.1=true/\1+(A.ah i).2.1<=(A.ws.length:Int)-A.grn) :
  A.copy i=((A.grn:Int), { A with grn:=A.grn+(1+(A.ah i).2.1).toNat,ws:=lay A.ws A.grn ((A.ws.drop i.toNat).take (1+(A.ah i).2.1).toNat) }):=if_pos h
def Ar.clear (A:Ar):Ar:={ A with yng:=0 }
def Ar.cut (A:Ar) (n:Nat):Ar:={ A with grn:=A.nur+n }
theorem Ar.ok.mS {A:Ar} (h:A.ok) {i:Int} (hy:A.aA i=true):0<=i/\i<A.ws.length:=by
 have:=h.h1;have:=h.h2;have:=h.h3;simp [Ar.aA] at hy;omega
theorem Ar.ok.qM {A:Ar} (h:A.ok) {i:Int} (hy:A.aK i=true):0<=i/\i<A.ws.length:=by
 have:=h.h3;simp [Ar.aK] at hy;omega
theorem Ar.ok.ju {A:Ar} (h:A.ok) {i:Int} (hy:A.aM i=true):0<=i/\i<A.ws.length:=by
 unfold Ar.aM at hy;rw [Bool.or_eq_true] at hy;rcases hy with hy | hy
 ·exact h.mS hy
 ·exact h.qM hy
theorem Ar.ok.load {A:Ar} (h:A.ok) (i:Int):bm (A.load i):=by
 unfold Ar.load;split
 ·rename_i hu;have:=h.ju hu;have hi:i.toNat<A.ws.length:=by omega
  rw [Ld,Le hi];exact h.hw _ (Ze hi)
 ·unfold bm;omega
theorem Ar.ok.store {A:Ar} (h:A.ok) (i x:Int) (hx:bm x):(A.store i x).ok:=by
 unfold Ar.store;split
 ·refine ⟨h.h1,h.h2,by simpa using h.h3,by simpa using h.h4,λy hy=>?_⟩;rcases List.mem_or_eq_of_mem_set hy with h1 | rfl
  ·exact h.hw y h1
  ·exact hx
 ·exact h
theorem Ar.oA {A:Ar} {i:Int} (h:(A.ah i).2.2=0):A.aM i=true:=by
 cases hu:A.aM i
 ·have:A.load i=0:=by unfold Ar.load;rw [hu];simp
  unfold Ar.ah at h;rw [this] at h;exact absurd h (by decide)
 ·rfl
theorem Ar.aQ (A:Ar) (i:Int):0<=(A.ah i).2.1/\(A.ah i).2.1<=12:=by
 unfold Ar.ah fD;split
 ·rename_i h;have:=bL h;exact ⟨this.2.2.1,this.2.2.2⟩
 ·decide
theorem kB {k f:Int} (h:0<=f):(fE k f).length=(1+f).toNat:=by
 unfold fE;simp;omega
theorem Ar.ok.make {A:Ar} (h:A.ok) (k f:Int):(A.make k f).2.ok:=by
 unfold Ar.make;split
 ·rename_i hc;have hf:=bL hc.1;have hl:=kB (k:=k) hf.2.2.1;have:=h.h1;have:=h.h2;have:=h.h3;have:=h.h4;have hlay:(lay A.ws A.yng (fE k f)).length=A.ws.length:=dW (by omega);refine ⟨?_,h.h2,?_,?_,λx hx=>?_⟩
  ·show A.yng+(1+f).toNat<=A.nur;omega
  ·show A.grn<=(lay _ _ _).length;rw [hlay];exact h.h3
  ·show (lay _ _ _).length<=1280;rw [hlay];exact h.h4
  ·rcases pt hx with h1 | h1
   ·exact h.hw x h1
   ·unfold fE at h1;simp only [List.mem_cons,List.mem_replicate] at h1;unfold bm;rcases h1 with h1 | h1 <;> omega
 ·exact h
theorem Ar.kL {A:Ar} (h:A.ok) {i n:Int} (hn:0<=n) (hw:A.whole i n=true):0<=i/\i+n<A.ws.length:=by
 unfold Ar.whole at hw;simp only [Bool.or_eq_true,Zr] at hw;rcases hw with ⟨h1,h2⟩ | ⟨h1,h2⟩
 ·exact ⟨(h.mS h1).1,(h.mS h2).2⟩
 ·exact ⟨(h.qM h1).1,(h.qM h2).2⟩
theorem Ar.ok.copy {A:Ar} (h:A.ok) (i:Int):(A.copy i).2.ok:=by
 unfold Ar.copy;dsimp only;split
 ·rename_i hc;have hf:=A.aQ i;have hs:=Ar.kL h hf.1 hc.2.1;have:=h.h1;have:=h.h2;have:=h.h3;have:=h.h4;have hl:((A.ws.drop i.toNat).take (1+(A.ah i).2.1).toNat).length=(1+(A.ah i).2.1).toNat:=by simp;omega
  have hlay:(lay A.ws A.grn ((A.ws.drop i.toNat).take (1+(A.ah i).2.1).toNat)).length=A.ws.length:=dW (by omega);refine ⟨h.h1,?_,?_,?_,λx hx=>?_⟩
  ·show A.nur<=A.grn+_;omega
  ·show A.grn+_<=(lay _ _ _).length;rw [hlay];omega
  ·show (lay _ _ _).length<=1280;rw [hlay];exact h.h4
  ·rcases pt hx with h1 | h1
   ·exact h.hw x h1
   ·exact h.hw x (List.mem_of_mem_drop (List.mem_of_mem_take h1))
 ·exact h
theorem Ar.ok.clear {A:Ar} (h:A.ok):A.clear.ok:=⟨Zc _,h.h2,h.h3,h.h4,h.hw⟩
theorem Ar.ok.cut {A:Ar} (h:A.ok) {n:Nat} (hn:A.nur+n<=A.ws.length):(A.cut n).ok:=⟨h.h1,Nat.le_add_right _ _,hn,h.h4,h.hw⟩
def Ar.fits (n o:Int):Bool:=decide (16<=n) && decide (n<=256) && decide (0<=o) && decide (o<=1024)
def Ar.new (n o:Int):Ar:=⟨List.replicate (n+o).toNat 0,n.toNat,0,n.toNat⟩
theorem Ar.ki {n o:Int} (h:Ar.fits n o=true):(Ar.new n o).ok:=by
 simp [Ar.fits] at h;refine ⟨Zc _,Zb _,?_,?_,λx hx=>?_⟩
 ·simp [Ar.new];omega
 ·simp [Ar.new];omega
 ·simp [Ar.new] at hx;unfold bm;omega
def Ar.list (A:Ar):Nat->Int->Int->List Int
 | 0,_,_=>[]
 | n+1,at_,e_=>if at_<e_ then (if (A.ah at_).2.2=0 then at_ :: A.list n (at_+1+(A.ah at_).2.1) e_ else []) else []
theorem Ar.ia (A:Ar):∀ (n:Nat) (i j:Int),(A.list n i j).length<=n
 | 0,_,_=>Zb _
 | n+1,i,j=>by
  unfold Ar.list;split
  ·split
   ·simp;exact A.ia n _ _
   ·exact Zc _
  ·exact Zc _
theorem Ar.sC {A:Ar} {n:Nat} {i j:Int} (h:i<j) (hc:(A.ah i).2.2=0):A.list (n+1) i j=i :: A.list n (i+1+(A.ah i).2.1) j:=by
 rw [Ar.list,if_pos h,if_pos hc]
theorem Ar.pW {A:Ar} {n:Nat} {i j:Int} (h:¬ (i<j/\(A.ah i).2.2=0)):A.list n i j=[]:=by
 cases n with
 | zero=>rfl
 | succ n=>
  rw [Ar.list];by_cases h1:i<j
  ·rw [if_pos h1,if_neg (λh2=>h ⟨h1,h2⟩)]
  ·rw [if_neg h1]
def Ar.aO (A:Ar):List Int × List Int:=(A.list 1300 0 A.yng,A.list 1300 A.nur A.grn)
end
section
open Go.RowKit
structure bH (w:World) (p g:Nat) (A:Ar):Prop where
 hp:ak w p [.slice (some ⟨g,0,none⟩) A.ws.length A.ws.length, .int .i64 A.nur, .int .i64 A.yng, .int .i64 A.grn] 162
 hg:ak w g (A.ws.map (Value.int .i64)) 2
 ok:A.ok
theorem bH.ne {w:World} {p g:Nat} {A:Ar} (h:bH w p g A):p≠g:=h.hp.ne h.hg (by decide)
theorem bH.ab {w w':World} {p g:Nat} {A:Ar} {S:Nat->Prop} (h:bH w p g A) (k:aa S w w') (h1:¬ S p) (h2:¬ S g):bH w' p g A:=
 ⟨k.au h.hp h1,k.au h.hg h2,h.ok⟩
theorem bH.cells {w:World} {p g:Nat} {A:Ar} (h:bH w p g A) :
  w.cell? ⟨p,0,none⟩=some (.slice (some ⟨g,0,none⟩) A.ws.length A.ws.length)/\w.cell? ⟨p,1,none⟩=some (.int .i64 A.nur)/\w.cell? ⟨p,2,none⟩=some (.int .i64 A.yng)/\w.cell? ⟨p,3,none⟩=some (.int .i64 A.grn):=
 ⟨h.hp.cell 0,h.hp.cell 1,h.hp.cell 2,h.hp.cell 3⟩
theorem bH.word {w:World} {p g:Nat} {A:Ar} (h:bH w p g A) (i:Nat) (hi:i<A.ws.length):w.cell? ⟨g,i,none⟩=some (.int .i64 (A.ws.getD i 0)):=by
 rw [h.hg.cell i,Zw,Le hi];simp [List.getD,hi]
structure aU (w:World) (p g:Nat) (w':World) (A:Ar):Prop where
 at_:bH w' p g A
 k:aa (λb=>b=p\/b=g) w w'
section
variable {p g:Nat} {A:Ar}
theorem cT (i:Int) (w:World) (h:bH w p g A) :
  Calls Tryz.prog 66 #[.pointer (some ⟨p,0,none⟩), .int .i64 i] w λe w'=>e=.returned (.bool (A.aA i))/\w=w':=by
 obtain ⟨c0,c1,c2,c3⟩:=h.cells;have pl:=h.hp.lt;have HY:Hd (A.aA i=(decide (0<=i) && decide (i<A.yng))):=rfl;clear h c0 c1 c3;by_cases hi:0<=i
 ·have hd:decide (0<=i)=true:=by simpa using hi
  have HX:=Hz (show A.aA i=decide (i<(A.yng:Int)) by rw [HY.o,hd];rfl);clear HY;go_enter Tryz.func66,Tryz.ntmps66;go_wp2_with fail;go_ret;exact ⟨de HX.o.symm,rfl⟩
 ·have hd:decide (0<=i)=false:=by simpa using hi
  have HX:=Hz (show A.aA i=false by rw [HY.o,hd];rfl);clear HY;go_enter Tryz.func66,Tryz.ntmps66;go_wp2_with fail;go_ret;exact ⟨de HX.o.symm,rfl⟩
theorem iR (i:Int) (w:World) (h:bH w p g A) :
  Calls Tryz.prog 67 #[.pointer (some ⟨p,0,none⟩), .int .i64 i] w λe w'=>e=.returned (.bool (A.aK i))/\w=w':=by
 obtain ⟨c0,c1,c2,c3⟩:=h.cells;have pl:=h.hp.lt;have HY:Hd (A.aK i=(decide ((A.nur:Int)<=i) && decide (i<A.grn))):=rfl;clear h c0 c2;by_cases hi:(A.nur:Int)<=i
 ·have hd:decide ((A.nur:Int)<=i)=true:=by simpa using hi
  have HX:=Hz (show A.aK i=decide (i<(A.grn:Int)) by rw [HY.o,hd];rfl);clear HY;go_enter Tryz.func67,Tryz.ntmps67;go_wp2_with fail;go_ret;exact ⟨de HX.o.symm,rfl⟩
 ·have hd:decide ((A.nur:Int)<=i)=false:=by simpa using hi
  have HX:=Hz (show A.aK i=false by rw [HY.o,hd];rfl);clear HY;go_enter Tryz.func67,Tryz.ntmps67;go_wp2_with fail;go_ret;exact ⟨de HX.o.symm,rfl⟩
theorem mF (w:World) (h:bH w p g A) :
  Calls Tryz.prog 45 #[.pointer (some ⟨p,0,none⟩)] w λe w'=>e=.returned (.tuple #[.int .i64 A.yng, .int .i64 ((A.grn-A.nur:Nat):Int)])/\aa (λ_=>False) w w':=by
 obtain ⟨c0,c1,c2,c3⟩:=h.cells;have pl:=h.hp.lt;have o1:=h.ok.h1;have o2:=h.ok.h2;have o3:=h.ok.h3;have o4:=h.ok.h4;have hs:IntKind.i64.wrap ((A.grn:Int)-A.nur)=(A.grn:Int)-A.nur:=IntWalk.i64_in _ (by omega);go_enter Tryz.func45,Tryz.ntmps45;go_wp2_with fail;refine a6 (ftq [0,1,2,4,5,6,8,9,10] (.pure 3 (.free 13 (.pure 7 (.pure 11 (.free 12 (.free 14 (.fin)))))))) [] (Fz c1 (Fz c2 (Fa c3))) ?_
 iterate 15 refine Wz ?_
 refine av ?_;go_wp2_with fail;go_ret2;exact ⟨mE rfl (by omega),(aa.refl _ _).drew⟩
theorem kj (w:World) (h:bH w p g A) :
  Calls Tryz.prog 70 #[.pointer (some ⟨p,0,none⟩)] w λe w'=>e=.returned (.tuple #[.int .i64 ((A.nur-A.yng:Nat):Int), .int .i64 ((A.ws.length-A.grn:Nat):Int)])/\aa (λ_=>False) w w':=by
 obtain ⟨c0,c1,c2,c3⟩:=h.cells;have pl:=h.hp.lt;have o1:=h.ok.h1;have o2:=h.ok.h2;have o3:=h.ok.h3;have o4:=h.ok.h4;have hs:IntKind.i64.wrap ((A.nur:Int)-A.yng)=(A.nur:Int)-A.yng:=IntWalk.i64_in _ (by omega);have hs2:IntKind.i64.wrap ((A.ws.length:Int)-A.grn)=(A.ws.length:Int)-A.grn:=IntWalk.i64_in _ (by omega);go_enter Tryz.func70,Tryz.ntmps70;go_wp2_with fail;refine a6 (ftq [0,1,2,4,5,6,9,10,11,14,15,16] (.pure 3 (.pure 7 (.free 8 (.free 19 (.pure 12 (.free 13 (.pure 17 (.free 18 (.free 20 (.fin))))))))))) [] (Fz c0 (Fz c1 (Fz c2 (Fa c3)))) ?_
 iterate 21 refine Wz ?_
 refine av ?_;go_wp2_with fail;go_ret2;exact ⟨mE (by omega) (by omega),(aa.refl _ _).drew⟩
theorem eW (i:Int) (w:World) (h:bH w p g A) :
  Calls Tryz.prog 65 #[.pointer (some ⟨p,0,none⟩), .int .i64 i] w λe w'=>e=.returned (.int .i64 (A.load i))/\w=w':=by
 have H:=Hz h;obtain ⟨c0,-,-,-⟩:=h.cells;have pl:=h.hp.lt;have hok:=h.ok;cases hy:A.aA i
 ·cases ho:A.aK i
  ·have HX:=Hz (show A.load i=0 by unfold Ar.load Ar.aM;rw [hy,ho];rfl);clear h c0;go_enter Tryz.func65,Tryz.ntmps65;go_wp2_with fail;refine (cT i _ H.o).mono ?_;rintro e w1 ⟨rfl,rfl⟩;rw [hy];go_wp2_with fail;refine (iR i _ H.o).mono ?_;rintro e w1 ⟨rfl,rfl⟩;rw [ho];go_wp2_with fail;go_ret;exact ⟨cS HX.o.symm,rfl⟩
  ·have hlt:=h.ok.qM ho;have HX:=Hz (show A.load i=A.ws.getD i.toNat 0 by unfold Ar.load Ar.aM;rw [hy,ho];rfl);obtain ⟨n,rfl⟩:∃ n:Nat,i=n:=⟨i.toNat,by omega⟩;have c4:=h.word n (by omega);have hlt2:(n:Int)<A.ws.length:=hlt.2;clear h hlt;go_enter Tryz.func65,Tryz.ntmps65;go_wp2_with fail;refine (cT n _ H.o).mono ?_;rintro e w1 ⟨rfl,rfl⟩;rw [hy];go_wp2_with fail;refine (iR n _ H.o).mono ?_;rintro e w1 ⟨rfl,rfl⟩;rw [ho];go_wp2_with fail;go_ret;exact ⟨cS (by rw [HX.o];simp),rfl⟩
 ·have hlt:=h.ok.mS hy;have HX:=Hz (show A.load i=A.ws.getD i.toNat 0 by unfold Ar.load Ar.aM;rw [hy];rfl);obtain ⟨n,rfl⟩:∃ n:Nat,i=n:=⟨i.toNat,by omega⟩;have c4:=h.word n (by omega);have hlt2:(n:Int)<A.ws.length:=hlt.2;clear h hlt;go_enter Tryz.func65,Tryz.ntmps65;go_wp2_with fail;refine (cT n _ H.o).mono ?_;rintro e w1 ⟨rfl,rfl⟩;rw [hy];go_wp2_with fail;go_ret;exact ⟨cS (by rw [HX.o];simp),rfl⟩
theorem bH.set {w:World} (h:bH w p g A) {n:Nat} (x:Int) (hx:bm x) (hu:A.aM n=true):aU w p g (w.setCell ⟨g,n,none⟩ (.int .i64 x)) (A.store n x):=by
 have hs:A.store n x={ A with ws:=A.ws.set n x }:=by unfold Ar.store;rw [hu];simp
 refine ⟨⟨?_,?_,h.ok.store _ _ hx⟩,(aa.refl _ _).setCell (.inl (.inr rfl)) _⟩
 ·have:=h.hp.cj (a:=⟨g,n,none⟩) h.ne (.int .i64 x);rw [hs];simpa using this
 ·have:=h.hg.aE n (.int .i64 x);rw [hs,List.map_set];exact this
theorem gR (i x:Int) (w:World) (h:bH w p g A) (hx:bm x) :
  Calls Tryz.prog 58 #[.pointer (some ⟨p,0,none⟩), .int .i64 i, .int .i64 x] w λe w'=>e=.returned (.bool (A.aM i))/\aU w p g w' (A.store i x):=by
 have H:=Hz h;obtain ⟨c0,-,-,-⟩:=h.cells;have pl:=h.hp.lt;have HX:=Hz hx;clear hx;cases hu:A.aM i
 ·have hyo:=hu;unfold Ar.aM at hyo;rw [Bool.or_eq_false_iff] at hyo;obtain ⟨hy,ho⟩:=hyo;have HE:=Hz (show A.store i x=A by unfold Ar.store;rw [hu];rfl);clear h hu;go_enter Tryz.func58,Tryz.ntmps58;go_wp2_with fail;refine (cT i _ H.o).mono ?_;rintro e w1 ⟨rfl,rfl⟩;rw [hy];go_wp2_with fail;refine (iR i _ H.o).mono ?_;rintro e w1 ⟨rfl,rfl⟩;rw [ho];go_wp2_with fail;go_ret;exact ⟨rfl,by rw [HE.o];exact H.o,aa.refl _ _⟩
 ·have hlt:=h.ok.ju hu;have HU:=Hz hu;obtain ⟨n,rfl⟩:∃ n:Nat,i=n:=⟨i.toNat,by omega⟩;have c4:=h.word n (by omega);have f4:=h.hg.free n;have hlt2:(n:Int)<A.ws.length:=hlt.2;clear h hlt;cases hy:A.aA n
  ·have ho:A.aK n=true:=by
    unfold Ar.aM at hu;rw [hy] at hu;simpa using hu
   clear hu;go_enter Tryz.func58,Tryz.ntmps58;go_wp2_with fail;refine (cT n _ H.o).mono ?_;rintro e w1 ⟨rfl,rfl⟩;rw [hy];go_wp2_with fail;refine (iR n _ H.o).mono ?_;rintro e w1 ⟨rfl,rfl⟩;rw [ho];go_wp2_with fail;go_ret;exact ⟨rfl,H.o.set x HX.o HU.o⟩
  ·clear hu;go_enter Tryz.func58,Tryz.ntmps58;go_wp2_with fail;refine (cT n _ H.o).mono ?_;rintro e w1 ⟨rfl,rfl⟩;rw [hy];go_wp2_with fail;go_ret;exact ⟨rfl,H.o.set x HX.o HU.o⟩
theorem gS (i:Int) (w:World) (h:bH w p g A) :
  Calls Tryz.prog 96 #[.pointer (some ⟨p,0,none⟩), .int .i64 i] w λe w'=>e=.returned (.tuple #[.int .i64 (A.ah i).1, .int .i64 (A.ah i).2.1, .int .i64 (A.ah i).2.2])/\w=w':=by
 go_enter Tryz.func96,Tryz.ntmps96;go_wp2_with fail;refine (eW i _ h).mono ?_;rintro e w1 ⟨rfl,rfl⟩;have hr:=h.ok.load i;go_wp2_with fail;refine (AV (A.load i) _ hr.1 hr.2).mono ?_;rintro e w1 ⟨rfl,rfl⟩;go_wp2_with fail
 go_ret3
 exact ⟨rfl,rfl⟩
theorem tN (w:World) (h:bH w p g A) :
  Calls Tryz.prog 82 #[.pointer (some ⟨p,0,none⟩)] w λe w'=>e=.returned (.tuple #[])/\aU w p g w' A.clear:=by
 have H:=Hz h;obtain ⟨-,-,c2,-⟩:=h.cells;have f2:=h.hp.free 2;have pl:=h.hp.lt;clear h;go_enter Tryz.func82,Tryz.ntmps82;go_wp2_with fail;go_end0;refine ⟨rfl,⟨?_,?_,H.o.ok.clear⟩,(aa.refl _ _).setCell (.inl (.inl rfl)) _⟩
 ·simpa [Ar.clear] using H.o.hp.aE 2 (.int .i64 0)
 ·exact H.o.hg.cj (a:=⟨p,2,none⟩) (Ne.symm H.o.ne) _
theorem Cq (n:Nat) (w:World) (h:bH w p g A) (hn:A.nur+n<=A.ws.length) :
  Calls Tryz.prog 98 #[.pointer (some ⟨p,0,none⟩), .int .i64 n] w λe w'=>e=.returned (.tuple #[])/\aU w p g w' (A.cut n):=by
 have H:=Hz h;obtain ⟨-,c1,-,c3⟩:=h.cells;have f3:=h.hp.free 3;have pl:=h.hp.lt;have o4:=h.ok.h4;clear h;go_enter Tryz.func98,Tryz.ntmps98;go_wp2_with fail;go_end0;refine ⟨rfl,⟨?_,?_,H.o.ok.cut hn⟩,(aa.refl _ _).setCell (.inl (.inl rfl)) _⟩
 ·simpa [Ar.cut] using H.o.hp.aE 3 (.int .i64 ((A.nur:Int)+n))
 ·exact H.o.hg.cj (a:=⟨p,3,none⟩) (Ne.symm H.o.ne) _
end
end
section
open Go.RowKit
theorem oB {P:Program} {w:World} {o:Oper} {a:Act} {K:Act->World->Prop} (d s:Operand) (t:TypeId)
  (ho:o.op=.call { callee:=.builtin .copy,args:=#[d,s],argTypes:=#[t,t] })
  (e:TypeId) (hu:P.underlying t=some (.slice e)) (hsz:(P.info? e).map (·.size)=some 1)
  (g off dLen dCap:Nat) (ad:Addr) (sLen sCap:Nat) (hd:a.eval d=.slice (some ⟨g,off,none⟩) dLen dCap) (hs:a.eval s=.slice (some ad) sLen sCap)
  (cur:List Value) (hb:ak w g cur e) (cs:List Value) (hn:cs.length=Nat.min sLen dLen)
  (hsrc:∀ j v,cs[j]? = some v->w.cell? (ad.add j)=some v) (hfit:off+cs.length<=cur.length) (h1:∀ v ∈ cs,v.oneCell'=true)
  (h:K (a.put o.dst (goInt cs.length)) (w.setRow g (cur.take off ++ cs ++ cur.drop (off+cs.length)).toArray)):ax P o a w K:=by
 have hrun:=run_copy_row (P:=P) w t t o.type e g off dLen dCap ad sLen sCap cur.toArray e cs hu hsz hb hn hsrc (by simpa using hfit) h1;unfold ax execOp;simp only [ho,resolve,invoke,builtin,Sem.run_bind,Sem.run_pure,Result.andThen_ok,List.map_toArray,Zs,List.map_nil,hd,hs,hrun];exact h
theorem vR {l m:List Int} {i:Nat} (f:Int->Value):(lay l i m).map f=(l.map f).take i ++ m.map f ++ (l.map f).drop (i+(m.map f).length):=by
 unfold lay;simp [List.map_take,List.map_drop]
theorem AX {l:List Int} {i j:Nat} {h:Int} (hl:i+1+j<l.length):(lay l i (h :: List.replicate j 2)).set (i+1+j) 2=lay l i (h :: List.replicate (j+1) 2):=by
 apply List.ext_getElem?;intro k;have e1:(h :: List.replicate j (2:Int)).length=j+1:=by simp
 have e2:(h :: List.replicate (j+1) (2:Int)).length=j+2:=by simp
 have hl1:(lay l i (h :: List.replicate j 2)).length=l.length:=dW (by rw [e1];omega);rw [List.getElem?_set,rR (by rw [e1];omega),rR (by rw [e2];omega),e1,e2,hl1];by_cases hk:i+1+j=k
 ·subst hk;rw [if_pos rfl,if_pos hl,if_pos (by omega)];rw [show i+1+j-i=j+1 by omega,aB,List.getElem?_replicate,if_pos (by omega)]
 ·rw [if_neg hk];by_cases h2:i<=k/\k<i+(j+1)
  ·rw [if_pos h2,if_pos (by omega)];obtain ⟨m,rfl⟩:∃ m,k=i+m:=⟨k-i,by omega⟩;rw [show i+m-i=m by omega];cases m with
   | zero=>rfl
   | succ m=>rw [aB,aB,List.getElem?_replicate,List.getElem?_replicate,if_pos (by omega),if_pos (by omega)]
  ·rw [if_neg h2,if_neg (by omega)]
theorem AZ {l:List Int} {i:Nat} {h:Int} (hl:i<l.length):l.set i h=lay l i [h]:=by
 unfold lay;rw [List.set_eq_take_append_cons_drop,if_pos hl];simp
theorem aa.self {S:Nat->Prop} {w w':World} (h:aa (λ_=>False) w w'):aa S w w':=h.mono λ_ _ h=>h.elim
section
variable {p g:Nat} {A:Ar}
theorem aU.refl {w w':World} (h:bH w p g A) (k:aa (λ_=>False) w w'):aU w p g w' A:=⟨h.ab k (λh=>h) (λh=>h),k.self⟩
theorem aU.trans {w w1 w2:World} {B C:Ar} (h:aU w p g w1 B) (k:aU w1 p g w2 C):aU w p g w2 C:=⟨k.at_,h.k.trans k.k⟩
theorem vS (n:Int) (w:World) (h:bH w p g A) (h0:0<=n) (h1:n<=1000) :
  Calls Tryz.prog 142 #[.pointer (some ⟨p,0,none⟩), .int .i64 n, .bool false] w λe w'=>e=.returned (.int .i64 (A.pn n).1)/\aU w p g w' (A.pn n).2:=by
 have H:=Hz h;have o1:=h.ok.h1;have o2:=h.ok.h2;have o3:=h.ok.h3;have o4:=h.ok.h4;have hn:decide ((0:Int)<=n)=true:=by simpa using h0
 clear h;by_cases hc:n<=((A.nur-A.yng:Nat):Int)
 ·have hcb:decide (n<=((A.nur-A.yng:Nat):Int))=true:=by simpa using hc
  have HE:=Hz (show A.pn n=((A.yng:Int), { A with yng:=A.yng+n.toNat }) from if_pos ⟨h0,by omega⟩);go_enter Tryz.func142,Tryz.ntmps142;go_wp2_with fail;refine (kj _ H.o).mono ?_;rintro e w1 ⟨rfl,hk⟩;have H1:=Hz (H.o.ab hk (λh=>h) (λh=>h));have HK:=Hz hk;obtain ⟨-,-,c2,-⟩:=H1.o.cells;have f2:=H1.o.hp.free 2;have pl:=H1.o.hp.lt;clear hk;go_wp2_with fail;go_ret;refine ⟨by rw [HE.o];exact cS (by dsimp only;try omega),?_⟩;rw [HE.o];refine ⟨⟨?_,?_,?_⟩,(HK.o.self).setCell (p:=⟨p,2,none⟩) (.inl (.inl rfl)) _⟩
  ·have:=H1.o.hp.aE 2 (.int .i64 ((A.yng:Int)+n));have e:((A.yng:Int)+n)=((A.yng+n.toNat:Nat):Int):=by omega
   rw [e] at this ⊢;simpa using this
  ·exact H1.o.hg.cj (a:=⟨p,2,none⟩) (Ne.symm H.o.ne) _
  ·exact ⟨by show A.yng+n.toNat<=A.nur;omega,o2,o3,o4,H.o.ok.hw⟩
 ·have hcb:decide (n<=((A.nur-A.yng:Nat):Int))=false:=by simpa using hc
  have HE:=Hz (show A.pn n=(-1,A) from if_neg (by omega));go_enter Tryz.func142,Tryz.ntmps142;go_wp2_with fail;refine (kj _ H.o).mono ?_;rintro e w1 ⟨rfl,hk⟩;go_wp2_with fail;go_ret;refine ⟨by rw [HE.o];rfl,?_⟩;rw [HE.o];exact aU.refl H.o hk
theorem vT (n:Int) (w:World) (h:bH w p g A) (h0:0<=n) (h1:n<=1000) :
  Calls Tryz.prog 142 #[.pointer (some ⟨p,0,none⟩), .int .i64 n, .bool true] w λe w'=>e=.returned (.int .i64 (A.pq n).1)/\aU w p g w' (A.pq n).2:=by
 have H:=Hz h;have o1:=h.ok.h1;have o2:=h.ok.h2;have o3:=h.ok.h3;have o4:=h.ok.h4;have hn:decide ((0:Int)<=n)=true:=by simpa using h0
 clear h;by_cases hc:n<=((A.ws.length-A.grn:Nat):Int)
 ·have hcb:decide (n<=((A.ws.length-A.grn:Nat):Int))=true:=by simpa using hc
  have HE:=Hz (show A.pq n=((A.grn:Int), { A with grn:=A.grn+n.toNat }) from if_pos ⟨h0,by omega⟩);go_enter Tryz.func142,Tryz.ntmps142;go_wp2_with fail;refine (kj _ H.o).mono ?_;rintro e w1 ⟨rfl,hk⟩;have H1:=Hz (H.o.ab hk (λh=>h) (λh=>h));have HK:=Hz hk;obtain ⟨-,-,-,c2⟩:=H1.o.cells;have f2:=H1.o.hp.free 3;have pl:=H1.o.hp.lt;clear hk;go_wp2_with fail;go_ret;refine ⟨by rw [HE.o];exact cS (by dsimp only;try omega),?_⟩;rw [HE.o];refine ⟨⟨?_,?_,?_⟩,(HK.o.self).setCell (p:=⟨p,3,none⟩) (.inl (.inl rfl)) _⟩
  ·have:=H1.o.hp.aE 3 (.int .i64 ((A.grn:Int)+n));have e:((A.grn:Int)+n)=((A.grn+n.toNat:Nat):Int):=by omega
   rw [e] at this ⊢;simpa using this
  ·exact H1.o.hg.cj (a:=⟨p,3,none⟩) (Ne.symm H.o.ne) _
  ·exact ⟨o1,by show A.nur<=A.grn+n.toNat;omega,by show A.grn+n.toNat<=A.ws.length;omega,o4,H.o.ok.hw⟩
 ·have hcb:decide (n<=((A.ws.length-A.grn:Nat):Int))=false:=by simpa using hc
  have HE:=Hz (show A.pq n=(-1,A) from if_neg (by omega));go_enter Tryz.func142,Tryz.ntmps142;go_wp2_with fail;refine (kj _ H.o).mono ?_;rintro e w1 ⟨rfl,hk⟩;go_wp2_with fail;go_ret;refine ⟨by rw [HE.o];rfl,?_⟩;rw [HE.o];exact aU.refl H.o hk
theorem Cr (k f:Int) (w:World) (h:bH w p g A) (hf:bm f) :
  Calls Tryz.prog 114 #[.pointer (some ⟨p,0,none⟩), .int .i64 k, .int .i64 f, .bool false] w λe w'=>e=.returned (.int .i64 (A.make k f).1)/\aU w p g w' (A.make k f).2:=by
 have H:=Hz h;have o1:=h.ok.h1;have o2:=h.ok.h2;have o3:=h.ok.h3;have o4:=h.ok.h4;have HOK:=Hz (h.ok.make k f);have HF:=Hz hf;clear h hf;cases hfit:bj k f
 ·have HE:=Hz (Ar.vQ (A:=A) (k:=k) (f:=f) (by rw [hfit];simp));have hcode:=(qK hfit).2;clear hfit;go_enter Tryz.func114,Tryz.ntmps114;go_wp2_with fail;refine (oz k f _ HF.o.1 HF.o.2).mono ?_;rintro e w1 ⟨rfl,rfl⟩;go_wp2_with fail;go_ret;rw [HE.o];exact ⟨rfl,aU.refl H.o (aa.refl _ _)⟩
 ·have hs:=bL hfit;obtain ⟨n,rfl⟩:∃ n:Nat,f=n:=⟨f.toNat,by omega⟩;have hn:n<=12:=by omega
  have HH:=Hz (qL hfit);by_cases hroom:1+(n:Int)<=(A.nur:Int)-A.yng
  ·have HE:=Hz (show A.make k n=((A.yng:Int), { A with yng:=A.yng+(1+(n:Int)).toNat,ws:=lay A.ws A.yng (fE k n) }) from if_pos ⟨hfit,hroom⟩);have HT:=Hz (show A.pn (1+(n:Int))=((A.yng:Int), { A with yng:=A.yng+(1+(n:Int)).toNat }) from if_pos ⟨by omega,hroom⟩);have hk1:=hs.1;have hk2:=hs.2.1;clear hfit hs;go_enter Tryz.func114,Tryz.ntmps114;go_wp2_with fail;refine (oz k n _ HF.o.1 HF.o.2).mono ?_;rintro e w1 ⟨rfl,rfl⟩;rw [HH.o];go_wp2_with fail;refine (vS (1+(n:Int)) _ H.o (by omega) (by omega)).mono ?_;rintro e w2 ⟨rfl,hto⟩;rw [HT.o] at hto ⊢;dsimp only at hto ⊢;have HTO:=Hz hto;obtain ⟨c0,-,-,-⟩:=hto.at_.cells;have pl:=hto.at_.hp.lt;have gl:=hto.at_.hg.lt;have c4:=hto.at_.word A.yng (by dsimp only;omega);have f4:=hto.at_.hg.free A.yng;dsimp only at c0 c4;have hlt:(A.yng:Int)<A.ws.length:=by omega
   clear hto;go_wp2_with fail;have hb0:=HTO.o.at_.hg.aE A.yng (.int .i64 (16*(n:Int)+k));have hp0:=HTO.o.at_.hp.cj (a:=⟨g,A.yng,none⟩) H.o.ne (.int .i64 (16*(n:Int)+k));have hk0:=HTO.o.k.setCell (p:=⟨g,A.yng,none⟩) (.inl (.inr rfl)) (.int .i64 (16*(n:Int)+k));dsimp only at hb0 hp0;rw [<-List.map_set,AZ (by omega)] at hb0;generalize w2.setCell ⟨g,A.yng,none⟩ (.int .i64 (16*(n:Int)+k))=w3 at *;have HB0:=Hz hb0;have HP0:=Hz hp0;have HK0:=Hz hk0;clear hb0 hp0 hk0 c0 c4 f4 HTO;go_loopw [36] (λi wr=>∃ j:Nat,j<=n/\i=.int .i64 j/\ak wr g ((lay A.ws A.yng ((16*(n:Int)+k) :: List.replicate j 2)).map (Value.int .i64)) 2/\aa (λb=>b=g) w3 wr) (λi _=>n-(intOf i).toNat)
   case atStart=>exact ⟨0,Zc _,rfl,HB0.o,aa.refl _ _⟩
   case round=>
    obtain ⟨j,hj,rfl,hb,hk⟩:=hrel;have HB:=Hz hb;have HK:=Hz hk;have hpr:=hk.au HP0.o H.o.ne;have c0:=hpr.cell 0;have pl:=hpr.lt;have gl:=hb.lt;simp only [Lz] at c0;have HPR:=Hz hpr;by_cases hlt2:j<n
    ·have f4:=hb.free (A.yng+1+j);have c4:∃ v,wr.cell? ⟨g,A.yng+1+j,none⟩=some v:=by
      have hl:(lay A.ws A.yng ((16*(n:Int)+k) :: List.replicate j 2)).length=A.ws.length:=dW (by simp;omega);rw [hb.cell,Zw,Le (by rw [hl];omega)];exact ⟨_,rfl⟩
     obtain ⟨v4,c4⟩:=c4;have hix:(A.yng:Int)+1+j<A.ws.length:=by omega
     have hw1:IntKind.i64.wrap ((A.yng:Int)+1)=(A.yng:Int)+1:=IntWalk.i64_in _ (by omega);have hw2:IntKind.i64.wrap ((A.yng:Int)+1+j)=(A.yng:Int)+1+j:=IntWalk.i64_in _ (by omega);have hw3:((A.yng:Int)+1+j).toNat=A.yng+1+j:=by omega
     have hw4:(0:Int)<=(A.yng:Int)+1+j:=by omega
     clear hb hk hpr;go_wp2_with fail;refine a6 (ftq [0,1,2,4,5,6,7] (.pure 3 (.run 8 (.free 9 (.run 10 (.swi [] (.fin))))))) [10] (Fa c0) ?_
     iterate 8 refine Wz ?_
     refine aN rfl rfl (λK hK=>?_);unfold ax;go_simp;refine (wV _).mono ?_;rintro e w5 ⟨rfl,rfl⟩;refine hK _ _ (λhg=>c0) ?_;clear hK K;refine Wz ?_;refine aD rfl rfl rfl (λK hK=>?_);unfold ax;go_simp;refine hK _ _ ?_;clear hK K;refine aC (λ_=>True) trivial (av ?_);clear hw1 hw2 hw3 hw4;have hset:=AX (l:=A.ws) (i:=A.yng) (j:=j) (h:=16*(n:Int)+k) (by omega);have bG:ak (wr.setCell ⟨g,A.yng+1+j,none⟩ (.int .i64 2)) g ((lay A.ws A.yng ((16*(n:Int)+k) :: List.replicate (j+1) 2)).map (Value.int .i64)) 2:=by
      rw [<-hset,List.map_set];exact HB.o.aE _ _
     have HB2:=Hz bG;have HK2:=Hz (HK.o.setCell (p:=⟨g,A.yng+1+j,none⟩) (.inl rfl) (.int .i64 2));clear hset bG c0 c4 f4;go_wp2_with fail;go_roundw
     case rel=>exact ⟨j+1,by omega,by go_num,HB2.o.drew,HK2.o.drew⟩
     case measure=>simp [intOf];omega
    ·obtain rfl:j=n:=by omega
     clear hb hk hpr;go_wp2_with fail;go_ret;have hok:=HOK.o;rw [HE.o] at hok ⊢;have hl:(lay A.ws A.yng (fE k j)).length=A.ws.length:=dW (by rw [kB (by omega)];omega);refine ⟨rfl,⟨?_,HB.o,hok⟩,HK0.o.trans (HK.o.mono λ_ _ h=>.inr h)⟩;have:=HPR.o;dsimp only;rw [hl];exact this
  ·have HE:=Hz (Ar.vQ (A:=A) (k:=k) (f:=n) (λh=>hroom h.2));have HT:=Hz (show A.pn (1+(n:Int))=(-1,A) from if_neg (λh=>hroom h.2));clear hfit hs hroom;go_enter Tryz.func114,Tryz.ntmps114;go_wp2_with fail;refine (oz k n _ HF.o.1 HF.o.2).mono ?_;rintro e w1 ⟨rfl,rfl⟩;rw [HH.o];go_wp2_with fail;refine (vS (1+(n:Int)) _ H.o (by omega) (by omega)).mono ?_;rintro e w2 ⟨rfl,hto⟩;rw [HT.o] at hto ⊢;dsimp only at hto ⊢;go_wp2_with fail;go_ret;rw [HE.o];exact ⟨rfl,hto⟩
theorem Cs (k f:Int) (w:World) (h:bH w p g A) (hf:bm f) :
  Calls Tryz.prog 57 #[.pointer (some ⟨p,0,none⟩), .int .i64 k, .int .i64 f] w λe w'=>e=.returned (.int .i64 (A.make k f).1)/\aU w p g w' (A.make k f).2:=by
 go_enter Tryz.func57,Tryz.ntmps57;go_wp2_with fail;refine (Cr k f _ h hf).mono ?_;rintro e w1 ⟨rfl,hto⟩;go_wp2_with fail;go_ret;exact ⟨rfl,hto⟩
end
end
section
open Go.RowKit
theorem lz {l:List Int}:∀ u ∈ l.map (Value.int .i64),u.oneCell'=true:=by
 intro u hu;simp only [List.mem_map] at hu;obtain ⟨x,-,rfl⟩:=hu;rfl
section
variable {p g:Nat} {A:Ar}
theorem A0 (i:Int) (w:World) (h:bH w p g A) :
  Calls Tryz.prog 122 #[.pointer (some ⟨p,0,none⟩), .int .i64 i] w λe w'=>e=.returned (.int .i64 (A.copy i).1)/\aU w p g w' (A.copy i).2:=by
 have H:=Hz h;have o1:=h.ok.h1;have o2:=h.ok.h2;have o3:=h.ok.h3;have o4:=h.ok.h4;have HOK:=Hz (h.ok.copy i);have hfl:=A.aQ i;have HU:=Hz (A.oA (i:=i));have HUL:=Hz (h.ok.ju (i:=i));have HNO:=Hz (Ar.AW (A:=A) (i:=i));have HYES:=Hz (Ar.tM (A:=A) (i:=i));have HWS:=Hz (Ar.kL h.ok (i:=i) (n:=(A.ah i).2.1) hfl.1);clear h;obtain ⟨⟨k,n,c⟩,hT⟩:∃ t,A.ah i=t:=⟨_,rfl⟩;rw [hT] at hfl HU HNO HYES HWS;dsimp only at hfl HU HNO HYES HWS;have HT:=Hz hT;clear hT;obtain ⟨n,rfl⟩:∃ q:Nat,n=q:=⟨n.toNat,by omega⟩;have hn:n<=12:=by omega
 clear hfl;go_enter Tryz.func122,Tryz.ntmps122;go_wp2_with fail;refine (gS i _ H.o).mono ?_;rintro e w1 ⟨rfl,rfl⟩;rw [HT.o];dsimp only;by_cases hc:c=0
 ·subst hc;have hu:=HUL.o (HU.o rfl);obtain ⟨m,rfl⟩:∃ m:Nat,i=m:=⟨i.toNat,by omega⟩;have hm:m<1280:=by omega
  have HW:Hd (A.whole m n=((A.aA m && A.aA ((m:Int)+n)) || (A.aK m && A.aK ((m:Int)+n)))):=rfl;have HYO:Hd (A.aA m=true->A.aK m=false):=λh=>by
   simp [Ar.aA] at h;simp [Ar.aK];omega
  clear hu;go_upto_region 2 with fail
  go_cut [42] (λv wx=>v=.bool (!A.whole m n)/\wx=w)
  case first=>
   cases hy:A.aA m
   ·cases ho:A.aK m
    ·have HX:=Hz (show A.whole m n=false by rw [HW.o,hy,ho];rfl);go_wp2_with fail;refine (cT m _ H.o).mono ?_;rintro e w1 ⟨rfl,rfl⟩;rw [hy];go_wp2_with fail;refine (iR m _ H.o).mono ?_;rintro e w1 ⟨rfl,rfl⟩;rw [ho];go_wp2_with fail
     go_meet
     exact ⟨by rw [HX.o];rfl,rfl⟩
    ·have HX:=Hz (show A.whole m n=A.aK ((m:Int)+n) by rw [HW.o,hy,ho];simp);go_wp2_with fail;refine (cT m _ H.o).mono ?_;rintro e w1 ⟨rfl,rfl⟩;rw [hy];go_wp2_with fail;refine (iR m _ H.o).mono ?_;rintro e w1 ⟨rfl,rfl⟩;rw [ho];go_wp2_with fail;refine (iR ((m:Int)+n) _ H.o).mono ?_;rintro e w1 ⟨rfl,rfl⟩;rw [<-HX.o];go_wp2_with fail
     go_meet
     exact ⟨rfl,rfl⟩
   ·have ho:=HYO.o hy;cases hy2:A.aA ((m:Int)+n)
    ·have HX:=Hz (show A.whole m n=false by rw [HW.o,hy,hy2,ho];simp);go_wp2_with fail;refine (cT m _ H.o).mono ?_;rintro e w1 ⟨rfl,rfl⟩;rw [hy];go_wp2_with fail;refine (cT ((m:Int)+n) _ H.o).mono ?_;rintro e w1 ⟨rfl,rfl⟩;rw [hy2];go_wp2_with fail;refine (iR m _ H.o).mono ?_;rintro e w1 ⟨rfl,rfl⟩;rw [ho];go_wp2_with fail
     go_meet
     exact ⟨by rw [HX.o];rfl,rfl⟩
    ·have HX:=Hz (show A.whole m n=true by rw [HW.o,hy,hy2];simp);go_wp2_with fail;refine (cT m _ H.o).mono ?_;rintro e w1 ⟨rfl,rfl⟩;rw [hy];go_wp2_with fail;refine (cT ((m:Int)+n) _ H.o).mono ?_;rintro e w1 ⟨rfl,rfl⟩;rw [hy2];go_wp2_with fail
     go_meet
     exact ⟨by rw [HX.o];rfl,rfl⟩
  case rest=>
   obtain ⟨rfl,rfl⟩:=hcut;cases hw:A.whole m n
   ·have HE:=Hz (HNO.o (by rw [hw];simp));go_wp2_with fail;go_ret;exact ⟨by rw [HE.o];rfl,by rw [HE.o];exact aU.refl H.o (aa.refl _ _)⟩
   ·have hws:=HWS.o hw;by_cases hroom:1+(n:Int)<=(A.ws.length:Int)-A.grn
    ·have HE:=Hz (HYES.o ⟨rfl,hw,hroom⟩);have HTK:=Hz (show A.pq (1+(n:Int))=((A.grn:Int), { A with grn:=A.grn+(1+(n:Int)).toNat }) from if_pos ⟨by omega,hroom⟩);go_wp2_with fail;refine (vT (1+(n:Int)) _ H.o (by omega) (by omega)).mono ?_;rintro e w2 ⟨rfl,hto⟩;rw [HTK.o] at hto ⊢;dsimp only at hto ⊢;have HTO:=Hz hto;obtain ⟨c0,-,-,-⟩:=hto.at_.cells;have pl:=hto.at_.hp.lt;have gl:=hto.at_.hg.lt;dsimp only at c0;clear hto;have hw1:IntKind.i64.wrap ((A.grn:Int)+1)=(A.grn:Int)+1:=IntWalk.i64_in _ (by omega);have hw2:IntKind.i64.wrap ((A.grn:Int)+1+n)=(A.grn:Int)+1+n:=IntWalk.i64_in _ (by omega);have hw3:IntKind.i64.wrap ((m:Int)+1)=(m:Int)+1:=IntWalk.i64_in _ (by omega);have hw4:IntKind.i64.wrap ((m:Int)+1+n)=(m:Int)+1+n:=IntWalk.i64_in _ (by omega);have b1:(A.grn:Int)<=(A.grn:Int)+1+n:=by omega
     have b2:(A.grn:Int)+1+n<=(A.ws.length:Int):=by omega
     have b3:(m:Int)<=(m:Int)+1+n:=by omega
     have b4:(m:Int)+1+n<=(A.ws.length:Int):=by omega
     have b5:(0:Int)<=(A.grn:Int)+1+n:=by omega
     have b6:(0:Int)<=(m:Int)+1+n:=by omega
     have b7:((A.grn:Int)+1+n).toNat=A.grn+1+n:=by omega
     have b8:((m:Int)+1+n).toNat=m+1+n:=by omega
     have q1:¬ A.ws.length=A.grn:=by omega
     have q2:¬ A.ws.length=m:=by omega
     go_wp2_with fail;refine a6 (ftq [0,1,2,4,5,6,7,8,10,11,12,14,15,16,17,18] (.pure 3 (.free 9 (.pure 13 (.free 19 (.run 20 (.swi [] (.fin)))))))) [20] (Fa c0) ?_
     iterate 20 refine Wz ?_
     clear hw1 hw2 hw3 hw4 b1 b2 b3 b4 b5 b6 b7 b8;have hcl:(((A.ws.drop m).take (1+n)).map (Value.int .i64)).length=1+n:=by simp;omega
     have hfit:A.grn+(1+n)<=A.ws.length:=by omega
     have HCL:=Hz hcl;clear hcl;refine aD rfl rfl rfl (λK hK=>?_);refine oB (.tmp 58) (.tmp 68) 73 rfl 2 Tryz.underlying73 (by kernel_rfl) g A.grn _ _ ⟨g,m,none⟩ _ _ (by rfl) (by rfl) (A.ws.map (Value.int .i64)) HTO.o.at_.hg.drew (((A.ws.drop m).take (1+n)).map (Value.int .i64)) ?hn ?hsrc ?hfit lz ?_
     case hn=>rw [HCL.o];show 1+n=min _ _;omega
     case hsrc=>
      intro j v hj;have hlt:=(Zj.1 hj).1;rw [HCL.o] at hlt;have hg:=HTO.o.at_.hg.cell (m+j);dsimp only at hg;rw [fw]
      show w2.cell? ⟨g,m+j,none⟩=some v
      rw [hg,<-hj];simp only [Zw,List.getElem?_take,List.getElem?_drop,if_pos hlt]
     case hfit=>rw [HCL.o];simpa using hfit
     refine hK _ _ ?_;clear hK K;have hb5:ak (w2.drew.setRow g ((A.ws.map (Value.int .i64)).take A.grn ++ ((A.ws.drop m).take (1+n)).map (Value.int .i64) ++ (A.ws.map (Value.int .i64)).drop (A.grn+(((A.ws.drop m).take (1+n)).map (Value.int .i64)).length)).toArray) g ((lay A.ws A.grn ((A.ws.drop m).take (1+n))).map (Value.int .i64)) 2:=by
      rw [vR];exact ak.setRow (w:=w2.drew) HTO.o.at_.hg.drew _
     have hp5:=HTO.o.at_.hp.drew.mn H.o.ne ((A.ws.map (Value.int .i64)).take A.grn ++ ((A.ws.drop m).take (1+n)).map (Value.int .i64) ++ (A.ws.map (Value.int .i64)).drop (A.grn+(((A.ws.drop m).take (1+n)).map (Value.int .i64)).length)).toArray;have hk5:=(HTO.o.k.drew).setRow (g:=g) (.inl (.inr rfl)) ((A.ws.map (Value.int .i64)).take A.grn ++ ((A.ws.drop m).take (1+n)).map (Value.int .i64) ++ (A.ws.map (Value.int .i64)).drop (A.grn+(((A.ws.drop m).take (1+n)).map (Value.int .i64)).length)).toArray;dsimp only at hp5;generalize w2.drew.setRow g _=w5 at *;have HB5:=Hz hb5;have HP5:=Hz hp5;have HK5:=Hz hk5;clear hb5 hp5 hk5;refine aC (λ_=>True) trivial (av ?_);go_wp2_with fail;go_ret;have hok:=HOK.o;rw [HE.o] at hok ⊢;have ho2:lay A.ws A.grn ((A.ws.drop ((m:Int)).toNat).take (1+(n:Int)).toNat)=lay A.ws A.grn ((A.ws.drop m).take (1+n)):=by
      rw [show ((m:Int)).toNat=m by omega,show (1+(n:Int)).toNat=1+n by omega]
     have hl:(lay A.ws A.grn ((A.ws.drop m).take (1+n))).length=A.ws.length:=dW (by have:=HCL.o;simp only [Zp] at this;omega);refine ⟨rfl,⟨?_,?_,hok⟩,HK5.o⟩
     ·dsimp only;rw [ho2,hl];exact HP5.o
     ·dsimp only;rw [ho2];exact HB5.o
    ·have HE:=Hz (HNO.o (λh=>hroom h.2.2));have HTK:=Hz (show A.pq (1+(n:Int))=(-1,A) from if_neg (λh=>hroom h.2));go_wp2_with fail;refine (vT (1+(n:Int)) _ H.o (by omega) (by omega)).mono ?_;rintro e w2 ⟨rfl,hto⟩;rw [HTK.o] at hto ⊢;dsimp only at hto ⊢;go_wp2_with fail;go_ret;exact ⟨by rw [HE.o];rfl,by rw [HE.o];exact hto⟩
 ·have HE:=Hz (HNO.o (λh=>hc h.1));have hcb:(c != 0)=true:=by simpa using hc
  clear hc;go_wp2_with fail;go_ret;exact ⟨by rw [HE.o];rfl,by rw [HE.o];exact aU.refl H.o (aa.refl _ _)⟩
end
end
section
open Go.RowKit
theorem pX:(Tryz.prog.info? 2).map (λi=>(i.zero,i.size,i.bytes))=some (some (.int .i64 0),1,8):=by kernel_rfl
theorem ic:(Tryz.prog.info? 3).map (λi=>(i.zero,i.size,i.bytes))=some (some (.int .i64 0),1,8):=by kernel_rfl
theorem b9 {k:Nat} (h:aq (.slice none 0 0) k):False:=by simp [aq,Value.ownBlock] at h
def px (T:TypeId) (w:World) (e:Ending) (w':World) (l:List Int):Prop:=
 ∃ ao cap,e=.returned (.slice ao l.length cap)/\Sl w' T 1 (.slice ao l.length cap) l.length (l.map (Value.int .i64))/\aa (λ_=>False) w w'/\∀ k,aq (.slice ao l.length cap) k->w.heap.size<=k
theorem ze (a:Addr) (cap:Nat) (l:List Int) (w:World) (h:Rd w (some a) (l.map (Value.int .i64))) (hl:l.length<=1000000) :
  Calls Tryz.prog 130 #[.slice (some a) l.length cap] w λe w'=>px 2 w e w' l:=by
 obtain ⟨i0,hi,hz0,hz1,hz2⟩:=info_parts pX;have Hi:=Hz hi;have Hz0:=Hz hz0;have Hz1:=Hz hz1;have Hz2:=Hz hz2;clear hi hz0 hz1 hz2;have hne:=λ(wx:World)=>Lib.run_eql_slice_nil (P:=Tryz.prog) wx 73 2 (some a) l.length cap 0 0 Tryz.underlying73;go_enter Tryz.func130,Tryz.ntmps130;go_wp2_with (at_builtin;refine mq rfl (.tmp 5) (.tmp 6) 73 rfl 2 i0 (.int .i64 0) 1 8 Tryz.underlying73 Hi.o Hz0.o Hz1.o Hz2.o rfl (by decide) _ 0 [] rfl ⟨rfl, .inr ⟨w.heap.size,0,0,[],rfl,ak.newAt _ rfl rfl,Zb _,Zc _,by simp,by simp⟩⟩ (some a) l.length cap (l.map (Value.int .i64)) rfl (by simp) (h.ab ((Kz w).alloc _) (λ_ _ _ h=>h)) lz (by unfold maxLen;omega) (by omega) ?_);intro v2 w2 hs2 hk2 ho2;go_wp2_with fail;go_ret;obtain ⟨ao,c2,rfl,_,_,_⟩:=hs2.rd;refine ⟨ao,c2,rfl,hs2,((Kz w).alloc _).then hk2 (λj hj=>by simp [aq,Value.ownBlock] at hj;exact .inr (by omega)),λj hj=>?_⟩;rcases ho2 j hj with h | h
 ·simp [aq,Value.ownBlock] at h;omega
 ·first | omega | (simp at h;omega)
def zh (w:World) (n o:Int) (e:Ending) (w':World):Prop:=
 ∃ p g,e=.returned (.tuple #[.pointer (some ⟨p,0,none⟩), .agg #[.int .i64 0, .int .i64 0]])/\bH w' p g (Ar.new n o)/\aa (λ_=>False) w w'/\w.heap.size<=p/\w.heap.size<=g
section
variable {p g:Nat} {A:Ar}
theorem A4 (w:World) (h:bH w p g A) :
  Calls Tryz.prog 83 #[.pointer (some ⟨p,0,none⟩)] w λe w'=>px 2 w e w' A.ws:=by
 have H:=Hz h;obtain ⟨c0,-,-,-⟩:=h.cells;have pl:=h.hp.lt;have o4:=h.ok.h4;clear h;go_enter Tryz.func83,Tryz.ntmps83;go_wp2_with fail;refine (ze ⟨g,0,none⟩ A.ws.length A.ws _ (Rd.au H.o.hg 0 _ (by simp only [List.drop_zero,List.take_length])) (by omega)).mono ?_;rintro e w1 ⟨ao,cap,rfl,hs,hk,ho⟩;go_wp2_with fail;go_ret;exact ⟨ao,cap,rfl,hs,hk,ho⟩
theorem A5 (n o:Int) (w:World) (h:Ar.fits n o=false) :
  Calls Tryz.prog 52 #[.int .i64 n, .int .i64 o] w λe w'=>e=.returned (.tuple #[.pointer none, .agg #[.int .i64 1, .int .i64 (-1)]])/\aa (λ_=>False) w w':=by
 have hc:n<16\/256<n\/o<0\/1024<o:=by
  by_cases h1:16<=n
  ·by_cases h2:n<=256
   ·by_cases h3:0<=o
    ·by_cases h4:o<=1024
     ·simp [Ar.fits,h1,h2,h3,h4] at h
     ·omega
    ·omega
   ·omega
  ·omega
 clear h;by_cases c1:n<16
 ·have d1:decide (n<16)=true:=by simpa using c1
  go_enter Tryz.func52,Tryz.ntmps52;go_wp2_with fail;exact bodyPost_ret (v:=.tuple #[.pointer none, .agg #[.int .i64 1, .int .i64 (-1)]]) (by simp [results,Tryz.results52,go_sem]) rfl ⟨rfl,((aa.refl _ _).alloc _)⟩
 have d1:decide (n<16)=false:=by simpa using c1
 by_cases c2:256<n
 ·have d2:decide (256<n)=true:=by simpa using c2
  go_enter Tryz.func52,Tryz.ntmps52;go_wp2_with fail;exact bodyPost_ret (v:=.tuple #[.pointer none, .agg #[.int .i64 1, .int .i64 (-1)]]) (by simp [results,Tryz.results52,go_sem]) rfl ⟨rfl,((aa.refl _ _).alloc _)⟩
 have d2:decide (256<n)=false:=by simpa using c2
 by_cases c3:o<0
 ·have d3:decide (o<0)=true:=by simpa using c3
  go_enter Tryz.func52,Tryz.ntmps52;go_wp2_with fail;exact bodyPost_ret (v:=.tuple #[.pointer none, .agg #[.int .i64 1, .int .i64 (-1)]]) (by simp [results,Tryz.results52,go_sem]) rfl ⟨rfl,((aa.refl _ _).alloc _)⟩
 have d3:decide (o<0)=false:=by simpa using c3
 have d4:decide (1024<o)=true:=by simp;omega
 go_enter Tryz.func52,Tryz.ntmps52;go_wp2_with fail;exact bodyPost_ret (v:=.tuple #[.pointer none, .agg #[.int .i64 1, .int .i64 (-1)]]) (by simp [results,Tryz.results52,go_sem]) rfl ⟨rfl,((aa.refl _ _).alloc _)⟩
theorem zi (n o:Int) (w:World) (h:Ar.fits n o=true) :
  Calls Tryz.prog 52 #[.int .i64 n, .int .i64 o] w λe w'=>zh w n o e w':=by
 have HOK:=Hz (Ar.ki h);simp [Ar.fits] at h;obtain ⟨⟨⟨h1,h2⟩,h3⟩,h4⟩:=h;obtain ⟨a,rfl⟩:∃ a:Nat,n=a:=⟨n.toNat,by omega⟩;obtain ⟨b,rfl⟩:∃ b:Nat,o=b:=⟨o.toNat,by omega⟩;have d1:decide ((a:Int)<16)=false:=by simp;omega
 have d2:decide (256<(a:Int))=false:=by simp;omega
 have d3:decide ((b:Int)<0)=false:=by simp
 have d4:decide (1024<(b:Int))=false:=by simp;omega
 obtain ⟨i0,hi,hz0,hz1,hz2⟩:=info_parts pX;have hmk:=λ(wx:World)=>dV (P:=Tryz.prog) wx 73 2 i0 (.int .i64 0) Tryz.underlying73 hi hz0 rfl hz1 (a+b) (by rw [hz2];omega) (by omega);have hcast:((a+b:Nat):Int)=(a:Int)+(b:Int):=by omega
 simp only [hcast] at hmk;have HNEW:=Hz (show Ar.new a b=⟨List.replicate (a+b) 0,a,0,a⟩ by unfold Ar.new;congr 1);clear hi hz0 hz1 hz2 hcast;go_enter Tryz.func52,Tryz.ntmps52;go_wp2_with fail;refine bodyPost_ret (v:=.tuple #[.pointer (some ⟨w.heap.size+2,0,none⟩), .agg #[.int .i64 0, .int .i64 0]]) (by simp [results,Tryz.results52,go_sem]) rfl ⟨w.heap.size+2,w.heap.size+1,rfl,?_,(((aa.refl _ _).alloc _).alloc _).alloc _,by omega,by omega⟩;have hok:=HOK.o;rw [HNEW.o] at hok ⊢;refine ⟨?_,?_,hok⟩
 ·refine ak.newAt _ (by simp) ?_;simp
 ·refine (ak.newAt _ (by simp) ?_).alloc _;simp
def wX (w:World) (b p:Nat):Prop:=ak w b [.pointer (some ⟨p,0,none⟩)] 70
theorem xU (b:Nat) (i j:Int) (w:World) (h:bH w p g A) (hb:wX w b p) (hi:0<=i) (hi2:i<=1280) (hj:j<=1280) :
  Calls Tryz.prog 120 #[.int .i64 i, .int .i64 j, .pointer (some ⟨b,0,none⟩)] w λe w'=>px 3 w e w' (A.list 1300 i j):=by
 have H:=Hz h;have HB:=Hz hb;have bl:=hb.lt;obtain ⟨i0,hi0,hz0,hz1,hz2⟩:=info_parts ic;have Hi:=Hz hi0;have Hz0:=Hz hz0;have Hz1:=Hz hz1;have Hz2:=Hz hz2;clear hi0 hz0 hz1 hz2;clear h hb;go_enter Tryz.func120,Tryz.ntmps120;go_wp2_with fail;go_loopw [6,7] (λv k wr=>∃ (n:Nat) (c:Int) (done:List Int),k=.int .i64 c/\0<=c/\c<=1300/\done ++ A.list n c j=A.list 1300 i j/\(j-c).toNat<n/\done.length+(j-c).toNat<=1300/\Sl wr 3 1 v done.length (done.map (Value.int .i64))/\aa (λ_=>False) w wr/\∀ b,aq v b->w.heap.size<=b) (λ_ k _=>(j-intOf k).toNat)
 case atStart=>
  exact ⟨1300,i,[],rfl,hi,by omega,rfl,by omega,by simp;omega,Sl.nil _ _ _,aa.refl _ _,λb hb=>(b9 hb).elim⟩
 case round=>
  obtain ⟨n,c,done,rfl,hc0,hc1,hd,hn,hl,hs,hk,ho⟩:=hrel;have HD:=Hz hd;have HS:=Hz hs;have HK:=Hz hk;have HO:=Hz ho;have b0:=(hk.au HB.o (λh=>h)).cell 0;have bl2:=(hk.au HB.o (λh=>h)).lt;simp only [Lz] at b0;clear hd hs hk ho;obtain ⟨ao,cap,rfl,-,-,-⟩:=HS.o.rd;by_cases hlt:c<j
  ·have hfl:=A.aQ c;obtain ⟨⟨k,m,e⟩,hT⟩:∃ t,A.ah c=t:=⟨_,rfl⟩;rw [hT] at hfl;dsimp only at hfl;have HT:=Hz hT;clear hT;go_wp2_with fail;refine (gS c _ (H.o.ab HK.o (λh=>h) (λh=>h))).mono ?_;rintro e w1 ⟨rfl,rfl⟩;rw [HT.o];dsimp only;by_cases he:e=0
   ·subst he;obtain ⟨n,rfl⟩:∃ q,n=q+1:=⟨n-1,by omega⟩;have HST:=Hz (Ar.sC (n:=n) hlt (by rw [HT.o]));go_wp2_with (at_builtin;refine cE rfl (.tmp 25) (.tmp 27) 27 rfl 3 i0 (.int .i64 0) 1 8 Tryz.underlying27 Hi.o Hz0.o Hz1.o Hz2.o rfl (by decide) _ done.length (done.map (Value.int .i64)) rfl (HS.o.ab ((Kz wr).alloc _) (λ_ _ h=>h)) ⟨wr.heap.size,0,none⟩ 1 1 [.int .i64 c] rfl rfl (bV wr 3 #[.int .i64 c]) (by intro u hu;simp at hu;subst hu;rfl) (by unfold maxLen;omega) (by omega) ?_);intro v2 w2 hs2 hk2 ho2;have HK2:=Hz ((HK.o.alloc (.cells #[.int .i64 c] 3)).then hk2 (λb hb=>.inr (HO.o b hb)));have HO2:Hd (∀ b,aq v2 b->w.heap.size<=b):=λb hb=>by
     rcases ho2 b hb with h | h
     ·exact HO.o b h
     ·have:=HK.o.size;first | omega | (simp at h;omega)
    have HS2:=Hz hs2;clear hs2 hk2 ho2 b0 bl2;go_wp2_with fail;go_roundw
    case rel=>exact ⟨n,c+1+m,done ++ [c],int_eq (by omega),by omega,by omega,by rw [<-HD.o,HST.o,HT.o];simp,by omega,by simp;omega,by simpa using HS2.o,HK2.o,HO2.o⟩
    case measure=>simp [intOf];omega
   ·have heb:(e != 0)=true:=by simpa using he
    have HE:=Hz (Ar.pW (n:=n) (j:=j) (λh=>he (by have:=h.2;rw [HT.o] at this;exact this)));clear he;go_wp2_with fail;go_ret;have hd:=HD.o;rw [HE.o,List.append_nil] at hd;rw [<-hd];exact ⟨ao,cap,rfl,HS.o,HK.o,HO.o⟩
  ·have HE:=Hz (Ar.pW (A:=A) (n:=n) (i:=c) (j:=j) (λh=>hlt h.1));go_wp2_with fail;go_ret;have hd:=HD.o;rw [HE.o,List.append_nil] at hd;rw [<-hd];exact ⟨ao,cap,rfl,HS.o,HK.o,HO.o⟩
theorem DF (args:Array Value) (w:World):(callFunc 120 args).run Tryz.prog w=.ok (.enter 120 args) w:=by kernel_rfl
def sD (A:Ar) (w:World) (e:Ending) (w':World):Prop:=
 ∃ ao ac bo bc,e=.returned (.tuple #[.slice ao A.aO.1.length ac, .slice bo A.aO.2.length bc])/\Sl w' 3 1 (.slice ao A.aO.1.length ac) A.aO.1.length (A.aO.1.map (Value.int .i64)) /\
  Sl w' 3 1 (.slice bo A.aO.2.length bc) A.aO.2.length (A.aO.2.map (Value.int .i64))/\aa (λ_=>False) w w'/\(∀ k,aq (.slice ao A.aO.1.length ac) k->w.heap.size<=k)/\∀ k,aq (.slice bo A.aO.2.length bc) k->w.heap.size<=k
theorem pY (w:World) (h:bH w p g A) :
  Calls Tryz.prog 72 #[.pointer (some ⟨p,0,none⟩)] w λe w'=>sD A w e w':=by
 have o1:=h.ok.h1;have o2:=h.ok.h2;have o3:=h.ok.h3;have o4:=h.ok.h4;have HLA:Hd (A.aO=(A.list 1300 0 A.yng,A.list 1300 A.nur A.grn)):=rfl;have ea:=DF;have hka:=(Kz w).alloc (.cells #[.pointer (some ⟨p,0,none⟩)] 70);have h1:=h.ab hka (λh=>h) (λh=>h);have hb:wX (w.alloc (.cells #[.pointer (some ⟨p,0,none⟩)] 70)) w.heap.size p:=ak.newAt _ rfl rfl;have H1:=Hz h1;have HB:=Hz hb;have HKA:=Hz hka;clear h h1 hb hka;go_enter Tryz.func72,Tryz.ntmps72;go_wp2_with fail;obtain ⟨-,c1,c2,c3⟩:=H1.o.cells;have b0:=HB.o.cell 0;have bl:=HB.o.lt;have pl:=H1.o.hp.lt;simp only [Lz] at b0;generalize w.alloc (.cells #[.pointer (some ⟨p,0,none⟩)] 70)=w1 at *;refine a6 (.free 0 (.free 6 (.pure 1 (.free 2 (.free 3 (.pure 4 (.pure 7 (.free 8 (.free 9 (.pure 10 (.pure 11 (.free 12 (.free 13 (.pure 14 (.run 5 (.run 15 (.swi [] (.free 16 (.free 17 (.fin)))))))))))))))))))) [15,16,17] (Fz c1 (Fz c2 (Fz c3 (Fa b0)))) ?_
 iterate 14 refine Wz ?_
 refine aN rfl rfl (λK hK=>?_);unfold ax;go_simp;refine (xU w.heap.size 0 A.yng _ (H1.o.ab (Kz w1).drew (λh=>h) (λh=>h)) HB.o.drew (by omega) (by omega) (by omega)).mono ?_;rintro e w2 ⟨ao,ac,rfl,hs2,hk2,ho2⟩;have hkd:=(Kz w1).drew.trans hk2;have H2:=Hz (H1.o.ab hkd (λh=>h) (λh=>h));have HB2:=Hz (show wX w2 w.heap.size p from hkd.au HB.o (λh=>h));have HS2:=Hz hs2;have HKD:=Hz hkd;have HO2:Hd (∀ k,aq (.slice ao (A.list 1300 0 A.yng).length ac) k->w.heap.size<=k):=λk hk=>by have h1:=ho2 k hk;have h2:=HKA.o.size;exact Za h2 h1
 refine hK _ _ (λ_=>?gg) ?_
 case gg=>obtain ⟨-,c1,c2,c3⟩:=H2.o.cells;exact ⟨c1,c2,c3,HB2.o.cell 0⟩
 clear hK K hs2 hkd hk2 ho2;refine aD rfl rfl rfl (λK hK=>?_);unfold ax;go_simp;refine (xU w.heap.size A.nur A.grn _ H2.o HB2.o (by omega) (by omega) (by omega)).mono ?_;rintro e w3 ⟨bo,bc,rfl,hs3,hk3,ho3⟩;have HS3:=Hz hs3;have HS23:=Hz (HS2.o.ab hk3 (λ_ _ h=>h));have HKE:=Hz ((HKA.o.trans HKD.o).trans hk3);have HO3:Hd (∀ k,aq (.slice bo (A.list 1300 A.nur A.grn).length bc) k->w.heap.size<=k):=λk hk=>by have h1:=ho3 k hk;have h2:=HKA.o.size;have h3:=HKD.o.size;exact Za (Za h2 h3) h1
 refine hK _ _ ?_;clear hK K hs3 hk3 ho3 c1 c2 c3 b0;refine aC (λ_=>True) trivial ?_
 iterate 2 refine Wz ?_
 refine av ?_;go_wp2_with fail;go_ret2;unfold sD;rw [HLA.o];exact ⟨ao,ac,bo,bc,rfl,HS23.o,HS3.o,HKE.o,HO2.o,HO3.o⟩
end
end
section
open Go.RowKit
def Ar.move (A:Ar) (dst fr n:Nat):Ar:={ A with ws:=lay A.ws dst ((A.ws.drop fr).take n) }
theorem Ar.ok.move {A:Ar} (h:A.ok) {dst fr n:Nat} (h1:dst+n<=A.ws.length) (h2:fr+n<=A.ws.length):(A.move dst fr n).ok:=by
 have hl:(lay A.ws dst ((A.ws.drop fr).take n)).length=A.ws.length:=dW (by simp;omega);refine ⟨h.h1,h.h2,?_,?_,λx hx=>?_⟩
 ·show A.grn<=(lay _ _ _).length;rw [hl];exact h.h3
 ·show (lay _ _ _).length<=1280;rw [hl];exact h.h4
 ·rcases pt hx with h1 | h1
  ·exact h.hw x h1
  ·exact h.hw x (List.mem_of_mem_drop (List.mem_of_mem_take h1))
section
variable {p g:Nat} {A:Ar}
theorem Ct (dst fr n:Nat) (w:World) (h:bH w p g A) (h1:dst+n<=A.ws.length) (h2:fr+n<=A.ws.length) (h3:dst<A.ws.length) (h4:fr<A.ws.length) :
  Calls Tryz.prog 97 #[.pointer (some ⟨p,0,none⟩), .int .i64 dst, .int .i64 fr, .int .i64 n] w λe w'=>e=.returned (.tuple #[])/\aU w p g w' (A.move dst fr n):=by
 have H:=Hz h;have o4:=h.ok.h4;have HOK:=Hz (h.ok.move h1 h2);obtain ⟨c0,-,-,-⟩:=h.cells;have pl:=h.hp.lt;have gl:=h.hg.lt;clear h;have hw1:IntKind.i64.wrap ((dst:Int)+n)=(dst:Int)+n:=IntWalk.i64_in _ (by omega);have hw2:IntKind.i64.wrap ((fr:Int)+n)=(fr:Int)+n:=IntWalk.i64_in _ (by omega);have b1:(dst:Int)<=(dst:Int)+n:=by omega
 have b2:(dst:Int)+n<=(A.ws.length:Int):=by omega
 have b3:(fr:Int)<=(fr:Int)+n:=by omega
 have b4:(fr:Int)+n<=(A.ws.length:Int):=by omega
 have b5:(0:Int)<=(dst:Int)+n:=by omega
 have b6:(0:Int)<=(fr:Int)+n:=by omega
 have b7:((dst:Int)+n).toNat=dst+n:=by omega
 have b8:((fr:Int)+n).toNat=fr+n:=by omega
 have q1:¬ A.ws.length=dst:=by omega
 have q2:¬ A.ws.length=fr:=by omega
 go_enter Tryz.func97,Tryz.ntmps97;refine a6 (ftq [0,1,2,4,5,6,7,9,10,11,13,14,15,16] (.pure 3 (.free 8 (.pure 12 (.free 17 (.run 18 (.swi [] (.fin)))))))) [18] (Fa c0) ?_
 iterate 18 refine Wz ?_
 clear hw1 hw2 b1 b2 b3 b4 b5 b6 b7 b8;have hcl:(((A.ws.drop fr).take n).map (Value.int .i64)).length=n:=by simp;omega
 have HCL:=Hz hcl;clear hcl;refine aD rfl rfl rfl (λK hK=>?_);refine oB (.tmp 16) (.tmp 25) 73 rfl 2 Tryz.underlying73 (by kernel_rfl) g dst _ _ ⟨g,fr,none⟩ _ _ (by rfl) (by rfl) (A.ws.map (Value.int .i64)) H.o.hg.drew (((A.ws.drop fr).take n).map (Value.int .i64)) ?hn ?hsrc ?hfit lz ?_
 case hn=>rw [HCL.o];show n=min _ _;omega
 case hsrc=>
  intro j v hj;have hlt:=(Zj.1 hj).1;rw [HCL.o] at hlt;rw [fw]
  show w.cell? ⟨g,fr+j,none⟩=some v
  rw [H.o.hg.cell (fr+j),<-hj];simp only [Zw,List.getElem?_take,List.getElem?_drop,if_pos hlt]
 case hfit=>rw [HCL.o];simpa using h1
 refine hK _ _ ?_;clear hK K;have hb5:ak (w.drew.setRow g ((A.ws.map (Value.int .i64)).take dst ++ ((A.ws.drop fr).take n).map (Value.int .i64) ++ (A.ws.map (Value.int .i64)).drop (dst+(((A.ws.drop fr).take n).map (Value.int .i64)).length)).toArray) g ((lay A.ws dst ((A.ws.drop fr).take n)).map (Value.int .i64)) 2:=by
  rw [vR];exact ak.setRow (w:=w.drew) H.o.hg.drew _
 have hp5:=H.o.hp.drew.mn H.o.ne ((A.ws.map (Value.int .i64)).take dst ++ ((A.ws.drop fr).take n).map (Value.int .i64) ++ (A.ws.map (Value.int .i64)).drop (dst+(((A.ws.drop fr).take n).map (Value.int .i64)).length)).toArray;have hk5:=((aa.refl (λb=>b=p\/b=g) w).drew).setRow (g:=g) (.inl (.inr rfl)) ((A.ws.map (Value.int .i64)).take dst ++ ((A.ws.drop fr).take n).map (Value.int .i64) ++ (A.ws.map (Value.int .i64)).drop (dst+(((A.ws.drop fr).take n).map (Value.int .i64)).length)).toArray;generalize w.drew.setRow g _=w5 at *;have HB5:=Hz hb5;have HP5:=Hz hp5;have HK5:=Hz hk5;clear hb5 hp5 hk5;refine aC (λ_=>True) trivial (av ?_);go_wp2_with fail;go_end0;have hl:(lay A.ws dst ((A.ws.drop fr).take n)).length=A.ws.length:=dW (by have:=HCL.o;simp only [Zp] at this;omega);refine ⟨rfl,⟨?_,HB5.o,HOK.o⟩,HK5.o⟩
 show ak w5 p [.slice (some ⟨g,0,none⟩) (lay A.ws dst ((A.ws.drop fr).take n)).length (lay A.ws dst ((A.ws.drop fr).take n)).length,_,_,_] _
 rw [hl];exact HP5.o
theorem tO (w:World) (h:bH w p g A) :
  Calls Tryz.prog 71 #[.pointer (some ⟨p,0,none⟩)] w λe w'=>e=.returned (.tuple #[.int .i64 0, .int .i64 A.nur])/\aa (λ_=>False) w w':=by
 obtain ⟨-,c1,-,-⟩:=h.cells;have pl:=h.hp.lt;go_enter Tryz.func71,Tryz.ntmps71;go_wp2_with fail;refine a6 (ftq [0,1,2,4] (.pure 3 (.free 5 (.fin)))) [] (Fa c1) ?_
 iterate 6 refine Wz ?_
 refine av ?_;go_wp2_with fail;go_ret2;exact ⟨rfl,(aa.refl _ _).drew⟩
end
end
section
def cu (base:Int) (n:Nat) (at_:Int):Int:=if base<=at_/\(at_-base)/8<n then (at_-base)/8 else -1
def g7 (base:Int) (l:List Bool) (at_:Int):List Bool:=if 0<=cu base l.length at_ then l.set (cu base l.length at_).toNat true else l
theorem ig (base:Int) (l:List Bool) (at_:Int):(g7 base l at_).length=l.length:=by unfold g7;split <;> simp
def du (base:Int) (l:List Bool) (at_:Int):Bool:=decide (0<=cu base l.length at_) && l.getD (cu base l.length at_).toNat false
theorem sE {base:Int} {n:Nat} {at_:Int} (h:0<=cu base n at_):(cu base n at_).toNat<n:=by
 unfold cu at *;split at h
 ·rename_i c;rw [if_pos c];omega
 ·omega
def gL (words:Int):Nat:=((max words 0+7)/8).toNat
end
section
open Go.RowKit
structure cU (w:World) (p q:Nat) (base:Int) (l:List Bool):Prop where
 hp:ak w p [.int .i64 base, .slice (some ⟨q,0,none⟩) l.length l.length] 171
 hq:ak w q (l.map Value.bool) 4
theorem cU.ne {w:World} {p q:Nat} {base:Int} {l:List Bool} (h:cU w p q base l):p≠q:=h.hp.ne h.hq (by decide)
theorem cU.ab {w w':World} {p q:Nat} {base:Int} {l:List Bool} {S:Nat->Prop} (h:cU w p q base l) (k:aa S w w') (h1:¬ S p) (h2:¬ S q):cU w' p q base l:=
 ⟨k.au h.hp h1,k.au h.hq h2⟩
theorem xV (p q:Nat) (base at_:Int) (l:List Bool) (w:World) (h:cU w p q base l)
  (hb:0<=base) (bG:base<=1000000) (ha:-9223372036854775808<=at_) (ha2:at_<=9223372036854775807) (hl:l.length<=1000000) :
  Calls Tryz.prog 119 #[.pointer (some ⟨p,0,none⟩), .int .i64 at_] w λe w'=>e=.returned (.int .i64 (cu base l.length at_))/\w=w':=by
 have h0:w.cell? ⟨p,0,none⟩=some (.int .i64 base):=h.hp.cell 0;have h1:w.cell? ⟨p,1,none⟩=some (.slice (some ⟨q,0,none⟩) l.length l.length):=h.hp.cell 1;clear h;generalize hn:l.length=n at *;clear hn;by_cases c1:base<=at_
 ·by_cases c2:(at_-base)/8<n
  ·have hv:cu base n at_=(at_-base)/8:=by simp [cu,c1,c2]
   rw [hv];clear hv;go_enter Tryz.func119,Tryz.ntmps119
   go_wp2
   go_ret;exact ⟨rfl,rfl⟩
  ·have hv:cu base n at_=-1:=by simp [cu,c2]
   rw [hv];clear hv;go_enter Tryz.func119,Tryz.ntmps119
   go_wp2
   go_ret;exact ⟨rfl,rfl⟩
 ·have hv:cu base n at_=-1:=by simp [cu,c1]
  rw [hv];clear hv;go_enter Tryz.func119,Tryz.ntmps119
  go_wp2
  go_ret;exact ⟨rfl,rfl⟩
theorem xW (p q:Nat) (base at_:Int) (l:List Bool) (w:World) (h:cU w p q base l)
  (hb:0<=base) (bG:base<=1000000) (ha:-9223372036854775808<=at_) (ha2:at_<=9223372036854775807) (hl:l.length<=1000000) :
  Calls Tryz.prog 68 #[.pointer (some ⟨p,0,none⟩), .int .i64 at_] w λe w'=>e=.returned (.bool (decide (0<=cu base l.length at_))) /\
   cU w' p q base (g7 base l at_)/\aa (·=q) w w':=by
 have H:=xV p q base at_ l w h hb bG ha ha2 hl;have h1:w.cell? ⟨p,1,none⟩=some (.slice (some ⟨q,0,none⟩) l.length l.length):=h.hp.cell 1;have HM:Hd (g7 base l at_=if 0<=cu base l.length at_ then l.set (cu base l.length at_).toNat true else l):=rfl;have HL:0<=cu base l.length at_->(cu base l.length at_).toNat<l.length:=sE;have hup:cu base l.length at_<=1000000:=by unfold cu;split <;> omega
 generalize g7 base l at_=l' at *;generalize cu base l.length at_=k at *;have HH:=Hz H;clear H;have HC:=Hz h;clear h;by_cases c:0<=k
 ·obtain ⟨k,rfl⟩:=Zg c;have hk:=HL c;simp only [Zt] at hk HM;have hq:w.cell? ⟨q,k,none⟩=some (.bool (l.getD k false)):=by rw [HC.o.hq.cell];simp [List.getD,hk]
  have hf:w.frozen? ⟨q,k,none⟩=false:=HC.o.hq.free _;go_enter Tryz.func68,Tryz.ntmps68;go_wp2_with (go_at_call 119;refine HH.o.mono ?_;rintro e w' ⟨rfl,rfl⟩);go_ret;have hm:=HM.o;simp at hm;subst hm;refine ⟨rfl,⟨?_,?_⟩,(aa.refl (·=q) w).setCell (p:=⟨q,k,none⟩) (.inl rfl) _⟩
  ·simpa using HC.o.hp.cj (a:=⟨q,k,none⟩) HC.o.ne (.bool true)
  ·simpa [List.map_set] using HC.o.hq.aE k (.bool true)
 ·have hd:decide (0<=k)=false:=by simpa using c
  go_enter Tryz.func68,Tryz.ntmps68;go_wp2_with (go_at_call 119;refine HH.o.mono ?_;rintro e w' ⟨rfl,rfl⟩);go_ret;have hm:=HM.o;rw [if_neg (by omega)] at hm;subst hm;exact ⟨Cp (by show Value.bool false=_;rw [hd]),HC.o,aa.refl _ _⟩
theorem A6 (p q:Nat) (base at_:Int) (l:List Bool) (w:World) (h:cU w p q base l)
  (hb:0<=base) (bG:base<=1000000) (ha:-9223372036854775808<=at_) (ha2:at_<=9223372036854775807) (hl:l.length<=1000000) :
  Calls Tryz.prog 75 #[.pointer (some ⟨p,0,none⟩), .int .i64 at_] w λe w'=>e=.returned (.bool (du base l at_))/\w=w':=by
 have H:=xV p q base at_ l w h hb bG ha ha2 hl;have h1:w.cell? ⟨p,1,none⟩=some (.slice (some ⟨q,0,none⟩) l.length l.length):=h.hp.cell 1;have HM:Hd (du base l at_=(decide (0<=cu base l.length at_) && l.getD (cu base l.length at_).toNat false)):=rfl;have HL:0<=cu base l.length at_->(cu base l.length at_).toNat<l.length:=sE;have hup:cu base l.length at_<=1000000:=by unfold cu;split <;> omega
 generalize du base l at_=l' at *;generalize cu base l.length at_=k at *;have HH:=Hz H;clear H;have HC:=Hz h;clear h;by_cases c:0<=k
 ·obtain ⟨k,rfl⟩:=Zg c;have hk:=HL c;simp only [Zt] at hk HM;have hq:w.cell? ⟨q,k,none⟩=some (.bool (l.getD k false)):=by rw [HC.o.hq.cell];simp [List.getD,hk]
  go_enter Tryz.func75,Tryz.ntmps75;go_wp2_with (go_at_call 119;refine HH.o.mono ?_;rintro e w' ⟨rfl,rfl⟩);go_ret;exact ⟨by rw [HM.o];simp [List.getD,hk],rfl⟩
 ·have hd:decide (0<=k)=false:=by simpa using c
  go_enter Tryz.func75,Tryz.ntmps75;go_wp2_with (go_at_call 119;refine HH.o.mono ?_;rintro e w' ⟨rfl,rfl⟩);go_ret;exact ⟨by rw [HM.o];simp [hd],rfl⟩
theorem kl:(Tryz.prog.info? 4).map (λi=>(i.zero,i.size,i.bytes))=some (some (.bool false),1,1):=by kernel_rfl
theorem DH (base words:Int) (w:World) (hw:words<=1000000) (hw2:-9223372036854775808<=words) :
  Calls Tryz.prog 53 #[.int .i64 base, .int .i64 words] w λe w'=>e=.returned (.pointer (some ⟨w.heap.size+1,0,none⟩)) /\
   cU w' (w.heap.size+1) w.heap.size base (List.replicate (gL words) false)/\w'.heap.size=w.heap.size+2/\aa (λ_=>False) w w':=by
 obtain ⟨i0,hi,hz0,hz1,hz2⟩:=info_parts kl;have HN:Hd (gL words=((max words 0+7)/8).toNat):=rfl;have hmk:=λ(wx:World) (n:Nat) (h1:n<=9223372036854775807) (h2:n<=281474976710656)=>dV (P:=Tryz.prog) wx 23 4 i0 (.bool false) Tryz.underlying23 hi hz0 rfl hz1 n (by rw [hz2];omega) h1;have Hi:=Hz hi;clear hi hz0 hz1 hz2;have HM:=Hz hmk;clear hmk;by_cases c:0<=words
 ·have hm:(gL words:Int)=(words+8-1)/8:=by rw [HN.o];omega
  have hk:=λ(wx:World)=>HM.o wx (gL words) (by omega) (by omega);have h2:max words 0=words:=by omega
  rw [hm] at hk;have Hm:=Hz hm;clear hm;generalize hn:gL words=n at *;clear hn;go_enter Tryz.func53,Tryz.ntmps53
  go_wp2
  go_ret;exact ⟨rfl,⟨.newAt _ (by simp) (by simp),(ak.newAt _ rfl (by simp)).alloc _⟩,by simp,((aa.refl _ _).alloc _).alloc _⟩
 ·have hm:gL words=0:=by rw [HN.o];omega
  have hk:∀ wx:World,(Instr.makeSlice 23 (.int .i64 0) (.int .i64 0)).run Tryz.prog wx=.ok (.slice (some ⟨wx.heap.size,0,none⟩) 0 0) (wx.alloc (.cells #[] 4)):=λwx=>by simpa using HM.o wx 0 (by omega) (by omega)
  have h2:max words 0=0:=by omega
  rw [hm];have Hm:=Hz hm;clear hm;go_enter Tryz.func53,Tryz.ntmps53
  go_wp2
  go_ret;exact ⟨rfl,⟨.newAt _ (by simp) (by simp),(ak.newAt _ rfl (by simp)).alloc _⟩,by simp,((aa.refl _ _).alloc _).alloc _⟩
theorem vU (p q:Nat) (base:Int) (l:List Bool) (w:World) (h:cU w p q base l) :
  Calls Tryz.prog 81 #[.pointer (some ⟨p,0,none⟩)] w λe w'=>e=.returned (.tuple #[]) /\
   cU w' p q base (List.replicate l.length false)/\aa (·=q) w w':=by
 have h1:w.cell? ⟨p,1,none⟩=some (.slice (some ⟨q,0,none⟩) l.length l.length):=h.hp.cell 1;have hk:=tt (P:=Tryz.prog) w 23 0 4 (.bool false) Tryz.underlying23 (by intro w;kernel_rfl) rfl rfl q l.length l.length _ h.hq (by simp);have HC:=Hz h;clear h;go_enter Tryz.func81,Tryz.ntmps81
 go_wp2
 go_end0;refine ⟨rfl,⟨?_,?_⟩,?_⟩
 ·simpa using HC.o.hp.mn HC.o.ne _
 ·simpa using HC.o.hq.setRow (List.replicate l.length (.bool false))
 ·exact (aa.refl (·=q) w).setRow (.inl rfl) _
end
section
open Go.RowKit
def aH (l:List (Int × Int)):List Value:=l.flatMap λe=>[.int .i64 e.1, .int .i64 e.2]
theorem cJ (l:List (Int × Int)):(aH l).length=l.length*2:=by
 induction l with
 | nil=>rfl
 | cons e l ih=>simp [aH] at ih ⊢;omega
structure a7 (w:World) (p:Nat) (rv wv:Value) (ai wait:List (Int × Int)):Prop where
 hp:ak w p [rv,wv] 84
 hr:Sl w 119 2 rv ai.length (aH ai)
 hw:Sl w 119 2 wv wait.length (aH wait)
 ap:∀ k,¬ (aq rv k/\aq wv k)
theorem a7.pr {w:World} {p:Nat} {rv wv:Value} {ai wait:List (Int × Int)} (h:a7 w p rv wv ai wait):¬ aq rv p:=λhk=>by
 obtain ⟨_,cur,hc⟩:=h.hr.own hk;exact (hc.ne h.hp (by decide)) rfl
theorem a7.pw {w:World} {p:Nat} {rv wv:Value} {ai wait:List (Int × Int)} (h:a7 w p rv wv ai wait):¬ aq wv p:=λhk=>by
 obtain ⟨_,cur,hc⟩:=h.hw.own hk;exact (hc.ne h.hp (by decide)) rfl
def aG (p:Nat) (rv wv:Value) (k:Nat):Prop:=k=p\/aq rv k\/aq wv k
theorem a7.jX {w:World} {p:Nat} {rv wv:Value} {ai wait:List (Int × Int)} (h:a7 w p rv wv ai wait) {k:Nat} (hk:aG p rv wv k):k<w.heap.size:=by
 rcases hk with rfl | hk | hk
 ·exact h.hp.lt
 ·exact (h.hr.own hk).1
 ·exact (h.hw.own hk).1
theorem a7.ab {w w':World} {p:Nat} {rv wv:Value} {ai wait:List (Int × Int)} {S:Nat->Prop} (h:a7 w p rv wv ai wait) (k:aa S w w') (hn:∀ b,aG p rv wv b->¬ S b):a7 w' p rv wv ai wait:=
 ⟨k.au h.hp (hn p (.inl rfl)),h.hr.ab k (λg hg=>hn g (.inr (.inl hg))),h.hw.ab k (λg hg=>hn g (.inr (.inr hg))),h.ap⟩
def tP (w:World) (p:Nat) (rv wv:Value) (w':World) (ai wait:List (Int × Int)):Prop:=
 ∃ rv' wv',a7 w' p rv' wv' ai wait/\aa (aG p rv wv) w w'/\∀ k,aG p rv' wv' k->aG p rv wv k\/w.heap.size<=k
theorem xX (p:Nat) (rv wv:Value) (ai wait:List (Int × Int)) (w:World) (h:a7 w p rv wv ai wait) (h1:ai.length<=1000000) (h2:wait.length<=1000000) :
  Calls Tryz.prog 115 #[.pointer (some ⟨p,0,none⟩)] w λe w'=>e=.returned (.bool (decide (24<=ai.length+wait.length)))/\aa (λ_=>False) w w':=by
 obtain ⟨ro,rc,rfl,_,_,_⟩:=h.hr.rd;obtain ⟨wo,wc,rfl,_,_,_⟩:=h.hw.rd;have c0:w.cell? ⟨p,0,none⟩=_:=h.hp.cell 0;have c1:w.cell? ⟨p,1,none⟩=_:=h.hp.cell 1;simp only [Lz,aB] at c0 c1;have hw:IntKind.i64.wrap ((ai.length:Int)+(wait.length:Int))=(ai.length:Int)+(wait.length:Int):=IntWalk.i64_in _ (by omega);go_enter Tryz.func115,Tryz.ntmps115;go_wp2_with fail;refine cy [(0,0),(1,0),(2,0),(5,0),(6,0),(7,0),(3,0),(4,0),(8,0),(9,0),(10,0),(11,0),(12,0)] (λw'=>w'.cell? ⟨p,0,none⟩=some (.slice ro ai.length rc)/\w'.cell? ⟨p,1,none⟩=some (.slice wo wait.length wc)) (by kernel_rfl) (by kernel_rfl) ⟨c0,c1⟩ ?_
 iterate 13 (refine bp rfl rfl _ (λw' hG=>by obtain ⟨g0,g1⟩:=hG;go_simp;exact bA.mk _ _) (λK hK=>?_);go_simp;refine hK _ ?_;clear hK K)
 refine dE ?_;go_wp2_with fail;go_ret;refine ⟨de ?_,(aa.refl _ _).drew⟩;congr 1;simp only [eq_iff_iff];omega
theorem iF:(Tryz.prog.info? 119).map (λi=>(i.zero,i.size,i.bytes))=some (some (.agg #[.int .i64 0, .int .i64 0]),2,16):=by kernel_rfl
theorem zj (p:Nat) (rv wv:Value) (ai wait:List (Int × Int)) (g t:Int) (w:World) (h:a7 w p rv wv ai wait) (h1:ai.length<=1000000) (h2:wait.length<=1000000) (hf:24<=ai.length+wait.length) :
  Calls Tryz.prog 62 #[.pointer (some ⟨p,0,none⟩), .agg #[.int .i64 g, .int .i64 t]] w λe w'=>e=.returned (.bool false)/\aa (λ_=>False) w w':=by
 have H:=Hz (h.ab ((Kz w).alloc (.cells #[.int .i64 g, .int .i64 t] 119)) (λ_ _ h=>h));clear h;have hd:decide (24<=ai.length+wait.length)=true:=by simpa using hf
 go_enter Tryz.func62,Tryz.ntmps62;go_wp2_with fail;refine (xX p rv wv ai wait _ H.o h1 h2).mono ?_;rintro e w1 ⟨rfl,hk⟩;rw [hd];go_wp2_with fail;go_ret;exact ⟨rfl,((aa.refl _ _).alloc _).trans hk⟩
theorem zk (p:Nat) (rv wv:Value) (ai wait:List (Int × Int)) (g t:Int) (w:World) (h:a7 w p rv wv ai wait) (h1:ai.length<=1000000) (h2:wait.length<=1000000) (hf:¬ 24<=ai.length+wait.length) :
  Calls Tryz.prog 62 #[.pointer (some ⟨p,0,none⟩), .agg #[.int .i64 g, .int .i64 t]] w λe w'=>e=.returned (.bool true)/\tP w p rv wv w' (ai ++ [(g,t)]) wait:=by
 obtain ⟨i0,hi,hz0,hz1,hz2⟩:=info_parts iF;have Hi:=Hz hi;have Hz0:=Hz hz0;have Hz1:=Hz hz1;have Hz2:=Hz hz2;clear hi hz0 hz1 hz2;have HW:=Hz h;have H:=Hz (h.ab ((Kz w).alloc (.cells #[.int .i64 g, .int .i64 t] 119)) (λ_ _ h=>h));have HB:=Hz (ak.newAt (w:=w) (b:=w.heap.size) (T:=119) #[.int .i64 g, .int .i64 t] rfl rfl);clear h;have hd:decide (24<=ai.length+wait.length)=false:=by simpa using hf
 obtain ⟨ro,rc,rfl,_,_,_⟩:=HW.o.hr.rd;go_enter Tryz.func62,Tryz.ntmps62;go_wp2_with fail;refine (xX p _ wv ai wait _ H.o h1 h2).mono ?_;rintro e w1 ⟨rfl,hk⟩;rw [hd];have HB1:=Hz (hk.au HB.o (λh=>h));have HW1:=Hz (H.o.ab hk (λ_ _ h=>h));have HK1:=Hz (((aa.refl (aG p (.slice ro ai.length rc) wv) w).alloc (.cells #[.int .i64 g, .int .i64 t] 119)).trans (hk.mono λ_ _ h=>h.elim));clear hk;have c0:=HW1.o.hp.cell 0;have b0:=HB1.o.cell 0;have b1:=HB1.o.cell 1;have f0:=HW1.o.hp.free 0;simp only [Lz,aB] at c0 b0 b1;go_wp2_with fail;refine cy [(0,0),(1,0),(2,0),(3,0),(4,0),(5,0),(6,1),(7,1),(8,0),(9,0),(10,2)] (λw'=>w'.cell? ⟨p,0,none⟩=some (.slice ro ai.length rc)/\w'.cell? ⟨w.heap.size,0,none⟩=some (.int .i64 g)/\w'.cell? ⟨w.heap.size,1,none⟩=some (.int .i64 t)) (by kernel_rfl) (by kernel_rfl) ⟨c0,b0,b1⟩ ?_
 iterate 6 (refine bp rfl rfl _ (λw' hG=>by obtain ⟨g0,g1,g2⟩:=hG;go_simp;exact bA.mk _ _) (λK hK=>?_);go_simp;refine hK _ ?_;clear hK K)
 refine bB rfl rfl (λK hK=>?_);unfold ax;go_simp;refine hK _ _ ?_ ?_
 ·have k:=(Kz w1).alloc (.cells #[.int .i64 g, .int .i64 t] 119);have b:=k.au HW1.o.hp (λh=>h);have b':=k.au HB1.o (λh=>h);exact ⟨b.cell 0,b'.cell 0,b'.cell 1⟩
 clear hK K;refine bB rfl rfl (λK hK=>?_);refine dN (.tmp 11) (.tmp 13) 82 rfl 119 i0 (.agg #[.int .i64 0, .int .i64 0]) 2 16 Tryz.underlying82 Hi.o Hz0.o Hz1.o Hz2.o rfl (by decide) _ ai.length (aH ai) rfl ?ha ⟨w1.heap.size,0,none⟩ 1 1 [.int .i64 g, .int .i64 t] rfl rfl ?hb ?hc ?hd ?he ?hf
 case ha=>exact HW1.o.hr.ab (((Kz w1).alloc _).drew) (λ_ _ h=>h)
 case hb=>exact bV w1 119 #[.int .i64 g, .int .i64 t]
 case hc=>intro u hu;simp at hu;rcases hu with rfl | rfl <;> rfl
 case hd=>unfold maxLen;omega
 case he=>omega
 case hf=>
  intro v2 w2 hs2 hk2 ho2;have hka:aa (λ_=>False) w1 ((w1.alloc (.cells #[.int .i64 g, .int .i64 t] 119)).drew):=((Kz w1).alloc _).drew;have hp2:=hk2.au (hka.au HW1.o.hp (λh=>h)) HW1.o.pr;have hw2:=(HW1.o.hw.ab hka (λ_ _ h=>h)).ab hk2 (λb hb hr=>HW1.o.ap b ⟨hr,hb⟩);have bG:=hk2.au (hka.au HB1.o (λh=>h)) (λhr=>by have:=(HW.o.hr.own hr).1;omega);refine hK _ _ ⟨hp2.cell 0,bG.cell 0,bG.cell 1⟩ ?_;clear hK K;have hs3:Sl w2 119 2 v2 (ai ++ [(g,t)]).length (aH (ai ++ [(g,t)])):=by simpa [aH] using hs2
  obtain ⟨vo,vc,rfl,_,_,_⟩:=hs3.rd;have HK2:Hd (aa (aG p (.slice ro ai.length rc) wv) w w2):=(HK1.o.trans (hka.mono λ_ _ h=>h.elim)).trans (hk2.mono λk _ hk=>.inr (.inl hk));have HO:Hd (∀ k,aq (.slice vo (ai ++ [(g,t)]).length vc) k->aq (.slice ro ai.length rc) k\/w.heap.size<=k):=λk hk=>by
   rcases ho2 k hk with h | h
   ·exact .inl h
   ·have:=HK1.o.size;simp at h;exact .inr (by omega)
  have HP:=Hz hp2;have HW2:=Hz hw2;have HS:=Hz hs3;have HWL:Hd (∀ k,aq wv k->k<w.heap.size):=λk hk=>(HW.o.hw.own hk).1;clear hs2 hk2 ho2 hka hp2 hw2 bG hs3;have d0:=HP.o.cell 0;have e0:=HP.o.free 0;simp only [Lz] at d0
  iterate 2 (refine bp rfl rfl _ (λw' hG=>by obtain ⟨g0,g1,g2⟩:=hG;go_simp;exact bA.mk _ _) (λK hK=>?_);go_simp;refine hK _ ?_;clear hK K)
  refine kH rfl rfl (λK hK=>?_);unfold ax;go_simp;refine hK _ _ ?_;clear hK K;refine dE ?_;go_wp2_with fail;go_ret;refine ⟨rfl,_,_,⟨by simpa using HP.o.aE 0 _,HS.o.ab ((aa.refl (·=p) w2).setCell (p:=⟨p,0,none⟩) (.inl rfl) _) ?_,HW2.o.ab ((aa.refl (·=p) w2).setCell (p:=⟨p,0,none⟩) (.inl rfl) _) ?_,?_⟩,HK2.o.setCell (p:=⟨p,0,none⟩) (.inl (.inl rfl)) _,?_⟩
  ·rintro b hb rfl;obtain ⟨_,cur,hc⟩:=HS.o.own hb;exact (hc.ne HP.o (by decide)) rfl
  ·rintro b hb rfl;obtain ⟨_,cur,hc⟩:=HW2.o.own hb;exact (hc.ne HP.o (by decide)) rfl
  ·rintro k ⟨h1,h2⟩;rcases HO.o k h1 with h | h
   ·exact HW.o.ap k ⟨h,h2⟩
   ·have:=HWL.o k h2;omega
  ·rintro k (h | h | h)
   ·exact .inl (.inl h)
   ·rcases HO.o k h with h | h
    ·exact .inl (.inr (.inl h))
    ·exact .inr h
   ·exact .inl (.inr (.inr h))
end
section
open Go.RowKit
theorem pZ:∀ (l:List (Int × Int)) (i:Nat),i<l.length->(aH l)[i*2]? = some (.int .i64 (l.getD i (0,0)).1)/\(aH l)[i*2+1]? = some (.int .i64 (l.getD i (0,0)).2)
 | e :: l,0,_=>by simp [aH]
 | e :: l,i+1,h=>by
  have ih:=pZ l i (by simpa using h);have h1:(i+1)*2=i*2+1+1:=by omega
  have h2:(i+1)*2+1=i*2+1+1+1:=by omega
  have e0:aH (e :: l)=.int .i64 e.1 :: .int .i64 e.2 :: aH l:=by simp [aH]
  rw [h2,h1,e0];simpa using ih
theorem Rd.fZ {w:World} {ao:Option Addr} {l:List (Int × Int)} (h:Rd w ao (aH l)) (i:Nat) (hi:i<l.length) :
  ∃ g o,ao=some ⟨g,o,none⟩/\g<w.heap.size/\w.cell? ⟨g,o+i*2,none⟩=some (.int .i64 (l.getD i (0,0)).1)/\w.cell? ⟨g,o+i*2+1,none⟩=some (.int .i64 (l.getD i (0,0)).2):=by
 have hl:=cJ l;obtain ⟨g,o,rfl,hg,hc⟩:=h (by intro e;rw [e] at hl;simp at hl;omega);have hi2:=pZ l i hi;refine ⟨g,o,rfl,hg,?_,?_⟩
 ·rw [hc _ (by omega)];exact hi2.1
 ·rw [show o+i*2+1=o+(i*2+1) by omega,hc _ (by omega)];exact hi2.2
theorem xY (b:Nat) (x g t:Int) (w:World) (h:w.cell? ⟨b,0,none⟩=some (.int .i64 x)) (hb:b<w.heap.size) :
  Calls Tryz.prog 117 #[.agg #[.int .i64 g, .int .i64 t], .pointer (some ⟨b,0,none⟩)] w λe w'=>e=.returned (.bool (g == x))/\aa (λ_=>False) w w':=by
 go_enter Tryz.func117,Tryz.ntmps117
 go_wp2
 go_ret;exact ⟨rfl,(aa.refl _ _).alloc _⟩
def findG (x:Int):List (Int × Int)->Nat
 | []=>0
 | e :: l=>if e.1=x then 0 else findG x l+1
def lA (x:Int) (l:List (Int × Int)):Int:=if findG x l<l.length then (findG x l:Int) else -1
theorem qN {x:Int}:∀ {l:List (Int × Int)} {k:Nat},k<l.length->(∀ j,j<k->(l.getD j (0,0)).1≠x)->(l.getD k (0,0)).1=x->findG x l=k
 | e :: l,0,_,_,h=>by simp at h;simp [findG,h]
 | e :: l,k+1,hk,hj,h=>by
  have h0:=hj 0 (by omega);simp at h0;simp only [findG,h0,if_false];rw [qN (k:=k) (by simpa using hk) (λj hjk=>by simpa using hj (j+1) (by omega)) (by simpa using h)]
theorem qO {x:Int}:∀ {l:List (Int × Int)},(∀ j,j<l.length->(l.getD j (0,0)).1≠x)->findG x l=l.length
 | [],_=>rfl
 | e :: l,h=>by
  have h0:=h 0 (by simp);simp at h0;simp only [findG,h0,if_false];rw [qO (λj hj=>by simpa using h (j+1) (by simpa using hj))];rfl
theorem jY (ao:Option Addr) (cap b:Nat) (x:Int) (l:List (Int × Int)) (w:World) (h:Rd w ao (aH l)) (hc:w.cell? ⟨b,0,none⟩=some (.int .i64 x)) (hl:l.length<=9223372036854775806) (hb:b<w.heap.size) :
  Calls Tryz.prog 116 #[.slice ao l.length cap, .func (.func 117) #[] #[.pointer (some ⟨b,0,none⟩)]] w λe w'=>
   e=.returned (.int .i64 (lA x l))/\aa (λ_=>False) w w':=by
 have HR:=Hz h;have HB:=Hz hc;clear h hc;go_enter Tryz.func116,Tryz.ntmps116;go_wp2_with fail;go_loopw [8] (λi wr=>∃ k:Nat,k<=l.length/\i=.int .i64 k/\Hd (∀ j,j<k->(l.getD j (0,0)).1≠x)/\aa (λ_=>False) w wr) (λi _=>l.length-(intOf i).toNat)
 case atStart=>exact ⟨0,Zc _,rfl,(λj hj=>by omega),aa.refl _ _⟩
 case round=>
  obtain ⟨k,hk,rfl,hno,hkk⟩:=hrel;have HK:=Hz hkk;clear hkk;by_cases hlt:k<l.length
  ·obtain ⟨g,o,rfl,_,hc0,hc1⟩:=(HR.o.ab HK.o (λ_ _ _ h=>h)).fZ k hlt;have hbb:wr.cell? ⟨b,0,none⟩=some (.int .i64 x):=by
    rw [<-HB.o];exact World.cell?_of_block (w:=w) (a:=⟨b,0,none⟩) (HK.o.block b hb (λh=>h))
   have hbs:b<wr.heap.size:=Zd hb HK.o.size;generalize hv:l.getD k (0,0)=v at *;have HV:=Hz hv;clear hv;cases he:(v.1 == x)
   ·go_wp2_with (go_at_call 117;refine (xY b x v.1 v.2 _ hbb hbs).mono ?_;rintro e w2 ⟨rfl,hk2⟩);go_roundw
    case rel=>exact ⟨k+1,by omega,by go_num,λj hj=>by
     by_cases e:j=k
     ·subst e;rw [HV.o];simpa using he
     ·exact hno.o j (by omega),HK.o.trans hk2⟩
    case measure=>simp [intOf];omega
   ·have HE:=Hz (qN hlt hno.o (by rw [HV.o];simpa using he));go_wp2_with (go_at_call 117;refine (xY b x v.1 v.2 _ hbb hbs).mono ?_;rintro e w2 ⟨rfl,hk2⟩);go_ret;exact ⟨cS (by unfold lA;rw [HE.o,if_pos hlt]),HK.o.trans hk2⟩
  ·obtain rfl:k=l.length:=by omega
   have HE:=Hz (qO hno.o);go_wp2_with fail;go_ret;exact ⟨cS (by unfold lA;rw [HE.o,if_neg (by omega)]),HK.o⟩
theorem p8 {l:List (Int × Int)} {u:Value} (h:u ∈ aH l):u.oneCell'=true:=by
 simp only [aH,List.mem_flatMap] at h;obtain ⟨e,_,he⟩:=h;simp at he;rcases he with rfl | rfl <;> rfl
theorem fF (e:Int × Int) (l:List (Int × Int)):aH (e :: l)=.int .i64 e.1 :: .int .i64 e.2 :: aH l:=by simp [aH]
theorem mT:∀ {l:List (Int × Int)} {i:Nat},i<l.length->aH (l.eraseIdx i)=(aH l).take (i*2) ++ (aH l).drop ((i+1)*2)
 | e :: l,0,_=>by simp [fF]
 | e :: l,i+1,h=>by
  have ih:=mT (l:=l) (i:=i) (by simpa using h);have e1:(i+1)*2=i*2+1+1:=by omega
  have e2:(i+1+1)*2=i*2+1+1+1+1:=by omega
  rw [List.eraseIdx_cons_succ,fF,fF,ih,e2,e1]
  rfl
theorem vV {cur news rest:List Value} {o k j:Nat} (hk:o+k<=cur.length) (hj:j=k+news.length) (tail:List Value) :
  (((cur.take (o+k) ++ news ++ tail).take (o+j) ++ rest).drop o).take j=(cur.drop o).take k ++ news:=by
 subst hj;have h1:(cur.take (o+k) ++ news ++ tail).take (o+(k+news.length))=cur.take (o+k) ++ news:=by
  apply List.take_left';simp;omega
 rw [h1,List.append_assoc,List.drop_append_of_le_length (by simp;omega),List.drop_take,show o+k-o=k by omega,<-List.append_assoc];apply List.take_left';simp;omega
theorem tQ (g o cap i m:Nat) (l:List (Int × Int)) (cur:List Value) (w:World) (hb:ak w g cur 119) (hn:l.length=i+1+m) (hcap:i+1+m<=cap) (hcm:cap<=9223372036854775807) (hoc:o+cap*2<=cur.length)
  (hx:(cur.drop o).take (l.length*2)=aH l) :
  Calls Tryz.prog 118 #[.slice (some ⟨g,o,none⟩) (i+1+m) cap, .int .i64 i, .int .i64 ((i:Int)+1)] w λe w'=>
   e=.returned (.slice (some ⟨g,o,none⟩) (i+m) cap)/\Sl w' 119 2 (.slice (some ⟨g,o,none⟩) (i+m) cap) (i+m) (aH (l.eraseIdx i))/\aa (·=g) w w':=by
 obtain ⟨i0,hi0,hz0,hz1,hz2⟩:=info_parts iF;have Hi:=Hz hi0;have Hz1:=Hz hz1;clear hi0 hz0 hz1 hz2;have HX:=Hz hx;have HB:=Hz hb;have HN:=Hz hn;clear hx hb hn;have hne:((i:Int) == (i:Int)+1)=false:=by simp;omega
 have b1:(0:Int)<=(i:Int)+1:=by omega
 have b2:(i:Int)+1<=((i+1+m:Nat):Int):=by omega
 have b3:(i:Int)+1<=(i:Int)+1+(m:Int):=by omega
 have b4:(i:Int)<=(cap:Int):=by omega
 have b5:(i:Int)<=(i:Int)+1:=by omega
 by_cases hcc:cap=i+1
 ·have hif:(if cap=i+1 then some (⟨g,o,none⟩:Addr) else some ⟨g,o+(i+1)*2,none⟩)=some ⟨g,o,none⟩:=if_pos hcc;have hif2:(if cap=i+m then some (⟨g,o,none⟩:Addr) else some ⟨g,o+(i+m)*2,none⟩)=some ⟨g,o+(i+m)*2,none⟩:=if_neg (by omega);have HCC:=Hz hcc;clear hcc;have hm0:m<=0:=by have:=HCC.o;omega
  go_enter Tryz.func118,Tryz.ntmps118;go_wp2_with fail;refine cy [(0,0),(1,0),(2,0),(3,0),(4,0),(5,0),(6,1),(7,0)] (λ_=>True) (by kernel_rfl) (by kernel_rfl) trivial ?_
  iterate 6 (refine bp rfl rfl _ (λw' hG=>by obtain ⟨_⟩:=hG;go_simp;exact bA.mk _ _) (λK hK=>?_);go_simp;refine hK _ ?_;clear hK K)
  refine bB rfl rfl (λK hK=>?_);refine nY (.tmp 22) (.tmp 25) 82 rfl 119 i0 2 Tryz.underlying82 Hi.o Hz1.o g o i cap cur rfl HB.o ⟨g,o,none⟩ m (cap-(i+1)) ((aH l).drop ((i+1)*2)) ?hxq ?hlq ?hnq ?h1q ?hrq hoc ?hkq
  case hxq=>rfl
  case hlq=>rw [List.length_drop,cJ,HN.o];omega
  case hnq=>
   intro j u hu;have hj:=(Zj.1 hu).1;rw [List.length_drop,cJ,HN.o] at hj;omega
  case h1q=>intro u hu;exact p8 (List.mem_of_mem_drop hu)
  case hrq=>omega
  case hkq=>
   refine hK _ _ trivial ?_;clear hK K;have ay:ak (w.drew.setRow g (cur.take (o+i*2) ++ (aH l).drop ((i+1)*2) ++ cur.drop (o+i*2+((aH l).drop ((i+1)*2)).length)).toArray) g _ 119:=ak.setRow (w:=w.drew) HB.o _;have hk1:aa (·=g) w (w.drew.setRow g (cur.take (o+i*2) ++ (aH l).drop ((i+1)*2) ++ cur.drop (o+i*2+((aH l).drop ((i+1)*2)).length)).toArray):=((aa.refl (·=g) w).drew).setRow (g:=g) (.inl rfl) _;generalize hc1:cur.take (o+i*2) ++ (aH l).drop ((i+1)*2) ++ cur.drop (o+i*2+((aH l).drop ((i+1)*2)).length)=c1 at *;generalize w.drew.setRow g _=w1 at *;have hln:((aH l).drop ((i+1)*2)).length=m*2:=by rw [List.length_drop,cJ,HN.o];omega
   have hl1:c1.length=cur.length:=by
    rw [<-hc1];simp only [Zq,Zx,List.length_drop,hln];simp at hln;omega
   obtain ⟨zs,hzl,hclr⟩:=lr (P:=Tryz.prog) w1 82 0 119 (.agg #[.int .i64 0, .int .i64 0]) Tryz.underlying82 (by intro w;kernel_rfl) (by intro u hu;simp [Value.cells] at hu;subst hu;rfl) (by decide) g (o+(i+m)*2) (i+1+m-(i+m)) (cap-(i+m)) _ ay (by rw [hl1];show o+(i+m)*2+(i+1+m-(i+m))*2<=_;omega);generalize hc2:c1.take (o+(i+m)*2) ++ zs ++ c1.drop (o+(i+m)*2+zs.length)=c2 at *;have HB2:=Hz (ay.setRow c2);have HK2:=Hz (hk1.setRow (g:=g) (.inl rfl) c2.toArray);have HL:=Hz hl1;have HZ:=Hz hzl;have HLN:=Hz hln;have HC1:=Hz hc1;have HC2:=Hz hc2;clear ay hk1 hl1 hzl hln hc1 hc2
   iterate 1 (refine bp rfl rfl _ (λw' hG=>by obtain ⟨_⟩:=hG;go_simp;exact bA.mk _ _) (λK hK=>?_);go_simp;refine hK _ ?_;clear hK K)
   refine dE ?_;go_wp2_with fail;go_ret;refine ⟨rfl,⟨?_, .inr ⟨g,o,cap,_,rfl,HB2.o,by omega,by unfold maxLen;omega,?_,?_⟩⟩,HK2.o⟩
   ·rw [cJ,List.length_eraseIdx_of_lt (by rw [HN.o];omega),HN.o];omega
   ·have h1:=HL.o;have h2:=HZ.o;have h3:zs.length=(i+1+m-(i+m))*2:=h2;rw [<-HC2.o];simp only [Zq,Zx,List.length_drop];omega
   ·rw [<-HC2.o,<-HC1.o,List.append_assoc _ zs _,vV (by omega) (by rw [HLN.o];omega),mT (by rw [HN.o];omega)];congr 1;rw [<-HX.o,HN.o,List.take_take,Nat.min_eq_left (by omega)]
 ·go_enter Tryz.func118,Tryz.ntmps118;go_wp2_with fail;refine cy [(0,0),(1,0),(2,0),(3,0),(4,0),(5,0),(6,1),(7,0)] (λ_=>True) (by kernel_rfl) (by kernel_rfl) trivial ?_
  iterate 6 (refine bp rfl rfl _ (λw' hG=>by obtain ⟨_⟩:=hG;go_simp;exact bA.mk _ _) (λK hK=>?_);go_simp;refine hK _ ?_;clear hK K)
  refine bB rfl rfl (λK hK=>?_);refine nY (.tmp 22) (.tmp 25) 82 rfl 119 i0 2 Tryz.underlying82 Hi.o Hz1.o g o i cap cur rfl HB.o ⟨g,o+(i+1)*2,none⟩ m (cap-(i+1)) ((aH l).drop ((i+1)*2)) ?hx ?hl ?hn ?h1 ?hr hoc ?hk
  case hx=>rfl
  case hl=>rw [List.length_drop,cJ,HN.o];omega
  case hn=>
   intro j u hu;have hj:=(Zj.1 hu).1;rw [List.length_drop,cJ,HN.o] at hj;rw [fw]
   show w.cell? ⟨g,o+(i+1)*2+j,none⟩=some u
   rw [HB.o.cell,<-hu,<-HX.o,HN.o,List.getElem?_drop,List.getElem?_take,if_pos (by omega),List.getElem?_drop];congr 1;omega
  case h1=>intro u hu;exact p8 (List.mem_of_mem_drop hu)
  case hr=>omega
  case hk=>
   refine hK _ _ trivial ?_;clear hK K;have ay:ak (w.drew.setRow g (cur.take (o+i*2) ++ (aH l).drop ((i+1)*2) ++ cur.drop (o+i*2+((aH l).drop ((i+1)*2)).length)).toArray) g _ 119:=ak.setRow (w:=w.drew) HB.o _;have hk1:aa (·=g) w (w.drew.setRow g (cur.take (o+i*2) ++ (aH l).drop ((i+1)*2) ++ cur.drop (o+i*2+((aH l).drop ((i+1)*2)).length)).toArray):=((aa.refl (·=g) w).drew).setRow (g:=g) (.inl rfl) _;generalize hc1:cur.take (o+i*2) ++ (aH l).drop ((i+1)*2) ++ cur.drop (o+i*2+((aH l).drop ((i+1)*2)).length)=c1 at *;generalize w.drew.setRow g _=w1 at *;have hln:((aH l).drop ((i+1)*2)).length=m*2:=by rw [List.length_drop,cJ,HN.o];omega
   have hl1:c1.length=cur.length:=by
    rw [<-hc1];simp only [Zq,Zx,List.length_drop,hln];simp at hln;omega
   obtain ⟨zs,hzl,hclr⟩:=lr (P:=Tryz.prog) w1 82 0 119 (.agg #[.int .i64 0, .int .i64 0]) Tryz.underlying82 (by intro w;kernel_rfl) (by intro u hu;simp [Value.cells] at hu;subst hu;rfl) (by decide) g (o+(i+m)*2) (i+1+m-(i+m)) (cap-(i+m)) _ ay (by rw [hl1];show o+(i+m)*2+(i+1+m-(i+m))*2<=_;omega);generalize hc2:c1.take (o+(i+m)*2) ++ zs ++ c1.drop (o+(i+m)*2+zs.length)=c2 at *;have HB2:=Hz (ay.setRow c2);have HK2:=Hz (hk1.setRow (g:=g) (.inl rfl) c2.toArray);have HL:=Hz hl1;have HZ:=Hz hzl;have HLN:=Hz hln;have HC1:=Hz hc1;have HC2:=Hz hc2;clear ay hk1 hl1 hzl hln hc1 hc2
   iterate 1 (refine bp rfl rfl _ (λw' hG=>by obtain ⟨_⟩:=hG;go_simp;exact bA.mk _ _) (λK hK=>?_);go_simp;refine hK _ ?_;clear hK K)
   refine dE ?_;go_wp2_with fail;go_ret;refine ⟨rfl,⟨?_, .inr ⟨g,o,cap,_,rfl,HB2.o,by omega,by unfold maxLen;omega,?_,?_⟩⟩,HK2.o⟩
   ·rw [cJ,List.length_eraseIdx_of_lt (by rw [HN.o];omega),HN.o];omega
   ·have h1:=HL.o;have h2:=HZ.o;have h3:zs.length=(i+1+m-(i+m))*2:=h2;rw [<-HC2.o];simp only [Zq,Zx,List.length_drop];omega
   ·rw [<-HC2.o,<-HC1.o,List.append_assoc _ zs _,vV (by omega) (by rw [HLN.o];omega),mT (by rw [HN.o];omega)];congr 1;rw [<-HX.o,HN.o,List.take_take,Nat.min_eq_left (by omega)]
end
section
open Go.RowKit
theorem zm (p:Nat) (rv wv:Value) (ai wait:List (Int × Int)) (x:Int) (w:World) (h:a7 w p rv wv ai wait) (h2:wait.length<=1000000) (hf:¬ findG x wait<wait.length) :
  Calls Tryz.prog 63 #[.pointer (some ⟨p,0,none⟩), .int .i64 x] w λe w'=>e=.returned (.tuple #[.int .i64 0, .bool false])/\aa (λ_=>False) w w':=by
 obtain ⟨wo,wc,rfl,hrd,_,_⟩:=h.hw.rd;have hka:=(Kz w).alloc (.cells #[.int .i64 x] 2);have H:=Hz (h.ab hka (λ_ _ h=>h));have c1:=H.o.hp.cell 1;simp only [Lz,aB] at c1;have HR:=Hz (hrd.ab hka (λ_ _ _ h=>h));have HE:=Hz (show lA x wait=-1 by unfold lA;rw [if_neg hf]);have hbx:(w.alloc (.cells #[.int .i64 x] 2)).cell? ⟨w.heap.size,0,none⟩=some (.int .i64 x):=by simp
 have HBX:=Hz hbx;clear h hrd hka hf hbx;go_enter Tryz.func63,Tryz.ntmps63;go_wp2_with fail;refine (jY wo wc w.heap.size x wait _ HR.o HBX.o (by omega) (by simp)).mono ?_;rintro e w1 ⟨rfl,hk⟩;rw [HE.o];go_wp2_with fail;go_ret2;exact ⟨rfl,((aa.refl _ _).alloc _).trans hk⟩
theorem Sl.laid {w:World} {e size:Nat} {v:Value} {n:Nat} {xs:List Value} (h:Sl w e size v n xs) (hn:0<n) :
  ∃ g o cap cur,v=.slice (some ⟨g,o,none⟩) n cap/\ak w g cur e/\n<=cap/\cap<=maxLen/\o+cap*size<=cur.length/\(cur.drop o).take (n*size)=xs:=by
 rcases h.2 with ⟨_,h0⟩ | h
 ·omega
 ·exact h
theorem zn (p:Nat) (rv wv:Value) (ai wait:List (Int × Int)) (x:Int) (i m:Nat) (w:World) (h:a7 w p rv wv ai wait) (h2:wait.length<=1000000) (hf:findG x wait=i) (hm:wait.length=i+1+m) :
  Calls Tryz.prog 63 #[.pointer (some ⟨p,0,none⟩), .int .i64 x] w λe w'=>e=.returned (.tuple #[.int .i64 (wait.getD i (0,0)).2, .bool true])/\tP w p rv wv w' ai (wait.eraseIdx i):=by
 have HW:=Hz h;have hka:=(Kz w).alloc (.cells #[.int .i64 x] 2);have h1:=h.ab hka (λ_ _ h=>h);obtain ⟨g,o,cap,cur,rfl,hb,hnc,hcm,hoc,hx⟩:=h1.hw.laid (by omega);obtain ⟨_,_,e,hrd,_,_⟩:=h1.hw.rd;cases e;have H:=Hz h1;have c1:=H.o.hp.cell 1;simp only [Lz,aB] at c1;have HR:=Hz hrd;have HE:=Hz (show lA x wait=(i:Int) by unfold lA;rw [hf,if_pos (by omega)]);have hbx:(w.alloc (.cells #[.int .i64 x] 2)).cell? ⟨w.heap.size,0,none⟩=some (.int .i64 x):=by simp
 have HBX:=Hz hbx;have HM:=Hz hm;have hcm':cap<=9223372036854775807:=by simpa [maxLen] using hcm
 have HX:=Hz hx;have HB:=Hz hb;have hlo:i+1+m<=wait.length:=by omega
 have h2':i+1+m<=1000000:=by omega
 have hlt:i<wait.length:=by omega
 clear h hrd hf hbx hm h1 hka hx hb hcm;go_enter Tryz.func63,Tryz.ntmps63;go_wp2_with fail;refine (jY (some ⟨g,o,none⟩) cap w.heap.size x wait _ HR.o HBX.o (by omega) (by simp)).mono ?_;rintro e w1 ⟨rfl,hk⟩;rw [HE.o];have HK1:=Hz (((aa.refl (aG p rv (.slice (some ⟨g,o,none⟩) wait.length cap)) w).alloc (.cells #[.int .i64 x] 2)).trans (hk.mono λ_ _ h=>h.elim));have H1:=Hz (H.o.ab hk (λ_ _ h=>h));have HB1:=Hz (hk.au HB.o (λh=>h));obtain ⟨g',o',e',_,d0,d1⟩:=((HR.o.ab hk (λ_ _ _ h=>h))).fZ i (by omega);cases e';clear hk c1;have c1:=H1.o.hp.cell 1;simp only [Lz,aB] at c1;have ht:(i:Int)<((wait.length:Nat):Int):=by omega
 generalize hv:wait.getD i (0,0)=v at *;have HV:=Hz hv;clear hv;go_wp2_with fail;rw [HM.o];refine (tQ g o cap i m wait cur _ HB1.o HM.o (by omega) hcm' hoc HX.o).mono ?_;rintro e w2 ⟨rfl,hs2,hk2⟩;have hpg:p≠g:=λe=>by subst e;exact (HB1.o.ne H1.o.hp (by decide)) rfl
 have HP2:=Hz (hk2.au H1.o.hp hpg);have HR2:=Hz (H1.o.hr.ab hk2 (by rintro b hb rfl;exact H1.o.ap b ⟨hb,rfl⟩));have HK2:Hd (aa (aG p rv (.slice (some ⟨g,o,none⟩) wait.length cap)) w w2):=HK1.o.trans (hk2.mono (by rintro k _ rfl;exact .inr (.inr rfl)));have HS2:=Hz hs2;have e1:=HP2.o.cell 1;have f1:=HP2.o.free 1;simp only [Lz,aB] at e1;clear hs2 hk2 c1 d0 d1;go_wp2_with fail;go_ret2;have hlen:(wait.eraseIdx i).length=i+m:=by rw [List.length_eraseIdx_of_lt hlt,HM.o];omega
 refine ⟨by rw [HV.o];rfl,rv, .slice (some ⟨g,o,none⟩) (i+m) cap,⟨by simpa using HP2.o.aE 1 _,HR2.o.ab ((aa.refl (·=p) w2).setCell (p:=⟨p,1,none⟩) (.inl rfl) _) ?_,?_,?_⟩,HK2.o.setCell (p:=⟨p,1,none⟩) (.inl (.inl rfl)) _,?_⟩
 ·rintro b hb rfl;exact HW.o.pr hb
 ·rw [hlen];exact HS2.o.ab ((aa.refl (·=p) w2).setCell (p:=⟨p,1,none⟩) (.inl rfl) _) (by rintro b hb rfl;simp [aq,Value.ownBlock] at hb;exact hpg hb.symm)
 ·rintro k ⟨a1,a2⟩;exact HW.o.ap k ⟨a1,a2⟩
 ·rintro k (a | a | a)
  ·exact .inl (.inl a)
  ·exact .inl (.inr (.inl a))
  ·exact .inl (.inr (.inr a))
theorem qP:(Tryz.prog.info? 2).map (λi=>(i.zero,i.size,i.bytes))=some (some (.int .i64 0),1,8):=by kernel_rfl
def gM (x:Int) (l:List (Int × Int)):List Int:=(l.filter λe=>e.1 == x).map (·.2)
theorem tR {x:Int} {l:List (Int × Int)} {k:Nat} (h:k<l.length):gM x (l.take (k+1))=gM x (l.take k) ++ if ((l.getD k (0,0)).1 == x)=true then [(l.getD k (0,0)).2] else []:=by
 unfold gM;rw [List.take_succ_eq_append_getElem h,List.filter_append,List.map_append];congr 1;have hg:l.getD k (0,0)=l[k]:=by simp [List.getD,h]
 rw [hg];cases hc:(l[k].1 == x) <;> simp [hc]
theorem qQ (x:Int) (l:List (Int × Int)):(gM x l).length<=l.length:=by
 unfold gM;rw [Zp];exact List.length_filter_le _ _
def tS (w:World) (e:Ending) (w':World) (l:List Int):Prop:=
 ∃ ao cap,e=.returned (.slice ao l.length cap)/\Sl w' 2 1 (.slice ao l.length cap) l.length (l.map (Value.int .i64))/\aa (λ_=>False) w w'/\∀ k,aq (.slice ao l.length cap) k->w.heap.size<=k
theorem Eg (p:Nat) (rv wv:Value) (ai wait:List (Int × Int)) (x:Int) (w:World) (h:a7 w p rv wv ai wait) (h2:wait.length<=1000000) :
  Calls Tryz.prog 113 #[.pointer (some ⟨p,0,none⟩), .int .i64 x] w λe w'=>tS w e w' (gM x wait):=by
 obtain ⟨i0,hi,hz0,hz1,hz2⟩:=info_parts qP;have Hi:=Hz hi;have Hz0:=Hz hz0;have Hz1:=Hz hz1;have Hz2:=Hz hz2;clear hi hz0 hz1 hz2;obtain ⟨wo,wc,rfl,hrd,_,_⟩:=h.hw.rd;have c1:=h.hp.cell 1;simp only [Lz,aB] at c1;have H:=Hz h;have HR:=Hz hrd;clear h hrd;go_enter Tryz.func113,Tryz.ntmps113;go_wp2_with fail;go_loopw [5,13] (λv i wr=>∃ k:Nat,k<=wait.length/\i=.int .i64 k/\Sl wr 2 1 v (gM x (wait.take k)).length ((gM x (wait.take k)).map (Value.int .i64))/\aa (λ_=>False) w wr/\∀ k,aq v k->w.heap.size<=k) (λ_ i _=>wait.length-(intOf i).toNat)
 case atStart=>exact ⟨0,Zc _,rfl,by simpa [gM] using Sl.nil w 2 1,aa.refl _ _,by intro k hk;simp [aq,Value.ownBlock] at hk⟩
 case round=>
  obtain ⟨k,hk,rfl,hs,hkk,how⟩:=hrel;have HK:=Hz hkk;have HS:=Hz hs;have HO:=Hz how;clear hkk hs how;have hal:(gM x (wait.take k)).length<=k:=Za (qQ _ _) (List.length_take_le _ _);by_cases hlt:k<wait.length
  ·obtain ⟨g,o,rfl,_,d0,d1⟩:=((HR.o.ab HK.o (λ_ _ _ h=>h))).fZ k hlt;have HST:=Hz (tR (x:=x) hlt);generalize wait.getD k (0,0)=v at *;cases hv:(v.1 == x)
   ·go_wp2_with fail;go_roundw
    case rel=>exact ⟨k+1,by omega,by go_num,by rw [HST.o,hv];simpa using HS.o.ab ((Kz wr).alloc _) (λ_ _ h=>h),HK.o.alloc _,HO.o⟩
    case measure=>simp [intOf];omega
   ·go_wp2_with (at_builtin;refine cE rfl (.tmp 21) (.tmp 24) 73 rfl 2 i0 (.int .i64 0) 1 8 Tryz.underlying73 Hi.o Hz0.o Hz1.o Hz2.o rfl (by decide) _ (gM x (wait.take k)).length ((gM x (wait.take k)).map (Value.int .i64)) rfl ?ha ⟨wr.heap.size+1,0,none⟩ 1 1 [.int .i64 v.2] rfl rfl ?hb ?hc ?hd ?he ?hf)
    case ha=>exact HS.o.ab (((Kz wr).alloc _).alloc _) (λ_ _ h=>h)
    case hb=>
     have:=bV (wr.alloc (Obj.cells #[.int .i64 v.1, .int .i64 v.2] 119)) 2 #[.int .i64 v.2];simpa using this
    case hc=>intro u hu;simp at hu;subst hu;rfl
    case hd=>unfold maxLen;omega
    case he=>omega
    case hf=>
     intro v2 w2 hs2 hk2 ho2;have HK2:=Hz (((HK.o.alloc (Obj.cells #[.int .i64 v.1, .int .i64 v.2] 119)).alloc (Obj.cells #[.int .i64 v.2] 2)).then hk2 (λj hj=>.inr (HO.o j hj)));have HO2:Hd (∀ j,aq v2 j->w.heap.size<=j):=λj hj=>by
      rcases ho2 j hj with h | h
      ·exact HO.o j h
      ·have:=HK.o.size;first | omega | (simp at h;omega)
     have HS2:=Hz hs2;clear hs2 hk2 ho2;go_wp2_with fail;go_roundw
     case rel=>exact ⟨k+1,by omega,by go_num,by rw [HST.o,if_pos hv];simpa using HS2.o,HK2.o,HO2.o⟩
     case measure=>simp [intOf];omega
  ·obtain rfl:k=wait.length:=by omega
   go_wp2_with fail;go_ret;have hs:=HS.o;rw [List.take_length] at hs;obtain ⟨ao,cap,rfl,_,_,_⟩:=hs.rd;exact ⟨ao,cap,rfl,hs,HK.o,HO.o⟩
def A7 (w:World) (e:Ending) (w':World) (l:List (Int × Int)):Prop:=
 ∃ ao cap,e=.returned (.slice ao l.length cap)/\Sl w' 119 2 (.slice ao l.length cap) l.length (aH l)/\aa (λ_=>False) w w'/\∀ k,aq (.slice ao l.length cap) k->w.heap.size<=k
theorem py (v:Value) (l:List (Int × Int)) (w:World) (h:Sl w 119 2 v l.length (aH l)) (hl:l.length<=1000000) :
  Calls Tryz.prog 131 #[v] w λe w'=>A7 w e w' l:=by
 obtain ⟨i0,hi,hz0,hz1,hz2⟩:=info_parts iF;have Hi:=Hz hi;have Hz0:=Hz hz0;have Hz1:=Hz hz1;have Hz2:=Hz hz2;clear hi hz0 hz1 hz2;have hxl:=h.1;rcases h.2 with ⟨rfl,hn⟩ | ⟨g,o,cap,cur,rfl,hb,hnc,hcm,hoc,hx⟩
 ·have hl0:l=[]:=List.eq_nil_of_length_eq_zero hn;subst hl0;have hne:=λ(wx:World)=>Lib.run_eql_slice_nil (P:=Tryz.prog) wx 82 119 none 0 0 0 0 Tryz.underlying82;go_enter Tryz.func131,Tryz.ntmps131;go_wp2_with fail;go_ret;exact ⟨none,0,rfl,Sl.nil _ _ _,aa.refl _ _,by intro k hk;simp [aq,Value.ownBlock] at hk⟩
 ·have hne:=λ(wx:World)=>Lib.run_eql_slice_nil (P:=Tryz.prog) wx 82 119 (some ⟨g,o,none⟩) l.length cap 0 0 Tryz.underlying82;have HX:=Hz hx;have HB:=Hz hb;clear hx hb h hxl;go_enter Tryz.func131,Tryz.ntmps131;go_wp2_with (at_builtin;refine cE rfl (.tmp 5) (.tmp 6) 82 rfl 119 i0 (.agg #[.int .i64 0, .int .i64 0]) 2 16 Tryz.underlying82 Hi.o Hz0.o Hz1.o Hz2.o rfl (by decide) _ 0 [] rfl ?ha ⟨g,o,none⟩ l.length cap (aH l) rfl ?hl ?hb ?hc ?hd ?he ?hf)
  case ha=>exact ⟨rfl, .inr ⟨w.heap.size,0,0,[],rfl,ak.newAt _ rfl rfl,Zb _,Zc _,by simp,by simp⟩⟩
  case hl=>exact cJ l
  case hb=>
   intro j u hu;have hj:=(Zj.1 hu).1;rw [cJ] at hj;rw [fw,(HB.o.alloc _).cell,<-hu,<-HX.o,List.getElem?_take,if_pos hj,List.getElem?_drop]
  case hc=>intro u hu;exact p8 hu
  case hd=>unfold maxLen;omega
  case he=>omega
  case hf=>
   intro v2 w2 hs2 hk2 ho2;go_wp2_with fail;go_ret;obtain ⟨ao,c2,rfl,_,_,_⟩:=hs2.rd;refine ⟨ao,c2,rfl,hs2,((Kz w).alloc _).then hk2 (λj hj=>by simp [aq,Value.ownBlock] at hj;exact .inr (by omega)),λj hj=>?_⟩;rcases ho2 j hj with h | h
   ·simp [aq,Value.ownBlock] at h;omega
   ·first | omega | (simp at h;omega)
def vW (w:World) (e:Ending) (w':World) (ai wait:List (Int × Int)):Prop:=
 ∃ p' rv' wv',e=.returned (.pointer (some ⟨p',0,none⟩))/\a7 w' p' rv' wv' ai wait/\aa (λ_=>False) w w'/\∀ k,aG p' rv' wv' k->w.heap.size<=k
theorem Cv (p:Nat) (rv wv:Value) (ai wait:List (Int × Int)) (w:World) (h:a7 w p rv wv ai wait) (h1:ai.length<=1000000) (h2:wait.length<=1000000) :
  Calls Tryz.prog 85 #[.pointer (some ⟨p,0,none⟩)] w λe w'=>vW w e w' ai wait:=by
 obtain ⟨ro,rc,rfl,_,_,_⟩:=h.hr.rd;obtain ⟨wo,wc,rfl,_,_,_⟩:=h.hw.rd;have c0:=h.hp.cell 0;have c1:=h.hp.cell 1;simp only [Lz,aB] at c0 c1;have H:=Hz h;clear h;go_enter Tryz.func85,Tryz.ntmps85;go_wp2_with fail;refine cy [(0,0),(1,0),(2,0),(5,0),(6,0),(7,0),(3,0),(8,0),(4,1),(9,1),(10,0),(11,1),(12,0)] (λw'=>w'.cell? ⟨p,0,none⟩=some (.slice ro ai.length rc)/\w'.cell? ⟨p,1,none⟩=some (.slice wo wait.length wc)) (by kernel_rfl) (by kernel_rfl) ⟨c0,c1⟩ ?_
 iterate 8 (refine bp rfl rfl _ (λw' hG=>by obtain ⟨g0,g1⟩:=hG;go_simp;exact bA.mk _ _) (λK hK=>?_);go_simp;refine hK _ ?_;clear hK K)
 refine bB rfl rfl (λK hK=>?_);unfold ax;go_simp;refine (py _ ai _ (H.o.hr.ab ((Kz w).drew) (λ_ _ h=>h)) h1).mono ?_;rintro e w1 ⟨ao,ac,rfl,hs,hk,ho⟩;have HK1:=Hz (((Kz w).drew).trans hk);have H1:=Hz (H.o.ab HK1.o (λ_ _ h=>h));have HS:=Hz hs;have HO:=Hz ho;have HSL:Hd (∀ k,aq (.slice ao ai.length ac) k->k<w1.heap.size):=λk hk=>(HS.o.own hk).1;clear hs hk ho;refine hK _ _ ⟨H1.o.hp.cell 0,H1.o.hp.cell 1⟩ ?_;clear hK K;refine bB rfl rfl (λK hK=>?_);unfold ax;go_simp;refine (py _ wait _ H1.o.hw h2).mono ?_;rintro e w2 ⟨bo,bc,rfl,hs,hk,ho⟩;have HK2:=Hz (HK1.o.trans hk);have H2:=Hz (H1.o.ab hk (λ_ _ h=>h));have HS1:=Hz (HS.o.ab hk (λ_ _ h=>h));have HS2:=Hz hs;have HO2:=Hz ho;have hsz:=HK1.o.size;clear hs hk ho HS;refine hK _ _ ⟨H2.o.hp.cell 0,H2.o.hp.cell 1⟩ ?_;clear hK K
 iterate 1 (refine bp rfl rfl _ (λw' hG=>by obtain ⟨g0,g1⟩:=hG;go_simp;exact bA.mk _ _) (λK hK=>?_);go_simp;refine hK _ ?_;clear hK K)
 refine bB rfl rfl (λK hK=>?_);unfold ax;go_simp;refine hK _ _ ?_ ?_
 ·have:=H2.o.hp.alloc (Obj.cells #[Value.slice ao ai.length ac,Value.slice bo wait.length bc] 84);exact ⟨this.cell 0,this.cell 1⟩
 clear hK K
 iterate 1 (refine bp rfl rfl _ (λw' hG=>by obtain ⟨g0,g1⟩:=hG;go_simp;exact bA.mk _ _) (λK hK=>?_);go_simp;refine hK _ ?_;clear hK K)
 refine dE ?_;go_wp2_with fail;go_ret;refine ⟨w2.heap.size, .slice ao ai.length ac, .slice bo wait.length bc,rfl,⟨.newAt _ rfl rfl,HS1.o.ab ((Kz w2).alloc _) (λ_ _ h=>h),HS2.o.ab ((Kz w2).alloc _) (λ_ _ h=>h),?_⟩,HK2.o.alloc _,?_⟩
 ·rintro k ⟨a1,a2⟩;have:=HO2.o k a2;have:=HSL.o k a1;omega
 ·rintro k (a | a | a)
  ·subst a;exact HK2.o.size
  ·exact HO.o k a
  ·exact Za hsz (HO2.o k a)
end
end Go.Proofs.YtjifdalflepcoadGreat
