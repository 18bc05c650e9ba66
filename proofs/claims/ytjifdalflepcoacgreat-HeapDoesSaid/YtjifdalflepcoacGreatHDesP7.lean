/-
  Parts of the proof, merged: what the functions do, and plain laws.
-/
import Derived.Test.YtjifdalflepcoacGreatHDesP5
import Derived.Test.YtjifdalflepcoacGreatHDesP6
import Derived.Test.YtjifdalflepcoacGreatHDesP1
import Derived.Test.YtjifdalflepcoacGreatHDesP0
import Derived.Lib.AppendZeros
set_option maxHeartbeats 16000000
set_option maxRecDepth 100000
set_option linter.unusedVariables false
set_option linter.unusedSimpArgs false
namespace Go.Proofs.YtjifdalflepcoacGreat
section
open Go.RowKit
theorem mK:(Tryz.prog.info? 3).map (fun i=>(i.zero,i.size,i.bytes))=some (some (.int .i64 0),1,8):=by kernel_rfl
structure JH where
 p:Nat
 pa:Nat
 g:Nat
 cp:Nat
 ps:Nat
 ro:Value
 pc:Nat
 lb:Nat
 tb:Nat
def JH.Own (H:JH) (sv ev:Value) (k:Nat):Prop:=k=H.p∨k=H.pa∨k=H.g∨k=H.pc∨k=H.lb∨k=H.tb∨ai sv k∨ai ev k
structure cv (w:World) (H:JH) (sv ev:Value) (A:Ar) (s:Gs) (f:List Int):Prop where
 hp:ah w H.p [.pointer (some ⟨H.pa,0,none⟩), .pointer (some ⟨H.cp,0,none⟩), .pointer (some ⟨H.ps,0,none⟩),H.ro] 52
 ha:bE w H.pa H.g A
 hc:ah w H.pc [.pointer (some ⟨H.p,0,none⟩), .slice (some ⟨H.lb,0,none⟩) s.lv.length s.lv.length, .slice (some ⟨H.tb,0,none⟩) f.length f.length,sv,ev] 124
 hl:ah w H.lb (s.lv.map Value.bool) 4
 ht:ah w H.tb (f.map (Value.int .i64)) 3
 hs:Sl w 3 1 sv s.st.length (s.st.map (Value.int .i64))
 he:Sl w 3 1 ev s.ep.length (s.ep.map (Value.int .i64))
 ap:∀ k,¬ (ai sv k∧ai ev k)
 at_:¬ ai sv H.tb∧¬ ai ev H.tb
def lh (w:World) (H:JH) (sv ev:Value) (A:Ar) (s:Gs) (f:List Int) (w':World):Prop:=
 ∃ sv' ev',cv w' H sv' ev' A s f∧ab (H.Own sv ev) w w'∧∀ k,H.Own sv' ev' k→H.Own sv ev k∨w.heap.size≤k
section
variable {w w':World} {H:JH} {sv ev:Value} {A:Ar} {s:Gs} {f:List Int}
theorem cv.bB (J:cv w H sv ev A s f) {k:Nat} (hk:H.Own sv ev k):∃ l T,ah w k l T∧(T=52∨T=141∨T=2∨T=124∨T=4∨T=3):=by
 rcases hk with rfl | rfl | rfl | rfl | rfl | rfl | hk | hk
 ·exact ⟨_,_,J.hp, .inl rfl⟩
 ·exact ⟨_,_,J.ha.hp, .inr (.inl rfl)⟩
 ·exact ⟨_,_,J.ha.hg, .inr (.inr (.inl rfl))⟩
 ·exact ⟨_,_,J.hc, .inr (.inr (.inr (.inl rfl)))⟩
 ·exact ⟨_,_,J.hl, .inr (.inr (.inr (.inr (.inl rfl))))⟩
 ·exact ⟨_,_,J.ht, .inr (.inr (.inr (.inr (.inr rfl))))⟩
 ·obtain ⟨_,l,h⟩:=J.hs.own hk;exact ⟨_,_,h, .inr (.inr (.inr (.inr (.inr rfl))))⟩
 ·obtain ⟨_,l,h⟩:=J.he.own hk;exact ⟨_,_,h, .inr (.inr (.inr (.inr (.inr rfl))))⟩
theorem cv.bU (J:cv w H sv ev A s f) {k:Nat} (hk:H.Own sv ev k):k<w.heap.size:=by
 obtain ⟨_,_,h,_⟩:=J.bB hk;exact h.lt
theorem cv.ae {S:Nat→Prop} (J:cv w H sv ev A s f) (k:ab S w w') (hn:∀ b,H.Own sv ev b→¬ S b):cv w' H sv ev A s f:=
 ⟨k.ak J.hp (hn _ (.inl rfl)),J.ha.ae k (hn _ (.inr (.inl rfl))) (hn _ (.inr (.inr (.inl rfl)))),k.ak J.hc (hn _ (.inr (.inr (.inr (.inl rfl))))),k.ak J.hl (hn _ (.inr (.inr (.inr (.inr (.inl rfl)))))),
  k.ak J.ht (hn _ (.inr (.inr (.inr (.inr (.inr (.inl rfl))))))),J.hs.ae k (fun b hb=>hn b (.inr (.inr (.inr (.inr (.inr (.inr (.inl hb)))))))),J.he.ae k (fun b hb=>hn b (.inr (.inr (.inr (.inr (.inr (.inr (.inr hb)))))))),J.ap,J.at_⟩
theorem cv.same (J:cv w H sv ev A s f) (k:ab (fun _=>False) w w'):cv w' H sv ev A s f:=J.ae k (fun _ _ h=>h)
theorem lh.refl (J:cv w H sv ev A s f):lh w H sv ev A s f w:=⟨sv,ev,J,ab.refl _ _,fun _ h=>.inl h⟩
theorem lh.join {w1:World} {sv1 ev1:Value} (k1:ab (H.Own sv ev) w w1) (o1:∀ k,H.Own sv1 ev1 k→H.Own sv ev k∨w.heap.size≤k) (t:lh w1 H sv1 ev1 A s f w'):lh w H sv ev A s f w':=by
 obtain ⟨a2,b2,J2,k2,o2⟩:=t;refine ⟨a2,b2,J2,k1.then k2 o1,fun k hk=>?_⟩;rcases o2 k hk with h | h
 ·exact o1 k h
 ·exact .inr (Nat.le_trans k1.size h)
def lP (w:World) (H:JH) (sv ev:Value) (A:Ar) (s:Gs) (f:List Int) (w':World):Prop:=
 ∃ sv',cv w' H sv' ev A s f∧ab (H.Own sv ev) w w'∧∀ k,H.Own sv' ev k→H.Own sv ev k∨w.heap.size≤k
theorem lP.to (t:lP w H sv ev A s f w'):lh w H sv ev A s f w':=by
 obtain ⟨a,J,k,o⟩:=t;exact ⟨a,ev,J,k,o⟩
theorem lP.refl (J:cv w H sv ev A s f):lP w H sv ev A s f w:=⟨sv,J,ab.refl _ _,fun _ h=>.inl h⟩
theorem lP.join {w1:World} {sv1:Value} (k1:ab (H.Own sv ev) w w1) (o1:∀ k,H.Own sv1 ev k→H.Own sv ev k∨w.heap.size≤k) (t:lP w1 H sv1 ev A s f w'):lP w H sv ev A s f w':=by
 obtain ⟨a2,J2,k2,o2⟩:=t;refine ⟨a2,J2,k1.then k2 o1,fun k hk=>?_⟩;rcases o2 k hk with h | h
 ·exact o1 k h
 ·exact .inr (Nat.le_trans k1.size h)
theorem cv.cells (J:cv w H sv ev A s f):w.cell? ⟨H.pc,0,none⟩=some (.pointer (some ⟨H.p,0,none⟩))∧w.cell? ⟨H.pc,1,none⟩=some (.slice (some ⟨H.lb,0,none⟩) s.lv.length s.lv.length)∧w.cell? ⟨H.pc,2,none⟩=some (.slice (some ⟨H.tb,0,none⟩) f.length f.length) ∧
  w.cell? ⟨H.pc,3,none⟩=some sv∧w.cell? ⟨H.pc,4,none⟩=some ev∧w.cell? ⟨H.p,0,none⟩=some (.pointer (some ⟨H.pa,0,none⟩)):=
 ⟨J.hc.cell 0,J.hc.cell 1,J.hc.cell 2,J.hc.cell 3,J.hc.cell 4,J.hp.cell 0⟩
theorem cv.qu (J:cv w H sv ev A s f) {i:Nat} (hi:i<s.lv.length):w.cell? ⟨H.lb,i,none⟩=some (.bool (s.lv.getD i false)):=by
 rw [J.hl.cell];simp [List.getD,hi]
theorem cv.toCell (J:cv w H sv ev A s f) {i:Nat} (hi:i<f.length):w.cell? ⟨H.tb,i,none⟩=some (.int .i64 (f.getD i 0)):=by
 rw [J.ht.cell];simp [List.getD,hi]
theorem cv.Cf (J:cv w H sv ev A s f) (i:Nat):cv (w.setCell ⟨H.lb,i,none⟩ (.bool true)) H sv ev A { s with lv:=s.lv.set i true } f:=by
 have k:=(ab.refl (·=H.lb) w).setCell (p:=⟨H.lb,i,none⟩) (.inl rfl) (.bool true);have ne:∀ {b:Nat} {l:List Value} {T:TypeId},ah w b l T→T≠4→¬ b=H.lb:=fun hb hT=>hb.ne J.hl hT;refine ⟨k.ak J.hp (ne J.hp (by decide)),J.ha.ae k (ne J.ha.hp (by decide)) (ne J.ha.hg (by decide)),?_,?_,k.ak J.ht (ne J.ht (by decide)),J.hs.ae k (fun b hb=>by obtain ⟨_,l,h⟩:=J.hs.own hb;exact ne h (by decide)),J.he.ae k (fun b hb=>by obtain ⟨_,l,h⟩:=J.he.own hb;exact ne h (by decide)),J.ap,J.at_⟩
 ·have:=k.ak J.hc (ne J.hc (by decide));simpa using this
 ·simpa [List.map_set] using J.hl.aO i (.bool true)
theorem cv.Cg (J:cv w H sv ev A s f) (i:Nat) (x:Int):cv (w.setCell ⟨H.tb,i,none⟩ (.int .i64 x)) H sv ev A s (f.set i x):=by
 have k:=(ab.refl (·=H.tb) w).setCell (p:=⟨H.tb,i,none⟩) (.inl rfl) (.int .i64 x);have ne:∀ {b:Nat} {l:List Value} {T:TypeId},ah w b l T→T≠3→¬ b=H.tb:=fun hb hT=>hb.ne J.ht hT;refine ⟨k.ak J.hp (ne J.hp (by decide)),J.ha.ae k (ne J.ha.hp (by decide)) (ne J.ha.hg (by decide)),?_,k.ak J.hl (ne J.hl (by decide)),?_,J.hs.ae k (fun b hb e=>J.at_.1 (e ▸ hb)),J.he.ae k (fun b hb e=>J.at_.2 (e ▸ hb)),J.ap,J.at_⟩
 ·have:=k.ak J.hc (ne J.hc (by decide));simpa using this
 ·simpa [List.map_set] using J.ht.aO i (.int .i64 x)
theorem cv.CD {w1 w2:World} {v2:Value} {i:Int} (J:cv w H sv ev A s f) (k1:ab (fun _=>False) w w1) (hs:Sl w2 3 1 v2 (s.st.length+1) (s.st.map (Value.int .i64) ++ [.int .i64 i])) (k2:ab (ai sv) w1 w2)
  (ho:∀ k,ai v2 k→ai sv k∨w1.heap.size≤k):lP w H sv ev A { s with st:=s.st ++ [i] } f (w2.setCell ⟨H.pc,3,none⟩ v2):=by
 have J1:=J.same k1;have nw:∀ {b:Nat} {l:List Value} {T:TypeId},ah w1 b l T→T≠3→¬ ai sv b:=fun hb hT hv=>by
  obtain ⟨_,l',h⟩:=J1.hs.own hv;exact hb.ne h hT rfl
 have hp2:=k2.ak J1.hp (nw J1.hp (by decide));have hc2:=k2.ak J1.hc (nw J1.hc (by decide));have hl2:=k2.ak J1.hl (nw J1.hl (by decide));have ht2:=k2.ak J1.ht J.at_.1;have ha2:=J1.ha.ae k2 (nw J1.ha.hp (by decide)) (nw J1.ha.hg (by decide));have he2:=J1.he.ae k2 (fun b hb hv=>J.ap b ⟨hv,hb⟩);have set:=(ab.refl (·=H.pc) w2).setCell (p:=⟨H.pc,3,none⟩) (.inl rfl) v2;have ne:∀ {b:Nat} {l:List Value} {T:TypeId},ah w2 b l T→T≠124→¬ b=H.pc:=fun hb hT=>hb.ne hc2 hT;refine ⟨v2,⟨set.ak hp2 (ne hp2 (by decide)),ha2.ae set (ne ha2.hp (by decide)) (ne ha2.hg (by decide)),by simpa using hc2.aO 3 v2,set.ak hl2 (ne hl2 (by decide)),set.ak ht2 (ne ht2 (by decide)),?_,he2.ae set (fun b hb=>by obtain ⟨_,l,h⟩:=he2.own hb;exact ne h (by decide)),?_,⟨fun h=>?_,J.at_.2⟩⟩,?_,?_⟩
 ·have:({ s with st:=s.st ++ [i] }:Gs).st.length=s.st.length+1:=by simp
  rw [this];simpa using hs.ae set (fun b hb=>by obtain ⟨_,l,h⟩:=hs.own hb;exact ne h (by decide))
 ·rintro k ⟨h1,h2⟩;rcases ho k h1 with h | h
  ·exact J.ap k ⟨h,h2⟩
  ·have:=(J1.he.own h2).1;omega
 ·rcases ho _ h with h | h
  ·exact J.at_.1 h
  ·have:=J1.ht.lt;omega
 ·refine ab.setCell ?_ (p:=⟨H.pc,3,none⟩) (.inl (.inr (.inr (.inr (.inl rfl))))) v2;exact (k1.mono fun _ _ h=>h.elim).trans (k2.mono fun k _ hk=>.inr (.inr (.inr (.inr (.inr (.inr (.inl hk)))))))
 ·rintro k (h | h | h | h | h | h | h | h)
  ·exact .inl (.inl h)
  ·exact .inl (.inr (.inl h))
  ·exact .inl (.inr (.inr (.inl h)))
  ·exact .inl (.inr (.inr (.inr (.inl h))))
  ·exact .inl (.inr (.inr (.inr (.inr (.inl h)))))
  ·exact .inl (.inr (.inr (.inr (.inr (.inr (.inl h))))))
  ·rcases ho k h with h | h
   ·exact .inl (.inr (.inr (.inr (.inr (.inr (.inr (.inl h)))))))
   ·exact .inr (Nat.le_trans k1.size h)
  ·exact .inl (.inr (.inr (.inr (.inr (.inr (.inr (.inr h)))))))
theorem cv.yN {w1 w2:World} {v2:Value} {i:Int} (J:cv w H sv ev A s f) (k1:ab (fun _=>False) w w1) (hs:Sl w2 3 1 v2 (s.ep.length+1) (s.ep.map (Value.int .i64) ++ [.int .i64 i])) (k2:ab (ai ev) w1 w2)
  (ho:∀ k,ai v2 k→ai ev k∨w1.heap.size≤k):lh w H sv ev A { s with ep:=s.ep ++ [i] } f (w2.setCell ⟨H.pc,4,none⟩ v2):=by
 have J1:=J.same k1;have nw:∀ {b:Nat} {l:List Value} {T:TypeId},ah w1 b l T→T≠3→¬ ai ev b:=fun hb hT hv=>by
  obtain ⟨_,l',h⟩:=J1.he.own hv;exact hb.ne h hT rfl
 have hp2:=k2.ak J1.hp (nw J1.hp (by decide));have hc2:=k2.ak J1.hc (nw J1.hc (by decide));have hl2:=k2.ak J1.hl (nw J1.hl (by decide));have ht2:=k2.ak J1.ht J.at_.2;have ha2:=J1.ha.ae k2 (nw J1.ha.hp (by decide)) (nw J1.ha.hg (by decide));have hs2:=J1.hs.ae k2 (fun b hb hv=>J.ap b ⟨hb,hv⟩);have set:=(ab.refl (·=H.pc) w2).setCell (p:=⟨H.pc,4,none⟩) (.inl rfl) v2;have ne:∀ {b:Nat} {l:List Value} {T:TypeId},ah w2 b l T→T≠124→¬ b=H.pc:=fun hb hT=>hb.ne hc2 hT;refine ⟨sv,v2,⟨set.ak hp2 (ne hp2 (by decide)),ha2.ae set (ne ha2.hp (by decide)) (ne ha2.hg (by decide)),by simpa using hc2.aO 4 v2,set.ak hl2 (ne hl2 (by decide)),set.ak ht2 (ne ht2 (by decide)),hs2.ae set (fun b hb=>by obtain ⟨_,l,h⟩:=hs2.own hb;exact ne h (by decide)),?_,?_,⟨J.at_.1,fun h=>?_⟩⟩,?_,?_⟩
 ·have:({ s with ep:=s.ep ++ [i] }:Gs).ep.length=s.ep.length+1:=by simp
  rw [this];simpa using hs.ae set (fun b hb=>by obtain ⟨_,l,h⟩:=hs.own hb;exact ne h (by decide))
 ·rintro k ⟨h1,h2⟩;rcases ho k h2 with h | h
  ·exact J.ap k ⟨h1,h⟩
  ·have:=(J1.hs.own h1).1;omega
 ·rcases ho _ h with h | h
  ·exact J.at_.2 h
  ·have:=J1.ht.lt;omega
 ·refine ab.setCell ?_ (p:=⟨H.pc,4,none⟩) (.inl (.inr (.inr (.inr (.inl rfl))))) v2;exact (k1.mono fun _ _ h=>h.elim).trans (k2.mono fun k _ hk=>.inr (.inr (.inr (.inr (.inr (.inr (.inr hk)))))))
 ·rintro k (h | h | h | h | h | h | h | h)
  ·exact .inl (.inl h)
  ·exact .inl (.inr (.inl h))
  ·exact .inl (.inr (.inr (.inl h)))
  ·exact .inl (.inr (.inr (.inr (.inl h))))
  ·exact .inl (.inr (.inr (.inr (.inr (.inl h)))))
  ·exact .inl (.inr (.inr (.inr (.inr (.inr (.inl h))))))
  ·exact .inl (.inr (.inr (.inr (.inr (.inr (.inr (.inl h)))))))
  ·rcases ho k h with h | h
   ·exact .inl (.inr (.inr (.inr (.inr (.inr (.inr (.inr h)))))))
   ·exact .inr (Nat.le_trans k1.size h)
theorem Sl.drop {w:World} {e g o n cap:Nat} {l:List Int} (h:Sl w e 1 (.slice (some ⟨g,o,none⟩) (n+1) cap) (n+1) (l.map (Value.int .i64))):Sl w e 1 (.slice (some ⟨g,o,none⟩) n cap) n (l.dropLast.map (Value.int .i64)):=by
 obtain ⟨g',o',cap',cur,e',hb,h1,h2,h3,h4⟩:=h.laid (by omega);cases e';have hl:=h.len;rw [List.length_map] at hl;refine ⟨by rw [List.length_map,List.length_dropLast];omega, .inr ⟨g,o,cap,cur,rfl,hb,by omega,h2,h3,?_⟩⟩;have e1:l.dropLast=l.take n:=by rw [List.dropLast_eq_take];congr 1;omega
 rw [e1,List.map_take,←h4,List.take_take];congr 1;omega
theorem cv.pop {g o n cap:Nat} (J:cv w H (.slice (some ⟨g,o,none⟩) (n+1) cap) ev A s f) (hn:s.st.length=n+1) :
  cv (w.setCell ⟨H.pc,3,none⟩ (.slice (some ⟨g,o,none⟩) n cap)) H (.slice (some ⟨g,o,none⟩) n cap) ev A { s with st:=s.st.dropLast } f:=by
 have set:=(ab.refl (·=H.pc) w).setCell (p:=⟨H.pc,3,none⟩) (.inl rfl) (.slice (some ⟨g,o,none⟩) n cap);have ne:∀ {b:Nat} {l:List Value} {T:TypeId},ah w b l T→T≠124→¬ b=H.pc:=fun hb hT=>hb.ne J.hc hT;have hs:=J.hs;rw [hn] at hs;have hl:({ s with st:=s.st.dropLast }:Gs).st.length=n:=by show s.st.dropLast.length=n;rw [List.length_dropLast];omega
 refine ⟨set.ak J.hp (ne J.hp (by decide)),J.ha.ae set (ne J.ha.hp (by decide)) (ne J.ha.hg (by decide)),by simpa using J.hc.aO 3 (.slice (some ⟨g,o,none⟩) n cap),set.ak J.hl (ne J.hl (by decide)),set.ak J.ht (ne J.ht (by decide)),?_,J.he.ae set (fun b hb=>by obtain ⟨_,l,h⟩:=J.he.own hb;exact ne h (by decide)),J.ap,J.at_⟩;rw [hl];exact hs.drop.ae set (fun b hb=>by obtain ⟨_,l,h⟩:=hs.own (k:=b) hb;exact ne h (by decide))
theorem cv.bZ (J:cv w H sv ev A s f) {B:Ar} (t:a5 w H.pa H.g w' B):cv w' H sv ev B s f:=by
 have n1:∀ {b:Nat} {c:List Value} {T:TypeId},ah w b c T→T≠141→T≠2→¬ (b=H.pa∨b=H.g):=fun hb h1 h2 e=>by
  rcases e with e | e
  ·exact hb.ne J.ha.hp h1 e
  ·exact hb.ne J.ha.hg h2 e
 exact ⟨t.k.ak J.hp (n1 J.hp (by decide) (by decide)),t.at_,t.k.ak J.hc (n1 J.hc (by decide) (by decide)),t.k.ak J.hl (n1 J.hl (by decide) (by decide)),t.k.ak J.ht (n1 J.ht (by decide) (by decide)),
  J.hs.ae t.k (fun b hb=>by obtain ⟨_,l,h⟩:=J.hs.own hb;exact n1 h (by decide) (by decide)),J.he.ae t.k (fun b hb=>by obtain ⟨_,l,h⟩:=J.he.own hb;exact n1 h (by decide) (by decide)),J.ap,J.at_⟩
theorem py (x:Int) (J:cv w H sv ev A s f) (hx:x%4=1→0≤x/4∧x/4<s.lv.length) (hl:s.lv.length≤1000000) :
  Calls Tryz.prog 71 #[.pointer (some ⟨H.pc,0,none⟩), .int .i64 x] w fun e w'=>e=.returned (.bool (aY s x))∧w=w':=by
 obtain ⟨-,c1,-,-,-,-⟩:=J.cells;have cl:=J.hc.lt;have ll:=J.hl.lt;by_cases h1:x%4=1
 ·obtain ⟨b0,b1⟩:=hx h1;have hi:=J.qu (i:=(x/4).toNat) (by omega);have HE:=Hz (show aY s x=s.lv.getD (x/4).toNat false by simp [aY,h1,ax,b0]);have AY:=Hz (fun w=>dt x w h1);clear J hx h1;generalize s.lv.getD (x/4).toNat false=b at *;generalize x/4=i at *;obtain ⟨i,rfl⟩:=Int.eq_ofNat_of_zero_le b0;simp only [Int.toNat_natCast] at hi;generalize s.lv.length=n at *;go_enter Tryz.func71,Tryz.ntmps71;go_wp2_with fail;refine (AY.out _).mono ?_;rintro e w1 ⟨rfl,rfl⟩;go_wp2_with fail;go_ret;exact ⟨dg HE.out.symm,rfl⟩
 ·have HE:=Hz (show aY s x=true by simp [aY,h1]);have AN:=Hz (fun w=>kR x w h1);clear J hx h1;go_enter Tryz.func71,Tryz.ntmps71;go_wp2_with fail;refine (AN.out _).mono ?_;rintro e w1 ⟨rfl,rfl⟩;go_wp2_with fail;go_ret;exact ⟨dg HE.out.symm,rfl⟩
end
end
section
open Go.RowKit
section
variable {w w':World} {H:JH} {sv ev:Value} {A:Ar} {s:Gs} {f:List Int} {T:Int→Prop} {L:Nat}
theorem cv.dG (x:Int) (J:cv w H sv ev A s f) (S:dH A T) (G:bK A T s L) (hx:Dm T x) :
  Calls Tryz.prog 71 #[.pointer (some ⟨H.pc,0,none⟩), .int .i64 x] w fun e w'=>e=.returned (.bool (aY s x))∧w=w':=
 py x J (fun h=>by rw [G.len];exact S.bd _ (hx h)) (by rw [G.len];have:=S.ok.h4;omega)
theorem kl (x:Int) (J:cv w H sv ev A s f) (S:dH A T) (G:bK A T s L) (hx:Dm T x) (hL:L≤100000) :
  Calls Tryz.prog 67 #[.pointer (some ⟨H.pc,0,none⟩), .int .i64 x] w fun e w'=>e=.returned (.tuple #[])∧lP w H sv ev A (cJ s x) f w':=by
 have HAL:=Hz (J.dG x S G hx);have HJ:=Hz J;obtain ⟨-,c1,-,c3,-,-⟩:=J.cells;have cl:=J.hc.lt;have ll:=J.hl.lt;cases hal:aY s x
 ·have hnew:=rH (by rw [hal];decide);obtain ⟨b0,b1⟩:=S.bd _ (hx hnew.1);have hsum:=G.sum;have hlen:=G.len;have h4:=S.ok.h4;have AY:=Hz (fun w=>dt x w hnew.1);have HE:=Hz (show cJ s x=⟨s.lv.set (x/4).toNat true,s.st ++ [x/4],s.ep⟩ by unfold cJ;rw [hal];rfl);rw [hal] at HAL;have hi:=J.qu (i:=(x/4).toNat) (by omega);have hf:=J.hl.free (x/4).toNat
  obtain ⟨i0,hi0,hz0,hz1,hz2⟩:=info_parts mK;have Hi:=Hz hi0;have Hz0:=Hz hz0;have Hz1:=Hz hz1;have Hz2:=Hz hz2;clear hi0 hz0 hz1 hz2;obtain ⟨so,sc,rfl,-,-,-⟩:=J.hs.rd;have hst:s.st.length≤100000:=by omega
  have aw:(x/4)<s.lv.length:=by omega
  have c9:s.lv.length≤1000000:=by omega
  clear J hal hnew hsum hlen b1 hx S G;generalize s.lv.getD (x/4).toNat false=b at *;generalize x/4=i at *;obtain ⟨i,rfl⟩:=Int.eq_ofNat_of_zero_le b0;simp only [Int.toNat_natCast] at hi hf HE;have da:i<s.lv.length:=by omega
  go_enter Tryz.func67,Tryz.ntmps67;go_wp2_with fail;refine HAL.out.mono ?_;rintro e w1 ⟨rfl,rfl⟩;go_wp2_with fail;refine (AY.out _).mono ?_;rintro e w1 ⟨rfl,rfl⟩;have J1:=Hz (HJ.out.Cf i);have KS:=Hz (show ab (H.Own (.slice so s.st.length sc) ev) w (w.setCell ⟨H.lb,i,none⟩ (.bool true)) from (ab.refl _ w).setCell (p:=⟨H.lb,i,none⟩) (.inl (.inr (.inr (.inr (.inr (.inl rfl)))))) _);have hlt2:(i:Int)<s.lv.length:=by omega
  go_upto_region 3 with fail;generalize w.setCell ⟨H.lb,i,none⟩ (.bool true)=w2 at *;clear c1 c3 cl ll hi hf;have c3:=J1.out.cells.2.2.2.1;have cl:=J1.out.hc.lt;go_wp2_with (at_builtin;refine bN rfl (.tmp 25) (.tmp 27) 83 rfl 3 i0 (.int .i64 0) 1 8 Tryz.underlying83 Hi.out Hz0.out Hz1.out Hz2.out rfl (by decide) _ s.st.length (s.st.map (Value.int .i64)) rfl ?ha ⟨w2.heap.size,0,none⟩ 1 1 [.int .i64 i] rfl rfl ?hb ?hc ?hd ?he ?hf)
  case ha=>exact J1.out.hs.ae ((Kz w2).alloc _) (fun _ _ h=>h)
  case hb=>exact bW w2 3 _
  case hc=>intro u hu;simp at hu;subst hu;rfl
  case hd=>unfold maxLen;omega
  case he=>omega
  case hf=>
   intro v2 w3 hs2 hk2 ho2;obtain ⟨ao2,cap2,rfl,-,-,-⟩:=hs2.rd;have T2:=Hz (J1.out.CD ((Kz w2).alloc (.cells #[.int .i64 i] 3)) hs2 hk2 (by simpa using ho2));have K2:=Hz (((Kz w2).alloc (.cells #[.int .i64 i] 3)).ak J1.out.hc (fun h=>h));have K3:=Hz (hk2.ak K2.out (fun hv=>by
    obtain ⟨_,l,h⟩:=(J1.out.hs.ae ((Kz w2).alloc (.cells #[.int .i64 i] 3)) (fun _ _ h=>h)).own hv
    exact K2.out.ne h (by decide) rfl))
   clear hs2 hk2 ho2 K2 c3 cl;have x0:=K3.out.cell 3;have xl:=K3.out.lt;have xf:=K3.out.free 3;simp only [Lz,List.getElem?_cons_succ] at x0;go_wp2_with fail;go_end0;refine ⟨rfl,?_⟩;rw [HE.out];exact lP.join KS.out (fun k hk=>.inl hk) T2.out
 ·have HE:=Hz (show cJ s x=s by unfold cJ;rw [hal];rfl);rw [hal] at HAL;clear J hal;go_enter Tryz.func67,Tryz.ntmps67;go_wp2_with fail;refine HAL.out.mono ?_;rintro e w1 ⟨rfl,rfl⟩;go_wp2_with fail;go_end0;refine ⟨rfl,?_⟩;rw [HE.out];exact lP.refl HJ.out
theorem Am (i:Int) (J:cv w H sv ev A s f) (S:dH A T) (G:bK A T s L) (hi:T i) (hL:L≤90000) :
  Calls Tryz.prog 133 #[.pointer (some ⟨H.pc,0,none⟩), .int .i64 i] w fun e w'=>e=.returned (.tuple #[])∧lh w H sv ev A (jk A s i) f w':=by
 have HJ:=Hz J;have HS:=Hz S;have HG:=Hz G;have bd:=S.bd i hi;have h4:=S.ok.h4;have FD:=Hz (S.fd i hi);have TW:=Hz (S.two i hi);have hsum:=G.sum;obtain ⟨c0,-,-,-,c4,p0⟩:=J.cells;have pl:=J.hp.lt;have cl:=J.hc.lt;have HTH:=Hz (gz i w J.ha);have hb:=A.aU i;obtain ⟨G2,hGe⟩:∃ G,jk A s i=G:=⟨_,rfl⟩;have HL:=Hz hGe;clear J S G hi;unfold jk at hGe;have hfields:A.fields i=(List.range (A.aj i).2.1.toNat).map fun (j:Nat)=>A.load (i+1+(j:Int)):=rfl;obtain ⟨F,hF⟩:∃ F,A.fields i=F:=⟨_,rfl⟩;rw [hF] at hGe FD TW hfields;obtain ⟨⟨k,n,cd⟩,hT⟩:∃ t,A.aj i=t:=⟨_,rfl⟩;rw [hT] at HTH hb hGe hfields TW;dsimp only at HTH hb hGe hfields TW;have HFI:=Hz hfields;clear hT hF hfields;have hi1:IntKind.i64.wrap (i+1)=i+1:=IntWalk.i64_in _ (by omega);by_cases k12:k=1∨k=2
 ·rw [if_pos k12] at hGe;have HE:=Hz hGe;clear hGe;obtain ⟨m,rfl⟩:∃ m:Nat,n=m:=⟨n.toNat,by omega⟩;have hFl:F.length=m:=by rw [HFI.out];simp
  have HFL:=Hz hFl;have HFG:=Hz (show ∀ q:Nat,q<m→A.load (i+1+q)=F.getD q 0 from fun q hq=>by
   rw [HFI.out,Ld,List.getElem?_map,List.getElem?_range (by simpa using hq)];rfl)
  clear hFl;rcases k12 with rfl | rfl
  all_goals
   go_enter Tryz.func133,Tryz.ntmps133;go_wp2_with fail;refine HTH.out.mono ?_;rintro e w1 ⟨rfl,rfl⟩;go_wp2_with fail;go_loopw [26] (fun u wr=>∃ q:Nat,q≤m∧u=.int .i64 q∧lh w H sv ev A (eg s (F.take q)) f wr) (fun u _=>m-(intOf u).toNat)
   case atStart=>exact ⟨0,Nat.zero_le _,rfl,lh.refl HJ.out⟩
   case round=>
    obtain ⟨q,hq,rfl,t⟩:=hrel;obtain ⟨sv1,ev1,J1,k1,o1⟩:=t;have HJ1:=Hz J1;have K1:=Hz k1;have O1:=Hz o1;clear k1 o1 c0 c4 p0 pl cl;by_cases hlt:q<m
    ·obtain ⟨c0,-,-,-,-,p0⟩:=J1.cells;have pl:=J1.hp.lt;have cl:=J1.hc.lt;have G1:=Hz (bK.marks HS.out (F.take q) HG.out (fun x hx=>FD.out x (List.mem_of_mem_take hx))).1;have HMS:=Hz (oL (s:=s) (l:=F) (k:=q) (by rw [HFL.out];exact hlt));have DM:=Hz (show Dm T (F.getD q 0) from FD.out _ (by rw [Ld,Le (by rw [HFL.out];exact hlt)];exact List.getElem_mem _));have HLQ:=Hz (HFG.out q hlt);have hiq:IntKind.i64.wrap (i+1+q)=i+1+q:=IntWalk.i64_in _ (by omega);clear J1;generalize F.getD q 0=x at *;go_wp2_with fail;refine (eD (i+1+q) _ HJ1.out.ha).mono ?_;rintro e w2 ⟨rfl,rfl⟩;rw [HLQ.out];go_wp2_with fail;refine (kl x HJ1.out HS.out G1.out DM.out (by omega)).mono ?_;rintro e w2 ⟨rfl,t⟩;have T2:=Hz (lh.join K1.out O1.out t.to);clear t c0 p0 pl cl;go_wp2_with fail;go_roundw
     case rel=>exact ⟨q+1,hlt,by go_num,by rw [HMS.out];exact T2.out⟩
     case measure=>simp [intOf];omega
    ·obtain rfl:q=m:=by omega
     clear J1;go_wp2_with fail;go_end0;refine ⟨rfl,?_⟩;rw [HL.out,←HE.out];refine lh.join K1.out O1.out (lh.refl ?_);have:=HJ1.out;rw [List.take_of_length_le (by rw [HFL.out];exact Nat.le_refl _)] at this;exact this
 ·have k1:(k == 1)=false:=by simp;omega
  have k2:(k == 2)=false:=by simp;omega
  rw [if_neg k12] at hGe;clear k12;obtain ⟨i0,hi0,hz0,hz1,hz2⟩:=info_parts mK;have Hi:=Hz hi0;have Hz0:=Hz hz0;have Hz1:=Hz hz1;have Hz2:=Hz hz2;clear hi0 hz0 hz1 hz2;by_cases k3:k=3
  ·subst k3;rw [if_pos rfl] at hGe;have HE:=Hz hGe;have DM:=Hz (show Dm T (A.load (i+2)) from FD.out _ (TW.out (.inl rfl)).2);clear hGe;have hi2:IntKind.i64.wrap (i+2)=i+2:=IntWalk.i64_in _ (by omega);go_enter Tryz.func133,Tryz.ntmps133;go_wp2_with fail;refine HTH.out.mono ?_;rintro e w1 ⟨rfl,rfl⟩;go_wp2_with fail;refine (eD (i+2) _ HJ.out.ha).mono ?_;rintro e w2 ⟨rfl,rfl⟩;go_wp2_with fail;refine (kl _ HJ.out HS.out HG.out DM.out (by omega)).mono ?_;rintro e w2 ⟨rfl,t⟩;have T2:=Hz t.to;clear t;go_wp2_with fail;go_end0;refine ⟨rfl,?_⟩;rw [HL.out,←HE.out];exact T2.out
  ·have k3':(k == 3)=false:=by simpa using k3
   rw [if_neg k3] at hGe;clear k3;by_cases k4:k=4
   ·subst k4;rw [if_pos rfl] at hGe;have HE:=Hz hGe;clear hGe;obtain ⟨eo,ec,rfl,-,-,-⟩:=HJ.out.he.rd;go_enter Tryz.func133,Tryz.ntmps133;go_wp2_with fail;refine HTH.out.mono ?_;rintro e w1 ⟨rfl,rfl⟩;go_wp2_with (at_builtin;refine bN rfl (.tmp 64) (.tmp 66) 83 rfl 3 i0 (.int .i64 0) 1 8 Tryz.underlying83 Hi.out Hz0.out Hz1.out Hz2.out rfl (by decide) _ s.ep.length (s.ep.map (Value.int .i64)) rfl ?ha ⟨w.heap.size,0,none⟩ 1 1 [.int .i64 i] rfl rfl ?hb ?hc ?hd ?he ?hf)
    case ha=>exact HJ.out.he.ae ((Kz w).alloc _) (fun _ _ h=>h)
    case hb=>exact bW w 3 _
    case hc=>intro u hu;simp at hu;subst hu;rfl
    case hd=>unfold maxLen;omega
    case he=>omega
    case hf=>
     intro v2 w2 hs2 hk2 ho2;obtain ⟨ao2,cap2,rfl,-,-,-⟩:=hs2.rd;have T2:=Hz (HJ.out.yN ((Kz w).alloc (.cells #[.int .i64 i] 3)) hs2 hk2 (by simpa using ho2));have K2:=Hz (((Kz w).alloc (.cells #[.int .i64 i] 3)).ak HJ.out.hc (fun h=>h));have K3:=Hz (hk2.ak K2.out (fun hv=>by
      obtain ⟨_,l,h⟩:=(HJ.out.he.ae ((Kz w).alloc (.cells #[.int .i64 i] 3)) (fun _ _ h=>h)).own hv
      exact K2.out.ne h (by decide) rfl))
     clear hs2 hk2 ho2 K2;have x0:=K3.out.cell 4;have xl:=K3.out.lt;have xf:=K3.out.free 4;simp only [Lz,List.getElem?_cons_succ] at x0;clear c0 c4 p0 pl cl;go_wp2_with fail;go_end0;refine ⟨rfl,?_⟩;rw [HL.out,←HE.out];exact T2.out
   ·have k4':(k == 4)=false:=by simpa using k4
    rw [if_neg k4] at hGe;have HE:=Hz hGe;clear hGe k4;go_enter Tryz.func133,Tryz.ntmps133;go_wp2_with fail;refine HTH.out.mono ?_;rintro e w1 ⟨rfl,rfl⟩;go_wp2_with fail;go_end0;refine ⟨rfl,?_⟩;rw [HL.out,←HE.out];exact lh.refl HJ.out
end
end
section
open Go.RowKit
variable {τ:Type}
theorem An (p:Nat) (L:eu Tryz.prog p τ) (kp:τ→Int→τ × Int) (hsame:∀ t l x,L.ae t l x=((kp t x).1,l,(kp t x).2)) (t:τ) (F:Nat→Prop) (rv wv:Value) (av wait:List (Int × Int)) (w:World)
  (hdk:∀ t x,L.D t x→L.alive t x=false→L.DK t x) (hJ:L.J w t F) (h:bu w p rv wv av wait) (hap:ia F p rv wv) (hl:wait.length≤1000000) (hD:∀ e ∈ wait,L.D t e.1∧L.D t e.2) :
  Calls Tryz.prog 124 #[.pointer (some ⟨p,0,none⟩), .agg #[.func (.func L.fa) L.a1 L.a2, .func (.func L.fk) L.k1 L.k2, .nilFunc]] w fun e w'=>xv L kp t F rv wv av wait w e w':=by
 obtain ⟨wo,wc,rfl,hrd,_,_⟩:=h.hw.rd;have c1:=h.hp.cell 1;simp only [Lz,List.getElem?_cons_succ] at c1;have hpl:=h.hp.lt;have H:=Hz h;have HSM:=Hz hsame;have HDK:=Hz hdk;have HJ:=Hz hJ;have HA:=Hz hap;have HD:=Hz hD;clear h hrd hsame hdk hJ hap hD;have ea:=L.ea;have ek:=L.ek;have en:=L.en;generalize hbox:w.alloc (.cells #[.func (.func L.fa) L.a1 L.a2, .func (.func L.fk) L.k1 L.k2, .nilFunc] 113)=wb;have hkb:ab (fun b=>F b∨a7 p rv (.slice wo wait.length wc) b) w wb:=by rw [←hbox];exact (ab.refl _ _).alloc _
 have hbb:ah wb w.heap.size [.func (.func L.fa) L.a1 L.a2, .func (.func L.fk) L.k1 L.k2, .nilFunc] 113:=by rw [←hbox];exact ah.newAt _ rfl rfl
 have hszb:wb.heap.size=w.heap.size+1:=by rw [←hbox];simp
 have hkb0:ab (fun _=>False) w wb:=by rw [←hbox];exact (ab.refl _ _).alloc _
 have HI:fy L kp t F rv (.slice wo wait.length wc) av wait wb wb 0 false:=
  ⟨t,F,[],rfl,L.J_keep HJ.out hkb0 (fun _ _ h=>h),H.out.ae hkb0 (fun _ _ h=>h),HA.out,ab.refl _ _,fun b hb=>.inl hb,by simpa using HD.out,by simp⟩
 have HKB:=Hz hkb;have HBB:=Hz hbb;have HSZ:=Hz hszb;have HBX:=Hz hbox;clear hkb hbb hszb hkb0 hbox;go_enter Tryz.func124,Tryz.ntmps124;go_wp2_with fail;rw [HBX.out];go_loopw [5,14] (fun v i wr=>∃ (k:Nat) (woke:Bool),k≤wait.length∧i=.int .i64 k∧v=.bool woke∧fy L kp t F rv (.slice wo wait.length wc) av wait wb wr k woke) (fun _ i _=>wait.length-(intOf i).toNat)
 case atStart=>exact ⟨0,false,Nat.zero_le _,rfl,rfl,HI⟩
 case round=>
  clear HI c1;obtain ⟨k,woke,hk,rfl,rfl,tk,Fk,pre,hpk,hJ,hS,hA,hK,hFk,hDk,hM⟩:=hrel;have GJ:=Hz hJ;have GS:=Hz hS;have GA:=Hz hA;have GK:=Hz hK;have GF:=Hz hFk;have GD:=Hz hDk;have GM:=Hz hM;have GP:=Hz hpk;clear hJ hS hA hK hFk hDk hM hpk;by_cases hlt:k<wait.length
  ·have hdr:wait.drop k=wait.getD k (0,0) :: wait.drop (k+1):=by
    rw [List.drop_eq_getElem_cons hlt];simp [List.getD,hlt]
   have hm:=GM.out;have hs:=GS.out;have hd:=GD.out;have HDR:=Hz hdr;rw [hdr] at hm hs hd;have hvd:=hd (wait.getD k (0,0)) (by simp);have hgt:(pre ++ wait.getD k (0,0) :: wait.drop (k+1)).getD k (0,0)=wait.getD k (0,0):=by
    simp [List.getD,GP.out]
   have hln:(pre ++ wait.getD k (0,0) :: wait.drop (k+1)).length=wait.length:=by simp [GP.out];omega
   generalize wait.getD k (0,0)=v at *;obtain ⟨g,o,cap,cur,he,hb,_,_,_,_⟩:=hs.hw.laid (by omega);rw [hln] at he;cases he;obtain ⟨_,_,e',hrd,_,_⟩:=hs.hw.rd;rw [hln] at e';cases e';obtain ⟨g',o',e',hgl,d0,d1⟩:=hrd.il k (by omega);cases e';rw [hgt] at d0 d1;have hbw:w.heap.size<wb.heap.size:=by rw [HSZ.out];omega
   have hbn:∀ b,(F b∨a7 p rv (.slice (some ⟨g,o,none⟩) wait.length wc) b)→¬ b=w.heap.size:=by
    rintro b (h | h) rfl
    ·have:=L.J_lt HJ.out h;omega
    ·have:=H.out.nW h;omega
   have hbx:ah wr w.heap.size _ _:=GK.out.ak HBB.out (fun h=>hbn _ h rfl);have HX:=Hz hbx;have HM:=Hz hm;have HS:=Hz hs;have HD:=Hz hd;have HV:=Hz hvd;have HN:=Hz hbn;have b0:=hbx.cell 0;have b1:=hbx.cell 1;have bl:=hbx.lt;simp only [Lz,List.getElem?_cons_succ] at b0 b1;clear hm hs hd hvd hbx hbn hb hrd hgt hdr;have ALL:Hid (∀ w2,ab (fun _=>False) wr w2→(L.alive tk v.1 && !L.alive tk v.2)=false→fy L kp t F rv (.slice (some ⟨g,o,none⟩) wait.length wc) av wait wb w2 (k+1) woke):=fun w2 h1 h2=>fy.skip GP.out HDR.out GJ.out HS.out GA.out GK.out GF.out HD.out HM.out h1 h2;go_wp2_with fail;have hk0:=(Kz wr).alloc (.cells #[Value.int IntKind.i64 v.fst,Value.int IntKind.i64 v.snd] 101);refine (L.dG _ tk Fk v.1 (L.J_keep GJ.out hk0 (fun _ _ h=>h)) HV.out.1).mono ?_;rintro e w1 ⟨rfl,hk1⟩;have HK1:=Hz (hk0.trans hk1);have HE1:=Hz (hk1.ak (ah.newAt (w:=wr) _ rfl rfl) (fun h=>h));have x0:=(HK1.out.ak HX.out (fun h=>h)).cell 0;have xl:=(HK1.out.ak HX.out (fun h=>h)).lt;have e1:=HE1.out.cell 1;have el:=HE1.out.lt;simp only [Lz,List.getElem?_cons_succ] at x0 e1;clear hk0 hk1;cases ha:L.alive tk v.1
   ·go_wp2_with fail;go_roundw
    case rel=>exact ⟨k+1,woke,by omega,by go_num,rfl,ALL.out _ HK1.out (by rw [ha];rfl)⟩
    case measure=>simp [intOf];omega
   ·go_wp2_with fail;refine (L.dG _ tk Fk v.2 (L.J_keep GJ.out HK1.out (fun _ _ h=>h)) HV.out.2).mono ?_;rintro e w2 ⟨rfl,hk2⟩;have HK2:=Hz (HK1.out.trans hk2);have HE2:=Hz (hk2.ak HE1.out (fun h=>h));clear x0 xl e1 el;have x0:=(HK2.out.ak HX.out (fun h=>h)).cell 1;have xl:=(HK2.out.ak HX.out (fun h=>h)).lt;have e1:=HE2.out.cell 1;have el:=HE2.out.lt;simp only [Lz,List.getElem?_cons_succ] at x0 e1;clear hk2;cases hb:L.alive tk v.2
    ·go_wp2_with fail;refine (L.keep_c _ tk Fk rv _ av _ v.2 (L.J_keep GJ.out HK2.out (fun _ _ h=>h)) (HS.out.ae HK2.out (fun _ _ h=>h)) GA.out (HDK.out _ _ HV.out.2 hb) HD.out (by omega)).mono ?_;rintro e w3 ⟨rfl,F3,hJ3,hS3,hA3,hk3,hF3⟩;have hdk:∀ e ∈ pre ++ v :: wait.drop (k+1),L.D (kp tk v.2).1 e.1∧L.D (kp tk v.2).1 e.2:=by
      intro e he;have:=HD.out e he;have a1:=L.D_keep (wait:=pre ++ v :: wait.drop (k+1)) (HDK.out _ _ HV.out.2 hb) this.1;have a2:=L.D_keep (wait:=pre ++ v :: wait.drop (k+1)) (HDK.out _ _ HV.out.2 hb) this.2;rw [HSM.out] at a1 a2;exact ⟨a1,a2⟩
     have hdn:=L.D_new (wait:=pre ++ v :: wait.drop (k+1)) (HDK.out _ _ HV.out.2 hb);have e3:(L.ae tk (pre ++ v :: wait.drop (k+1)) v.2).2.2=(kp tk v.2).2:=by rw [HSM.out]
     rw [e3];rw [HSM.out] at hJ3 hS3 hdn;replace hJ3:L.J w3 (kp tk v.2).1 F3:=hJ3;replace hS3:bu w3 p rv (.slice (some ⟨g,o,none⟩) wait.length wc) av (pre ++ v :: wait.drop (k+1)):=hS3;replace hdn:L.D (kp tk v.2).1 (kp tk v.2).2:=hdn;clear e3;have hpg:p≠g:=fun e=>hS3.pw (by subst e;rfl);obtain ⟨g3,o3,cap3,cur3,he3,c9,_,_,_,_⟩:=hS3.hw.laid (by omega);rw [hln] at he3;cases he3;have HS3:=Hz (hS3.s6 (kp tk v.2).2);have hk3':ab (fun b=>Fk b∨a7 p rv (.slice (some ⟨g,o,none⟩) wait.length wc) b) wr w3:=(HK2.out.mono fun _ _ h=>h.elim).trans hk3;have HF3:Hid (∀ b,F3 b→Fk b∨wr.heap.size≤b):=fun b hb=>by
      rcases hF3 b hb with h | h
      ·exact .inl h
      ·exact .inr (Nat.le_trans HK2.out.size h)
     have hng:¬ F3 g:=fun h=>hA3 g ⟨h, .inr (.inr rfl)⟩;have HJ3:=Hz (L.J_keep hJ3 ((ab.refl (·=g) w3).setCell (p:=⟨g,o+pre.length*2+1,none⟩) (.inl rfl) (.int .i64 (kp tk v.2).2)) (by rintro b hb rfl;exact hng hb));have HK3:=Hz (hk3'.setCell (p:=⟨g,o+pre.length*2+1,none⟩) (.inl (.inr (.inr (.inr rfl)))) (.int .i64 (kp tk v.2).2));have HA3:=Hz hA3;have p1:=hS3.hp.cell 1;have fz:=c9.free (o+k*2+1);obtain ⟨_,_,e3,hrd3,_,_⟩:=hS3.hw.rd;rw [hln] at e3;cases e3;obtain ⟨g3,o3,e3,_,q0,q1⟩:=hrd3.il k (by omega);cases e3;have gl:=c9.lt;have pl:=hS3.hp.lt;simp only [Lz,List.getElem?_cons_succ] at p1;rw [GP.out] at HJ3 HK3 HS3;have HDN:Hid (∀ e ∈ pre ++ (v.1,(kp tk v.2).2) :: wait.drop (k+1),L.D (kp tk v.2).1 e.1∧L.D (kp tk v.2).1 e.2):=by
      intro e he;simp only [List.mem_append,List.mem_cons] at he;rcases he with he | rfl | he
      ·exact hdk e (by simp [he])
      ·exact ⟨(hdk v (by simp)).1,hdn⟩
      ·exact hdk e (by simp [he])
     have HX3:Hid (w.heap.size<w3.heap.size):=Nat.lt_of_lt_of_le xl hk3.size;have hx3:=HX3.out;clear hrd3 hJ3 hS3 hA3 hk3 hF3 hdk hdn hk3' hng c9 x0 xl e1 el;clear HX3;go_wp2_with fail;go_roundw
     case rel=>exact ⟨k+1,true,by omega,by go_num,rfl,fy.kept GP.out GK.out GF.out HM.out HJ3.out HS3.out HA3.out HK3.out HF3.out HDN.out (by rw [ha,hb];rfl)⟩
     case measure=>simp [intOf];omega
    ·go_wp2_with fail;go_roundw
     case rel=>exact ⟨k+1,woke,by omega,by go_num,rfl,ALL.out _ HK2.out (by rw [ha,hb];rfl)⟩
     case measure=>simp [intOf];omega
  ·obtain rfl:k=wait.length:=by omega
   go_wp2_with fail;go_ret;have hm:=GM.out;have hs:=GS.out;have hd:=GD.out;rw [List.drop_length] at hm hs hd;simp only [wakeM,List.append_nil,Bool.or_false] at hm hs hd;refine ⟨by rw [hm];rfl,Fk,by rw [hm];exact GJ.out,by rw [hm];exact hs,GA.out,HKB.out.trans GK.out,fun b hb=>?_,by rw [hm];exact hd⟩;rcases GF.out b hb with h | h
   ·exact .inl h
   ·exact .inr (by rw [HSZ.out] at h;omega)
end
section
open Go.RowKit
def iN (w:World) (b:Nat) (H:JH):Prop:=ah w b [.pointer (some ⟨H.pc,0,none⟩)] 121
def CK:Value→Bool
 | .bool b=>!b
 | _=>false
def mL (w:World) (b:Nat):Nat:=match w.heap[b]? with | some (.cells cs _ _)=>(cs.toList.filter CK).length | _=>0
def ts (w:World) (b i:Nat):Nat:=match w.cell? ⟨b,i,none⟩ with | some (.slice _ n _)=>n | _=>0
theorem pz {w:World} {b:Nat} {l:List Bool} {T:TypeId} (h:ah w b (l.map Value.bool) T):mL w b=cy l:=by
 unfold mL cy;unfold ah at h;rw [h];simp only [List.filter_map,List.length_map];congr 1
theorem Ao {w:World} {b i n cap:Nat} {ao:Option Addr} (h:w.cell? ⟨b,i,none⟩=some (.slice ao n cap)):ts w b i=n:=by unfold ts;rw [h]
section
variable {w w':World} {H:JH} {sv ev rv qv:Value} {A:Ar} {s:Gs} {f:List Int} {T:Int→Prop} {L sp:Nat} {rg q:List (Int × Int)}
theorem cv.qx (J:cv w H sv ev A s f) {b:Nat} (hb:iN w b H):¬ H.Own sv ev b:=fun h=>by
 obtain ⟨_,T,h',hT⟩:=J.bB h;refine hb.ne h' ?_ rfl;rcases hT with rfl | rfl | rfl | rfl | rfl | rfl <;> decide
theorem cv.cK {p:Nat} (J:cv w H sv ev A s f) (S:bu w p rv qv rg q) {k:Nat} (hk:H.Own sv ev k):¬ a7 p rv qv k:=fun hs=>by
 obtain ⟨_,T,h,hT⟩:=J.bB hk;obtain ⟨_,U,h',hU⟩:=S.cG hs;refine h.ne h' ?_ rfl;rcases hT with rfl | rfl | rfl | rfl | rfl | rfl <;> rcases hU with rfl | rfl <;> decide
theorem uQ (x:Int) (w:World):Calls Tryz.prog 70 #[.int .i64 x] w fun e w'=>e=.returned (.int .i64 x)∧w=w':=by
 go_enter Tryz.func70,Tryz.ntmps70;go_wp2_with fail;go_ret;exact ⟨rfl,rfl⟩
theorem xC (x:Int) (b:Nat) (J:cv w H sv ev A s f) (S:dH A T) (G:bK A T s L) (hx:Dm T x) (hL:L≤100000) (hb:iN w b H) :
  Calls Tryz.prog 134 #[.int .i64 x, .pointer (some ⟨b,0,none⟩)] w fun e w'=>e=.returned (.int .i64 x)∧lP w H sv ev A (cJ s x) f w':=by
 have HM:=Hz (kl x J S G hx hL);have b0:=hb.cell 0;have bl:=hb.lt;simp only [Lz] at b0;clear J S G hb;go_enter Tryz.func134,Tryz.ntmps134;go_wp2_with fail;refine HM.out.mono ?_;rintro e w1 ⟨rfl,t⟩;have T1:=Hz t;clear t b0 bl;go_wp2_with fail;go_ret;exact ⟨rfl,T1.out⟩
def Bj (H:JH) (A:Ar) (f:List Int) (T:Int→Prop) (L:Nat) (S:dH A T) (hL:L≤100000) (sp b:Nat):eu Tryz.prog sp Gs where
 J:=fun w s F=>∃ sv ev,cv w H sv ev A s f∧bK A T s L∧iN w b H∧F=fun k=>H.Own sv ev k∨k=b
 D:=fun _ x=>Dm T x
 DK:=fun _ x=>Dm T x
 alive:=aY
 ae:=fun s q x=>((kM s x).1,q,(kM s x).2)
 now:=fun _ x=>x
 fa:=71
 fk:=134
 fn:=70
 a1:=#[.pointer (some ⟨H.pc,0,none⟩)]
 a2:=#[]
 k1:=#[]
 k2:=#[.pointer (some ⟨b,0,none⟩)]
 n1:=#[]
 n2:=#[]
 ea:=fun args w=>by kernel_rfl
 ek:=fun args w=>by kernel_rfl
 en:=fun args w=>by kernel_rfl
 J_keep:=fun h k hn=>by
  obtain ⟨sv,ev,h1,h2,h3,rfl⟩:=h;exact ⟨sv,ev,h1.ae k (fun b hb=>hn b (.inl hb)),h2,k.ak h3 (hn _ (.inr rfl)),rfl⟩
 J_lt:=fun h hk=>by
  obtain ⟨sv,ev,h1,h2,h3,rfl⟩:=h;rcases hk with hk | rfl
  ·exact h1.bU hk
  ·exact h3.lt
 dG:=fun w t F x hJ hx=>by
  obtain ⟨sv,ev,h1,h2,-⟩:=hJ;exact (h1.dG x S h2 hx).mono (by rintro e w' ⟨rfl,rfl⟩;exact ⟨rfl,ab.refl _ _⟩)
 now_c:=fun w t F x hJ _=>(uQ x w).mono (by rintro e w' ⟨rfl,rfl⟩;exact ⟨rfl,ab.refl _ _⟩)
 keep_c:=fun w t F rv qv av wait x hJ hS hA hx hq hl=>by
  obtain ⟨sv,ev,h1,h2,h3,rfl⟩:=hJ;refine (xC x b h1 S h2 hx hL h3).mono ?_;rintro e w' ⟨rfl,sv',J',k',o'⟩;have hS':=hS.ae k' (fun b hb hk=>hA b ⟨.inl hk,hb⟩);refine ⟨rfl,_,⟨sv',ev,J',(h2.mark S hx).1,k'.ak h3 (h1.qx h3),rfl⟩,hS',fun k hk=>?_,k'.mono (fun _ _ h=>.inl (.inl h)),fun k hk=>?_⟩
  ·rcases hk with ⟨hk | hk,hs⟩
   ·exact J'.cK hS' hk hs
   ·exact hA k ⟨.inr hk,hs⟩
  ·rcases hk with hk | hk
   ·exact (o' k hk).imp .inl id
   ·exact .inl (.inr hk)
 DK_D:=fun h=>h
 DK_keep:=fun _ h=>h
 D_keep:=fun _ h=>h
 D_new:=fun h=>h
 D_wait:=fun _ h=>h
 keep_len:=rfl
structure JS (w:World) (H:JH) (sp:Nat) (sv ev rv qv:Value) (A:Ar) (f:List Int) (T:Int→Prop) (L:Nat) (rg q:List (Int × Int)) (s:Gs):Prop where
 J:cv w H sv ev A s f
 S:bu w sp rv qv rg q
 ok:bK A T s L
def fQ (w:World) (H:JH) (sp:Nat) (sv ev rv qv:Value) (A:Ar) (f:List Int) (T:Int→Prop) (L:Nat) (rg q:List (Int × Int)) (s:Gs) (w':World):Prop:=
 ∃ sv' ev',JS w' H sp sv' ev' rv qv A f T L rg q s∧ab (fun k=>H.Own sv ev k∨a7 sp rv qv k) w w'∧∀ k,H.Own sv' ev' k→H.Own sv ev k∨w.heap.size≤k
theorem JS.ae {S:Nat→Prop} (C:JS w H sp sv ev rv qv A f T L rg q s) (k:ab S w w') (h1:∀ b,H.Own sv ev b→¬ S b) (h2:∀ b,a7 sp rv qv b→¬ S b):JS w' H sp sv ev rv qv A f T L rg q s:=
 ⟨C.J.ae k h1,C.S.ae k h2,C.ok⟩
theorem JS.same (C:JS w H sp sv ev rv qv A f T L rg q s) (k:ab (fun _=>False) w w'):JS w' H sp sv ev rv qv A f T L rg q s:=C.ae k (fun _ _ h=>h) (fun _ _ h=>h)
theorem fQ.refl (C:JS w H sp sv ev rv qv A f T L rg q s) (k:ab (fun _=>False) w w'):fQ w H sp sv ev rv qv A f T L rg q s w':=⟨sv,ev,C.same k,k.mono (fun _ _ h=>h.elim),fun _ h=>.inl h⟩
theorem fQ.join {w1:World} {sv1 ev1:Value} (k1:ab (fun k=>H.Own sv ev k∨a7 sp rv qv k) w w1) (o1:∀ k,H.Own sv1 ev1 k→H.Own sv ev k∨w.heap.size≤k) (t:fQ w1 H sp sv1 ev1 rv qv A f T L rg q s w'):fQ w H sp sv ev rv qv A f T L rg q s w':=by
 obtain ⟨a2,b2,J2,k2,o2⟩:=t;refine ⟨a2,b2,J2,k1.then k2 (fun k hk=>?_),fun k hk=>?_⟩
 ·rcases hk with hk | hk
  ·exact (o1 k hk).imp .inl id
  ·exact .inl (.inr hk)
 ·rcases o2 k hk with h | h
  ·exact o1 k h
  ·exact .inr (Nat.le_trans k1.size h)
theorem JS.var (C:JS w H sp sv ev rv qv A f T L rg q s) {b:Nat} (hb:iN w b H) (k:ab (fun k=>H.Own sv ev k∨a7 sp rv qv k) w w'):iN w' b H:=k.ak hb (fun h=>by
 rcases h with h | h
 ·exact C.J.qx hb h
 ·obtain ⟨_,U,h',hU⟩:=C.S.cG h;refine hb.ne h' ?_ rfl
  rcases hU with rfl | rfl <;> decide)
def Bk (w:World) (H:JH) (sp b:Nat) (sv ev rv qv:Value) (A:Ar) (f:List Int) (T:Int→Prop) (L:Nat) (rg q:List (Int × Int)) (s:Gs) (m:Value) (wr:World):Prop:=
 (∃ (n:Nat) (s1:Gs),m=.bool true∧fQ w H sp sv ev rv qv A f T L rg q s1 wr∧iN wr b H∧eh A q 2000 s=eh A q (n+1) s1∧cy s1.lv≤n) ∨
  (m=.bool false∧fQ w H sp sv ev rv qv A f T L rg q (eh A q 2000 s) wr)
def kQ (H:JH) (m:Value) (wr:World):Nat:=mL wr H.lb+match m with | .bool true=>1 | _=>0
def Ch (w:World) (H:JH) (sp b:Nat) (sv ev rv qv:Value) (A:Ar) (f:List Int) (T:Int→Prop) (L:Nat) (rg q:List (Int × Int)) (s:Gs) (wr:World):Prop:=
 ∃ (n:Nat) (s2:Gs),fQ w H sp sv ev rv qv A f T L rg q s2 wr∧iN wr b H∧jPops A 2000 s=jPops A n s2∧jM s2<n
theorem vS (h:bK A T s L) (hL:L≤1900):jM s<2000:=by have:=h.sum;unfold jM;omega
theorem cv.jM (J:cv w H sv ev A s f):ts w H.pc 3+mL w H.lb=Proofs.YtjifdalflepcoacGreat.jM s:=by
 obtain ⟨so,sc,e,-,-,-⟩:=J.hs.rd;have c3:=J.cells.2.2.2.1;rw [e] at c3;rw [Ao c3,pz J.hl]
 rfl
theorem fQ.jM (t:fQ w H sp sv ev rv qv A f T L rg q s w'):ts w' H.pc 3+mL w' H.lb=Proofs.YtjifdalflepcoacGreat.jM s:=by
 obtain ⟨_,_,C,-,-⟩:=t;exact C.J.jM
theorem fQ.cy (t:fQ w H sp sv ev rv qv A f T L rg q s w'):mL w' H.lb=Proofs.YtjifdalflepcoacGreat.cy s.lv:=by
 obtain ⟨_,_,C,-,-⟩:=t;exact pz C.J.hl
theorem tt (C:JS w H sp sv ev rv qv A f T L rg q s) (S:dH A T) (hq:∀ e ∈ q,Dm T e.1∧Dm T e.2) (hql:q.length≤1000000) (hL:L≤1900) :
  Calls Tryz.prog 69 #[.pointer (some ⟨H.pc,0,none⟩), .pointer (some ⟨sp,0,none⟩)] w fun e w'=>e=.returned (.tuple #[])∧fQ w H sp sv ev rv qv A f T L rg q (eh A q 2000 s) w':=by
 have HC0:=Hz C;have HS:=Hz S;have HQ:=Hz hq;have HQL:=Hz hql;clear C S hq hql;generalize hwx:w.alloc (.cells #[.pointer (some ⟨H.pc,0,none⟩)] 121)=wx;have HK:=Hz (show ab (fun _=>False) w wx by rw [←hwx];exact (ab.refl _ _).alloc _);have HB:=Hz (show iN wx w.heap.size H by rw [←hwx];exact ah.newAt _ rfl rfl);have HX:=Hz hwx;have HC:=Hz (HC0.out.same HK.out);have HTJ:=Hz (fQ.refl HC0.out HK.out);clear hwx HC0;go_enter Tryz.func69,Tryz.ntmps69;go_wp2_with fail;rw [HX.out];generalize hbe:w.heap.size=b at HB HX ⊢;have BG:=Hz (Nat.le_of_eq hbe);clear HX hbe;go_loopw [4] (fun m wr=>Bk w H sp b sv ev rv qv A f T L rg q s m wr) (fun m wr=>kQ H m wr)
 case atStart=>exact .inl ⟨1999,s,rfl,HTJ.out,HB.out,rfl,by have:=HC.out.ok.sum;omega⟩
 case round=>
  rcases hrel with ⟨n,s1,rfl,ht,aw,he,hn⟩ | ⟨rfl,ht⟩
  ·obtain ⟨sv1,ev1,C1,k1,o1⟩:=ht;have HMU:=Hz (show kQ H (.bool true) wr=cy s1.lv+1 by unfold kQ;rw [pz C1.J.hl]);have HC1:=Hz C1;have K1:=Hz k1;have O1:=Hz o1;have HE:=Hz he;have HN:=Hz hn;have HB1:=Hz aw;clear C1 k1 o1 he hn aw HB;obtain ⟨w1,rfl⟩:∃ x:World,x=wr:=⟨wr,rfl⟩;go_wp2_with fail;go_loopw [14] (fun _ wr=>Ch w1 H sp b sv1 ev1 rv qv A f T L rg q s1 wr) (fun _ wr=>ts wr H.pc 3+mL wr H.lb)
   case atStart=>exact ⟨2000,s1,fQ.refl HC1.out (ab.refl _ _),HB1.out,rfl,vS HC1.out.ok hL⟩
   case round=>
    obtain ⟨m,s2,⟨sv2,ev2,C2,k2,o2⟩,da,he2,hm2⟩:=hrel;have HC2:=Hz C2;have K2:=Hz k2;have O2:=Hz o2;have HE2:=Hz he2;have HM2:=Hz hm2;have HB2:=Hz da;clear k2 o2 he2 hm2;have b0:=da.cell 0;have bl:=da.lt;simp only [Lz] at b0;have c3:=C2.J.cells.2.2.2.1;have c4:=C2.J.cells.2.2.2.2.1;have cl:=C2.J.hc.lt;clear da C2;obtain ⟨so,sc,rfl,hsr,-,hsc⟩:=HC2.out.J.hs.rd;obtain ⟨eo,ec,rfl,-,-,-⟩:=HC2.out.J.he.rd;have HLF:=Hz HC2.out.J.jM;have hstl:s2.st.length≤2000:=by have:=HC2.out.ok.sum;omega
    have hepl:s2.ep.length≤2000:=by have:=HC2.out.ok.sum;omega
    by_cases hne:s2.st=[]
    ·have hl0:s2.st.length=0:=by rw [hne];rfl
     have HST:=Hz (show jPops A 2000 s1=s2 by rw [HE2.out,vK _ hne]);rw [hl0] at c3;clear hne hsr hsc HE2 HM2 HLF hstl hl0;obtain ⟨w2,rfl⟩:∃ x:World,x=wr:=⟨wr,rfl⟩;go_wp2_with fail;go_loopw [49] (fun u wr=>∃ k:Nat,k≤s2.ep.length∧u=.int .i64 k∧∃ sv',JS wr H sp sv' (.slice eo s2.ep.length ec) rv qv A f T L rg q (gT A s2 (s2.ep.take k))∧ab (fun k=>H.Own (.slice so s2.st.length sc) (.slice eo s2.ep.length ec) k∨a7 sp rv qv k) w2 wr∧(∀ k,H.Own sv' (.slice eo s2.ep.length ec) k→H.Own (.slice so s2.st.length sc) (.slice eo s2.ep.length ec) k∨w2.heap.size≤k)∧iN wr b H) (fun u _=>s2.ep.length-(intOf u).toNat)
     case atStart=>exact ⟨0,Nat.zero_le _,rfl,_,HC2.out,ab.refl _ _,fun _ h=>.inl h,HB2.out⟩
     case round=>
      clear c3 c4 cl b0 bl;obtain ⟨k,hk,rfl,sv3,C3,k3,o3,c9⟩:=hrel;have HC3:=Hz C3;have K3:=Hz k3;have O3:=Hz o3;have HB3:=Hz c9;clear C3 k3 o3 c9;have hee:=uP A (s2.ep.take k) s2;have b0:=HB3.out.cell 0;have bl:=HB3.out.lt;simp only [Lz] at b0;have c0:=HC3.out.J.cells.1;have p0:=HC3.out.J.cells.2.2.2.2.2;have pl:=HC3.out.J.hp.lt;have cl:=HC3.out.J.hc.lt;by_cases hlt:k<s2.ep.length
      ·have he3:=HC3.out.J.he;rw [hee] at he3;obtain ⟨_,_,e',rd,-,-⟩:=he3.rd;cases e';obtain ⟨ge,oe,rfl,d0⟩:=rd.int k hlt;have hgl:=(he3.own rfl).1;have hmem:s2.ep.getD k 0 ∈ s2.ep:=by rw [Ld,Le hlt];exact List.getElem_mem hlt
       have hin:=HC2.out.ok.ep _ hmem;have hbd:=HS.out.bd _ hin.1;have h4:=HS.out.ok.h4;have HTK:=Hz (xA (A:=A) (s:=s2) hlt);generalize s2.ep.getD k 0=i at *;have D1:=Hz (show Dm T (A.load (i+1)) from HS.out.fd i hin.1 _ (HS.out.two i hin.1 (.inr hin.2)).1);have D2:=Hz (show Dm T (A.load (i+2)) from HS.out.fd i hin.1 _ (HS.out.two i hin.1 (.inr hin.2)).2);have GE:=Hz (HC3.out.ok.sF HS.out hin).1;have hi1:IntKind.i64.wrap (i+1)=i+1:=IntWalk.i64_in _ (by omega);have hi2:IntKind.i64.wrap (i+2)=i+2:=IntWalk.i64_in _ (by omega);obtain ⟨s3,hs3⟩:∃ s,gT A s2 (s2.ep.take k)=s:=⟨_,rfl⟩;rw [hs3] at HC3 HTK GE hee;have HEE:=Hz hee;clear rd hmem he3 hs3 hin hee;go_wp2_with fail;refine ay (.free 8 (.free 9 (.pure 0 (.pure 1 (.free 2 (.free 3 (.pure 4 (.free 5 (.free 6 (.pure 7 (.run 10 (.run 11 (.swi [] (.fin)))))))))))))) [11] (fun w'=>w'.cell? ⟨b,0,none⟩=some (.pointer (some ⟨H.pc,0,none⟩))∧w'.cell? ⟨H.pc,0,none⟩=some (.pointer (some ⟨H.p,0,none⟩))∧w'.cell? ⟨H.p,0,none⟩=some (.pointer (some ⟨H.pa,0,none⟩))) (by kernel_rfl) (by kernel_rfl) ⟨b0,c0,p0⟩ ?_
       iterate 10 ((first | refine au rfl rfl fun K hK=>?_ | refine aq rfl rfl fun K hK=>?_ | refine aF rfl rfl fun K hK=>?_ | refine az rfl rfl fun K hK=>?_ | refine aE rfl rfl fun K hK=>?_);go_simp;refine hK _ ?_;clear hK K)
       have HC4:=Hz (HC3.out.same ((Kz wr).drew));have HB4:=Hz ((Kz wr).drew.ak HB3.out (fun h=>h));have K4:=Hz (K3.out.trans ((Kz wr).drew.mono (fun _ _ h=>h.elim)));refine aM rfl rfl (fun K hK=>?_);unfold aC;go_simp;refine (eD (i+1) _ HC4.out.J.ha).mono ?_;rintro e w4 ⟨rfl,rfl⟩;refine hK _ _ (fun h=>h) ?_;clear hK K;refine aJ rfl rfl rfl (fun K hK=>?_);unfold aC;go_simp;refine (HC4.out.J.dG _ HS.out HC4.out.ok D1.out).mono ?_;rintro e w4 ⟨rfl,rfl⟩;refine hK _ _ ?_;clear hK K b0 bl c0 p0 pl cl d0 hgl HC3 HB3 K3;refine aH (fun _=>True) trivial (aB ?_);generalize wr.drew=wr at *;cases hal:aY s3 (A.load (i+1))
       ·have HJ1:=Hz (show fu A s3 i=s3 by unfold fu;rw [hal];rfl);clear hal;go_wp2_with fail;go_roundw
        case rel=>exact ⟨k+1,hlt,by go_num,_,by rw [HTK.out,HJ1.out];exact HC4.out,K4.out,O3.out,HB4.out⟩
        case measure=>simp [intOf];omega
       ·have HJ1:=Hz (show fu A s3 i=cJ s3 (A.load (i+2)) by unfold fu;rw [hal];rfl);clear hal;have b0:=HB4.out.cell 0;have bl:=HB4.out.lt;simp only [Lz] at b0;have c0:=HC4.out.J.cells.1;have p0:=HC4.out.J.cells.2.2.2.2.2;have pl:=HC4.out.J.hp.lt;have cl:=HC4.out.J.hc.lt;go_wp2_with fail;refine ay (.free 8 (.free 9 (.pure 0 (.pure 1 (.free 2 (.free 3 (.pure 4 (.free 5 (.free 6 (.pure 7 (.run 10 (.run 11 (.swi [] (.fin)))))))))))))) [11] (fun w'=>w'.cell? ⟨b,0,none⟩=some (.pointer (some ⟨H.pc,0,none⟩))∧w'.cell? ⟨H.pc,0,none⟩=some (.pointer (some ⟨H.p,0,none⟩))∧w'.cell? ⟨H.p,0,none⟩=some (.pointer (some ⟨H.pa,0,none⟩))) (by kernel_rfl) (by kernel_rfl) ⟨b0,c0,p0⟩ ?_
        iterate 10 ((first | refine au rfl rfl fun K hK=>?_ | refine aq rfl rfl fun K hK=>?_ | refine aF rfl rfl fun K hK=>?_ | refine az rfl rfl fun K hK=>?_ | refine aE rfl rfl fun K hK=>?_);go_simp;refine hK _ ?_;clear hK K)
        have HC5:=Hz (HC4.out.same ((Kz wr).drew));have HB5:=Hz ((Kz wr).drew.ak HB4.out (fun h=>h));have K5:=Hz (K4.out.trans ((Kz wr).drew.mono (fun _ _ h=>h.elim)));refine aM rfl rfl (fun K hK=>?_);unfold aC;go_simp;refine (eD (i+2) _ HC5.out.J.ha).mono ?_;rintro e w4 ⟨rfl,rfl⟩;refine hK _ _ (fun h=>h) ?_;clear hK K;refine aJ rfl rfl rfl (fun K hK=>?_);unfold aC;go_simp;refine (kl _ HC5.out.J HS.out HC5.out.ok D2.out (by omega)).mono ?_;rintro e w6 ⟨rfl,sv6,J6,k6,o6⟩;have HB6:=Hz (k6.ak HB5.out (HC5.out.J.qx HB5.out));have GE':=GE.out;rw [HJ1.out] at GE';have C6:=Hz (show JS w6 H sp sv6 (.slice (some ⟨ge,oe,none⟩) s2.ep.length ec) rv qv A f T L rg q (cJ s3 (A.load (i+2))) from ⟨J6,HC5.out.S.ae k6 (fun b hb hk=>HC5.out.J.cK HC5.out.S hk hb),GE'⟩);have K6:=Hz (K5.out.then (k6.mono (T:=fun k=>H.Own sv3 (.slice (some ⟨ge,oe,none⟩) s2.ep.length ec) k∨a7 sp rv qv k) (fun _ _ h=>.inl h)) (fun k hk=>by
         rcases hk with hk | hk
         ·exact (O3.out k hk).imp .inl id
         ·exact .inl (.inr hk)))
        have O6:=Hz (show ∀ k,H.Own sv6 (.slice (some ⟨ge,oe,none⟩) s2.ep.length ec) k→H.Own (.slice so s2.st.length sc) (.slice (some ⟨ge,oe,none⟩) s2.ep.length ec) k∨w2.heap.size≤k from fun k hk=>by
         rcases o6 k hk with h | h
         ·exact O3.out k h
         ·exact .inr (Nat.le_trans K5.out.size h))
        refine hK _ _ ?_;clear hK K b0 bl c0 p0 pl cl J6 k6 o6 GE';refine aH (fun _=>True) trivial (aB ?_);go_wp2_with fail;go_roundw
        case rel=>exact ⟨k+1,hlt,by go_num,_,by rw [HTK.out,HJ1.out];exact C6.out,K6.out,O6.out,HB6.out⟩
        case measure=>simp [intOf];omega
      ·obtain rfl:k=s2.ep.length:=by omega
       rw [List.take_length] at HC3 hee;obtain ⟨s3,hs3⟩:∃ s,gT A s2 s2.ep=s:=⟨_,rfl⟩;have HS3:=Hz hs3;rw [hs3] at HC3;clear hs3 hee hlt hk;go_wp2_with fail;refine (An sp (Bj H A f T L HS.out (by omega) sp b) kM (fun _ _ _=>rfl) s3 (fun k=>H.Own sv3 (.slice eo s2.ep.length ec) k∨k=b) rv qv rg q wr (fun _ _ h _=>h) ⟨_,_,HC3.out.J,HC3.out.ok,HB3.out,rfl⟩ HC3.out.S (fun k hk=>by
        rcases hk with ⟨hk | hk,hs⟩
        ·exact HC3.out.J.cK HC3.out.S hk hs
        ·subst hk;obtain ⟨_,U,h',hU⟩:=HC3.out.S.cG hs;refine HB3.out.ne h' ?_ rfl
         rcases hU with rfl | rfl <;> decide) HQL.out (fun e he=>HQ.out e he)).mono ?_
       rintro e w6 ⟨rfl,F6,⟨sv6,ev6,hJ6,hG6,hB6,rfl⟩,hS6,-,hk6,hF6,-⟩;replace hS6:bu w6 sp rv qv rg (wakeM aY kM s3 q).2.1:=hS6;rw [my] at hS6;replace hJ6:cv w6 H sv6 ev6 A (wakeM aY kM s3 q).1 f:=hJ6;replace hG6:bK A T (wakeM aY kM s3 q).1 L:=hG6;have HRD:=Hz (show df A q s1=(wakeM aY kM s3 q).1 by unfold df;rw [HST.out,HS3.out]);rw [←HRD.out] at hJ6 hG6;have C6:=Hz (show JS w6 H sp sv6 ev6 rv qv A f T L rg q (df A q s1) from ⟨hJ6,hS6,hG6⟩);have KB:=Hz hB6;have T6:=Hz (show fQ w H sp sv ev rv qv A f T L rg q (df A q s1) w6 from by
        have k12:=K1.out.then K2.out (fun k hk=>hk.elim (fun h=>(O1.out k h).imp .inl id) (fun h=>.inl (.inr h)));have o12:∀ k,H.Own (.slice so s2.st.length sc) (.slice eo s2.ep.length ec) k→H.Own sv ev k∨w.heap.size≤k:=fun k hk=>by
         rcases O2.out k hk with h | h
         ·exact O1.out k h
         ·exact .inr (Nat.le_trans K1.out.size h)
        have k13:=k12.then K3.out (fun k hk=>hk.elim (fun h=>(o12 k h).imp .inl id) (fun h=>.inl (.inr h)));have o13:∀ k,H.Own sv3 (.slice eo s2.ep.length ec) k→H.Own sv ev k∨w.heap.size≤k:=fun k hk=>by
         rcases O3.out k hk with h | h
         ·exact o12 k h
         ·exact .inr (Nat.le_trans k12.size h)
        refine ⟨sv6,ev6,C6.out,k13.then hk6 (fun k hk=>?_),fun k hk=>?_⟩
        ·rcases hk with (hk | hk) | hk
         ·exact (o13 k hk).imp .inl id
         ·exact .inr (by rw [hk];exact BG.out)
         ·exact .inl (.inr hk)
        ·rcases hF6 k (.inl hk) with (h | h) | h
         ·exact o13 k h
         ·exact .inr (by rw [h];exact BG.out)
         ·exact .inr (Nat.le_trans k13.size h))
       have RD:=Hz (HC1.out.ok.round HS.out HQ.out (vS HC1.out.ok hL));have RF:=Hz (ue HC1.out.ok HS.out HQ.out (vS HC1.out.ok hL));have PF:=Hz (mJ HS.out 2000 HC1.out.ok);have FW:=Hz T6.out.cy;clear hJ6 hG6 hB6 hS6 hk6 hF6 b0 bl c0 p0 pl cl HRD HS3 HC3 HB3 K3 O3;have b0:=KB.out.cell 0;have bl:=KB.out.lt;simp only [Lz] at b0;have c3:=C6.out.J.cells.2.2.2.1;have cl:=C6.out.J.hc.lt;obtain ⟨so6,sc6,rfl,-,-,-⟩:=C6.out.J.hs.rd;obtain ⟨s4,hs4⟩:∃ s,df A q s1=s:=⟨_,rfl⟩;have HS4:=Hz hs4;rw [hs4] at C6 T6 RD RF FW c3;clear hs4;by_cases hne:s4.st=[]
       ·have hl0:s4.st.length=0:=by rw [hne];rfl
        have HNE:=Hz hne;rw [hl0] at c3;clear hne hl0;go_wp2_with fail;go_roundw
        case rel=>exact .inr ⟨rfl,by rw [HE.out,eh,if_pos (by rw [HS4.out];exact HNE.out),HS4.out];exact T6.out⟩
        case measure=>
         have h1:=HMU.out;have h2:=RF.out;have h3:=FW.out;rw [h1];unfold kQ;rw [h3];dsimp only;omega
       ·have HNE:=Hz hne;have hpos:=List.length_pos_iff.2 hne;obtain ⟨l,hl⟩:∃ l,s4.st.length=l+1:=⟨s4.st.length-1,by omega⟩;rw [hl] at c3;have hlt:=RD.out.2.2.1 hne;have HLT:=Hz hlt;have hll:l≤2000:=by have:=RD.out.1.sum;omega
        have hd2:(0:Int)<(l:Int)+1:=by omega
        have hd:decide ((0:Int)<(l:Int)+1)=true:=decide_eq_true hd2;clear hne hpos hl hlt;go_wp2_with fail;go_roundw
        case rel=>
         refine .inl ⟨n-1,s4,rfl,T6.out,KB.out,?_,?_⟩
         ·rw [HE.out];obtain ⟨n,rfl⟩:∃ k,n=k+1:=⟨n-1,by have:=HN.out;have:=HLT.out;have:=PF.out;omega⟩
          show eh A q (n+1+1) s1=eh A q (n+1) s4
          rw [eh,HS4.out,if_neg HNE.out]
         ·have:=HN.out;have:=HLT.out;have:=PF.out;omega
        case measure=>
         have h1:=HMU.out;have h2:=RF.out;have h3:=FW.out;have h4:=HLT.out;have h5:=PF.out;rw [h1];unfold kQ;rw [h3];dsimp only;omega
    ·have hpos:=List.length_pos_iff.2 hne;obtain ⟨l,hl⟩:∃ l,s2.st.length=l+1:=⟨s2.st.length-1,by omega⟩;obtain ⟨g,o,rfl,d0⟩:=hsr.int l (by omega);have hgl:=(HC2.out.J.hs.own rfl).1;obtain ⟨hpG,hpM⟩:=HC2.out.ok.pop HS.out hne;obtain ⟨hdG,hdM,hdT⟩:=HC2.out.ok.drop hne;have hlast:s2.st.getLastD 0=s2.st.getD l 0:=by
      rw [List.getLastD_eq_getLast?,List.getLast?_eq_getElem?,hl,Ld];rfl
     have HP:=Hz (show iL A s2=jk A { s2 with st:=s2.st.dropLast } (s2.st.getD l 0) by unfold iL;rw [hlast]);rw [hlast] at hdT;have PG:=Hz hpG;have PM:=Hz hpM;have DG:=Hz hdG;have DT:=Hz hdT;have HNE:=Hz hne;have HSL:=Hz hl;rw [hl] at HC2 c3 hsc O2;clear hpG hpM hdG hdM hdT hlast hne hpos hl hsr;generalize s2.st.getD l 0=x at *;have hll:l≤2000:=by have:=HSL.out;omega
     have hwl:IntKind.i64.wrap (l:Int)=l:=IntWalk.i64_in _ (by omega);have hl1:(l:Int)<(l:Int)+1:=by omega
     have hlc:l≤sc:=by omega
     go_wp2_with fail;refine ay (.pure 0 (.free 1 (.free 2 (.pure 3 (.pure 4 (.free 5 (.free 6 (.pure 7 (.free 8 (.free 9 (.free 10 (.pure 11 (.free 12 (.fin)))))))))))))) [] (fun w'=>w'.cell? ⟨b,0,none⟩=some (.pointer (some ⟨H.pc,0,none⟩))∧w'.cell? ⟨H.pc,3,none⟩=some (.slice (some ⟨g,o,none⟩) (l+1) sc)∧w'.cell? ⟨g,o+l,none⟩=some (.int .i64 x)) (by kernel_rfl) (by kernel_rfl) ⟨b0,c3,d0⟩ ?_
     iterate 13 ((first | refine au rfl rfl fun K hK=>?_ | refine aq rfl rfl fun K hK=>?_ | refine aF rfl rfl fun K hK=>?_ | refine az rfl rfl fun K hK=>?_ | refine aE rfl rfl fun K hK=>?_);go_simp;refine hK _ ?_;clear hK K)
     refine aB ?_;have HC3:=Hz (HC2.out.same ((Kz wr).drew));have HB3:=Hz ((Kz wr).drew.ak HB2.out (fun h=>h));have K3:=Hz (K2.out.trans ((Kz wr).drew.mono (fun _ _ h=>h.elim)));clear b0 c3 d0 bl c4 cl hgl;generalize wr.drew=wr at *;have b0:=HB3.out.cell 0;have bl:=HB3.out.lt;simp only [Lz] at b0;have c3:=HC3.out.J.cells.2.2.2.1;have cl:=HC3.out.J.hc.lt;have cf:=HC3.out.J.hc.free 3;go_wp2_with fail;refine ay (.pure 0 (.pure 1 (.free 2 (.free 3 (.pure 4 (.pure 5 (.free 6 (.free 7 (.pure 8 (.free 9 (.free 10 (.free 11 (.free 12 (.free 13 (.run 14 (.swi [] (.fin))))))))))))))))) [14] (fun w'=>w'.cell? ⟨b,0,none⟩=some (.pointer (some ⟨H.pc,0,none⟩))∧w'.cell? ⟨H.pc,3,none⟩=some (.slice (some ⟨g,o,none⟩) (l+1) sc)) (by kernel_rfl) (by kernel_rfl) ⟨b0,c3⟩ ?_
     iterate 14 ((first | refine au rfl rfl fun K hK=>?_ | refine aq rfl rfl fun K hK=>?_ | refine aF rfl rfl fun K hK=>?_ | refine az rfl rfl fun K hK=>?_ | refine aE rfl rfl fun K hK=>?_);go_simp;refine hK _ ?_;clear hK K)
     refine aJ rfl rfl rfl (fun K hK=>?_);unfold aC;go_simp;refine hK _ _ ?_;clear hK K;refine aH (fun _=>True) trivial (aB ?_);have EV:=Hz (show ab (fun k=>H.Own (.slice (some ⟨g,o,none⟩) (l+1) sc) (.slice eo s2.ep.length ec) k∨a7 sp rv qv k) wr (wr.setCell ⟨H.pc,3,none⟩ (.slice (some ⟨g,o,none⟩) l sc)).drew from
      ((ab.refl _ wr).setCell (p:=⟨H.pc,3,none⟩) (.inl (.inl (.inr (.inr (.inr (.inl rfl)))))) _).drew)
     have HC4:=Hz (show JS (wr.setCell ⟨H.pc,3,none⟩ (.slice (some ⟨g,o,none⟩) l sc)).drew H sp (.slice (some ⟨g,o,none⟩) l sc) (.slice eo s2.ep.length ec) rv qv A f T (L-1) rg q { s2 with st:=s2.st.dropLast } from
      ⟨(HC3.out.J.pop HSL.out).same (Kz _).drew,HC3.out.S.ae (((ab.refl (·=H.pc) wr).setCell (p:=⟨H.pc,3,none⟩) (.inl rfl) _).drew) (fun b' hb' e=>HC3.out.J.cK HC3.out.S (k:=H.pc) (.inr (.inr (.inr (.inl rfl)))) (e ▸ hb')),DG.out⟩)
     have HB4:=Hz (show iN (wr.setCell ⟨H.pc,3,none⟩ (.slice (some ⟨g,o,none⟩) l sc)).drew b H from HC3.out.var HB3.out EV.out);clear b0 bl c3 cl cf;generalize (wr.setCell ⟨H.pc,3,none⟩ (.slice (some ⟨g,o,none⟩) l sc)).drew=w4 at *;have b0:=HB4.out.cell 0;have bl:=HB4.out.lt;simp only [Lz] at b0;go_wp2_with fail;refine (Am x HC4.out.J HS.out HC4.out.ok DT.out (by omega)).mono ?_;rintro e w6 ⟨rfl,t⟩;have HB6:=Hz (show iN w6 b H from by
      obtain ⟨_,_,_,k6,_⟩:=id t
      exact k6.ak HB4.out (HC4.out.J.qx HB4.out))
     rw [←HP.out] at t;have T6:=Hz (show fQ w1 H sp sv1 ev1 rv qv A f T L rg q (iL A s2) w6 from by
      obtain ⟨a,b',J6,k6,o6⟩:=t;have k14:=K3.out.then EV.out (fun k hk=>hk.elim (fun h=>(O2.out k h).imp .inl id) (fun h=>.inl (.inr h)));refine fQ.join k14 (sv1:=.slice (some ⟨g,o,none⟩) l sc) (ev1:=.slice eo s2.ep.length ec) (fun k hk=>O2.out k hk) ?_
      exact ⟨a,b',⟨J6,HC4.out.S.ae k6 (fun b hb hk=>HC4.out.J.cK HC4.out.S hk hb),PG.out⟩,k6.mono (fun _ _ h=>.inl h),o6⟩)
     clear t b0 bl;go_wp2_with fail;go_roundw
     case rel=>
      refine ⟨m-1,iL A s2,T6.out,HB6.out,?_,by have:=PM.out;have:=HM2.out;omega⟩;rw [HE2.out];obtain ⟨m,rfl⟩:∃ k,m=k+1:=⟨m-1,by have:=HM2.out;omega⟩
      show jPops A (m+1) s2=jPops A m (iL A s2)
      rw [jPops,if_neg HNE.out]
     case measure=>
      have h1:=HLF.out;have h2:=T6.out.jM;have h3:=PM.out;rw [h1,h2];omega
  ·have HT:=Hz ht;clear ht;go_wp2_with fail;go_end0;exact ⟨rfl,HT.out⟩
end
end
section
open Go.RowKit
def tu (w:World) (b sp:Nat):Prop:=ah w b [.pointer (some ⟨sp,0,none⟩)] 49
section
variable {w w':World} {H:JH} {sv ev rv qv:Value} {A:Ar} {s:Gs} {f:List Int} {T:Int→Prop} {L sp:Nat} {rg q:List (Int × Int)}
theorem JS.yS (C:JS w H sp sv ev rv qv A f T L rg q s) {b:Nat} (hb:tu w b sp) (k:ab (fun k=>H.Own sv ev k∨a7 sp rv qv k) w w'):tu w' b sp:=k.ak hb (fun h=>by
 rcases h with h | h
 ·obtain ⟨_,T,h',hT⟩:=C.J.bB h;refine hb.ne h' ?_ rfl;rcases hT with rfl | rfl | rfl | rfl | rfl | rfl <;> decide
 ·obtain ⟨_,U,h',hU⟩:=C.S.cG h;refine hb.ne h' ?_ rfl
  rcases hU with rfl | rfl <;> decide)
theorem Ap (x:Int) (b b2:Nat) (C:JS w H sp sv ev rv qv A f T L rg q s) (S:dH A T) (hq:∀ e ∈ q,Dm T e.1∧Dm T e.2) (hql:q.length≤1000000) (hL:L≤1900) (hx:Dm T x) (hb:iN w b H) (da:tu w b2 sp) :
  Calls Tryz.prog 72 #[.int .i64 x, .pointer (some ⟨b,0,none⟩), .pointer (some ⟨b2,0,none⟩)] w fun e w'=>e=.returned (.int .i64 x)∧fQ w H sp sv ev rv qv A f T L rg q (eh A q 2000 (cJ s x)) w':=by
 have HM:=Hz (kl x C.J S C.ok hx (by omega));have HC:=Hz C;have HS:=Hz S;have HQ:=Hz hq;have HX:=Hz hx;have HB:=Hz hb;have HB2:=Hz da;have b0:=hb.cell 0;have bl:=hb.lt;simp only [Lz] at b0;clear C S hq hx hb da;go_enter Tryz.func72,Tryz.ntmps72;go_wp2_with fail;refine HM.out.mono ?_;rintro e w1 ⟨rfl,t⟩;obtain ⟨sv1,J1,k1,o1⟩:=t;have KJ:=Hz (k1.mono (T:=fun k=>H.Own sv ev k∨a7 sp rv qv k) (fun _ _ h=>.inl h));have C1:=Hz (show JS w1 H sp sv1 ev rv qv A f T L rg q (cJ s x) from ⟨J1,HC.out.S.ae k1 (fun b hb hk=>HC.out.J.cK HC.out.S hk hb),(HC.out.ok.mark HS.out HX.out).1⟩);have B1:=Hz (HC.out.var HB.out KJ.out);have B2:=Hz (HC.out.yS HB2.out KJ.out);have O1:=Hz o1;clear b0 bl J1 k1 o1;have b0:=B1.out.cell 0;have bl:=B1.out.lt;have c0:=B2.out.cell 0;have cl:=B2.out.lt;simp only [Lz] at b0 c0;go_wp2_with fail;refine (tt C1.out HS.out HQ.out hql hL).mono ?_;rintro e w2 ⟨rfl,t⟩;have T2:=Hz (fQ.join KJ.out O1.out t);clear t b0 bl c0 cl;go_wp2_with fail;go_ret;exact ⟨rfl,T2.out⟩
def pA (H:JH) (A:Ar) (f:List Int) (T:Int→Prop) (L:Nat) (S:dH A T) (hL:L≤1900) (sp b b2:Nat):eu Tryz.prog sp Gs where
 J:=fun w s F=>∃ sv ev,cv w H sv ev A s f∧bK A T s L∧iN w b H∧tu w b2 sp∧F=fun k=>H.Own sv ev k∨k=b∨k=b2
 D:=fun _ x=>Dm T x
 DK:=fun _ x=>Dm T x
 alive:=aY
 ae:=iE A
 now:=fw
 fa:=71
 fk:=72
 fn:=70
 a1:=#[.pointer (some ⟨H.pc,0,none⟩)]
 a2:=#[]
 k1:=#[]
 k2:=#[.pointer (some ⟨b,0,none⟩), .pointer (some ⟨b2,0,none⟩)]
 n1:=#[]
 n2:=#[]
 ea:=fun args w=>by kernel_rfl
 ek:=fun args w=>by kernel_rfl
 en:=fun args w=>by kernel_rfl
 J_keep:=fun h k hn=>by
  obtain ⟨sv,ev,h1,h2,h3,h4,rfl⟩:=h;exact ⟨sv,ev,h1.ae k (fun b hb=>hn b (.inl hb)),h2,k.ak h3 (hn _ (.inr (.inl rfl))),k.ak h4 (hn _ (.inr (.inr rfl))),rfl⟩
 J_lt:=fun h hk=>by
  obtain ⟨sv,ev,h1,h2,h3,h4,rfl⟩:=h;rcases hk with hk | rfl | rfl
  ·exact h1.bU hk
  ·exact h3.lt
  ·exact h4.lt
 dG:=fun w t F x hJ hx=>by
  obtain ⟨sv,ev,h1,h2,-⟩:=hJ;exact (h1.dG x S h2 hx).mono (by rintro e w' ⟨rfl,rfl⟩;exact ⟨rfl,ab.refl _ _⟩)
 now_c:=fun w t F x hJ _=>(uQ x w).mono (by rintro e w' ⟨rfl,rfl⟩;exact ⟨rfl,ab.refl _ _⟩)
 keep_c:=fun w t F rv qv av wait x hJ hS hA hx hq hl=>by
  obtain ⟨sv,ev,h1,h2,h3,h4,rfl⟩:=hJ;have C:JS w H sp sv ev rv qv A f T L av wait t:=⟨h1,hS,h2⟩;refine (Ap x b b2 C S hq hl hL hx h3 h4).mono ?_;rintro e w' ⟨rfl,sv',ev',C',k',o'⟩;refine ⟨rfl,_,⟨sv',ev',C'.J,C'.ok,C.var h3 k',C.yS h4 k',rfl⟩,C'.S,fun k hk=>?_,k'.mono (fun k _ hk=>hk.elim (fun h=>.inl (.inl h)) .inr),fun k hk=>?_⟩
  ·rcases hk with ⟨hk | hk,hs⟩
   ·exact C'.J.cK C'.S hk hs
   ·exact hA k ⟨.inr hk,hs⟩
  ·rcases hk with hk | hk
   ·exact (o' k hk).imp .inl id
   ·exact .inl (.inr hk)
 DK_D:=fun h=>h
 DK_keep:=fun _ h=>h
 D_keep:=fun _ h=>h
 D_new:=fun h=>h
 D_wait:=fun _ h=>h
 keep_len:=rfl
theorem lQ (x:Int) (J:cv w H sv ev A s f) (hx:x%4=1→0≤x/4∧x/4<f.length) (hl:f.length≤1000000) :
  Calls Tryz.prog 78 #[.pointer (some ⟨H.pc,0,none⟩), .int .i64 x] w fun e w'=>e=.returned (.int .i64 (cx f x))∧w=w':=by
 obtain ⟨-,-,c2,-,-,-⟩:=J.cells;have cl:=J.hc.lt;have ll:=J.ht.lt;by_cases h1:x%4=1
 ·obtain ⟨b0,b1⟩:=hx h1;have hi:=J.toCell (i:=(x/4).toNat) (by omega);have HE:=Hz (show cx f x=gP (f.getD (x/4).toNat 0) by unfold cx;rw [if_pos h1]);have AY:=Hz (fun w=>dt x w h1);clear J hx h1;generalize f.getD (x/4).toNat 0=y at *;generalize x/4=i at *;obtain ⟨i,rfl⟩:=Int.eq_ofNat_of_zero_le b0;simp only [Int.toNat_natCast] at hi;generalize f.length=n at *;go_enter Tryz.func78,Tryz.ntmps78;go_wp2_with fail;refine (AY.out _).mono ?_;rintro e w1 ⟨rfl,rfl⟩;go_wp2_with fail;refine (uN y _).mono ?_;rintro e w1 ⟨rfl,rfl⟩;go_wp2_with fail;go_ret;exact ⟨cM HE.out.symm,rfl⟩
 ·have HE:=Hz (show cx f x=x by unfold cx;rw [if_neg h1]);have AN:=Hz (fun w=>kR x w h1);clear J hx h1;go_enter Tryz.func78,Tryz.ntmps78;go_wp2_with fail;refine (AN.out _).mono ?_;rintro e w1 ⟨rfl,rfl⟩;go_wp2_with fail;go_ret;exact ⟨cM HE.out.symm,rfl⟩
theorem oN {s:Gs} {f:List Int} {b:Bool}:∀ (n:Nat) (A:Ar) (i:Int),jTurnN s f b (n+1) A i=jl s f b (jTurnN s f b n A i) (i+n)
 | 0,A,i=>by simp [jTurnN]
 | n+1,A,i=>by
  have:=oN (s:=s) (f:=f) (b:=b) n (jl s f b A i) (i+1);rw [jTurnN,this,jTurnN];congr 1;omega
theorem uR {s:Gs} {f:List Int} {b:Bool} {x:Int} (hx:br x):br (rC s f b x):=by
 unfold rC;split
 ·unfold br;omega
 ·unfold cx;split
  ·unfold gP br;rw [IntKind.wrap_i64];omega
  ·exact hx
theorem Aq (i:Int) (J:cv w H sv ev A s f) (h0:0≤i) (h1:i≤1300) (hl1:s.lv.length≤1000000) (hl2:f.length≤1000000) (hu:∀ j:Int,0≤j→j<(A.aj i).2.1→A.aS (i+1+j)=true) (hk4:(A.aj i).1=4→0<(A.aj i).2.1)
  (hd:∀ j:Int,0≤j→j<(A.aj i).2.1→A.load (i+1+j)%4=1→0≤A.load (i+1+j)/4∧A.load (i+1+j)/4<s.lv.length∧A.load (i+1+j)/4<f.length) :
  Calls Tryz.prog 77 #[.pointer (some ⟨H.pc,0,none⟩), .int .i64 i] w fun e w'=>e=.returned (.tuple #[])∧a5 w H.pa H.g w' (dK s f A i):=by
 have HJ:=Hz J;have HOK:=Hz J.ha.ok;have HL1:=Hz hl1;have HL2:=Hz hl2;obtain ⟨c0,-,-,-,-,p0⟩:=J.cells;have pl:=J.hp.lt;have cl:=J.hc.lt;have HTH:=Hz (gz i w J.ha);have hb:=A.aU i;have HR:=Hz (show dK s f A i=jTurnN s f (decide ((A.aj i).1=4) && !aY s (A.load (i+1))) (A.aj i).2.1.toNat A (i+1) from rfl);clear J;obtain ⟨⟨k,n,cd⟩,hT⟩:∃ t,A.aj i=t:=⟨_,rfl⟩;rw [hT] at HTH hb hu hk4 hd HR;dsimp only at HTH hb hu hk4 hd HR;clear hT;obtain ⟨m,rfl⟩:∃ m:Nat,n=m:=⟨n.toNat,by omega⟩;rw [Int.toNat_natCast] at HR;have HU:=Hz hu;have HD:=Hz hd;have HK4:=Hz hk4;have LR:=Hz (fun p=>HOK.out.load p);clear hu hd hk4;have hi1:IntKind.i64.wrap (i+1)=i+1:=IntWalk.i64_in _ (by omega);have HAL:=Hz (show ∀ w',cv w' H sv ev A s f→0<m→Calls Tryz.prog 71 #[.pointer (some ⟨H.pc,0,none⟩), .int .i64 (A.load (i+1))] w' fun e w''=>e=.returned (.bool (aY s (A.load (i+1))))∧w'=w'' from fun w' J' hm=>
  py _ J' (fun h=>by
   have:=HD.out 0 (by omega) (by omega);rw [Int.add_zero] at this
   exact ⟨(this h).1,(this h).2.1⟩) HL1.out)
 have REST:Hid (∀ bk:Bool,(decide (k=4) && !aY s (A.load (i+1)))=bk→∀ q:Nat,q<m→(jTurnN s f bk q A (i+1)).load (i+1+q)=A.load (i+1+q)∧(jTurnN s f bk q A (i+1)).ok):=fun bk _ q hq=>by
  have h:=mA (s:=s) (f:=f) (b:=bk) q (A:=A) (i+1) HOK.out (fun j j0 j1=>⟨HU.out j j0 (by omega),uR (LR.out _)⟩);exact ⟨by rw [h.2.2.2.2.2 (i+1+q),if_neg (by omega)],h.1⟩
 have END:Hid (∀ bk:Bool,(decide (k=4) && !aY s (A.load (i+1)))=bk→dK s f A i=jTurnN s f bk m A (i+1)):=fun bk hbk=>by rw [HR.out,hbk]
 go_enter Tryz.func77,Tryz.ntmps77;go_wp2_with fail;refine HTH.out.mono ?_;rintro e w1 ⟨rfl,rfl⟩;go_upto_region 1 with fail
 obtain ⟨bk,hbk⟩:∃ bk,(decide (k=4) && !aY s (A.load (i+1)))=bk:=⟨_,rfl⟩;have HBK:=Hz hbk;refine im (fun i=>Nat.blt 22 i && Nat.blt i 40 || Nat.beq i 7) (fun s' wx=>s' 7=.bool bk∧wx=w) ?_ ?_
 ·intro K' hK';by_cases h4:k=4
  ·subst h4;go_wp2_with fail;refine (eD (i+1) _ HJ.out.ha).mono ?_;rintro e w1 ⟨rfl,rfl⟩;go_wp2_with fail;refine (HAL.out _ HJ.out (by have:=HK4.out (by trivial);omega)).mono ?_;rintro e w1 ⟨rfl,rfl⟩;have hbk2:(!aY s (A.load (i+1)))=bk:=by simpa using hbk
   go_wp2_with fail;refine ⟨by kernel_rfl,?_⟩;exact ⟨rfl,rfl⟩
  ·have k4:(k == 4)=false:=by simpa using h4
   have hbk2:bk=false:=by rw [←hbk];simp [h4]
   subst hbk2;clear h4 hbk;go_wp2_with fail;refine ⟨by kernel_rfl,?_⟩;exact ⟨rfl,rfl⟩
 intro u1 wx hR;obtain ⟨e7,rfl⟩:=hR;have e7:u1 7=.bool bk:=e7;simp (maxSteps:=2000000) only [gH,overL,List.toList_toArray,Nat.blt,Nat.beq,Nat.ble,Nat.reduceAdd,Bool.or_false,Bool.false_or,Bool.or_true,Bool.true_or,Bool.and_true,Bool.true_and,Bool.and_false,Bool.false_and,cond_true,cond_false];rw [e7];clear e7;rename_i K3 hK3;have RB:=Hz (REST.out bk HBK.out);have EN:=Hz (END.out bk HBK.out);clear REST END hbk HAL HK4;go_wp2_with fail;go_loopw [41] (fun u wr=>∃ q:Nat,q≤m∧u=.int .i64 q∧a5 wx H.pa H.g wr (jTurnN s f bk q A (i+1))) (fun u _=>m-(intOf u).toNat)
 case atStart=>exact ⟨0,Nat.zero_le _,rfl,a5.refl HJ.out.ha (ab.refl _ _)⟩
 case round=>
  clear c0 p0 pl cl;obtain ⟨q,hq,rfl,t⟩:=hrel;have TQ:=Hz t;have JR:=Hz (HJ.out.bZ t);clear t;by_cases hlt:q<m
  ·obtain ⟨c0,-,-,-,-,p0⟩:=JR.out.cells;have pl:=JR.out.hp.lt;have cl:=JR.out.hc.lt;have LD:=Hz (RB.out q hlt).1;have hiq:IntKind.i64.wrap (i+1+q)=i+1+q:=IntWalk.i64_in _ (by omega);have DQ:=Hz (HD.out q (by omega) (by omega));have XR:=Hz (LR.out (i+1+q));have SN0:=oN (s:=s) (f:=f) (b:=bk) q A (i+1);unfold jl at SN0;rw [LD.out] at SN0;generalize hx:A.load (i+1+q)=x at *;go_wp2_with fail;refine (eD (i+1+q) _ JR.out.ha).mono ?_;rintro e w2 ⟨rfl,rfl⟩;rw [LD.out];cases bk
   ·go_wp2_with fail;refine (py x JR.out (fun h=>⟨(DQ.out h).1,(DQ.out h).2.1⟩) HL1.out).mono ?_;rintro e w3 ⟨rfl,rfl⟩;cases hal:aY s x
    ·have SN:=Hz (show jTurnN s f false (q+1) A (i+1)=(jTurnN s f false q A (i+1)).store (i+1+q) 3 by rw [SN0,hal];rfl);clear SN0 hal;go_wp2_with fail;refine ay (.free 0 (.free 1 (.free 2 (.free 7 (.free 8 (.free 9 (.free 10 (.pure 3 (.free 4 (.free 5 (.pure 6 (.run 11 (.run 12 (.swi [] (.fin))))))))))))))) [12] (fun w'=>w'.cell? ⟨H.pc,0,none⟩=some (.pointer (some ⟨H.p,0,none⟩))∧w'.cell? ⟨H.p,0,none⟩=some (.pointer (some ⟨H.pa,0,none⟩))) (by kernel_rfl) (by kernel_rfl) ⟨c0,p0⟩ ?_
     iterate 11 ((first | refine au rfl rfl fun K hK=>?_ | refine aq rfl rfl fun K hK=>?_ | refine aF rfl rfl fun K hK=>?_ | refine az rfl rfl fun K hK=>?_ | refine aE rfl rfl fun K hK=>?_);go_simp;refine hK _ ?_;clear hK K)
     refine aM rfl rfl (fun K hK=>?_);unfold aC;go_simp;refine (r6 _).mono ?_;rintro e w4 ⟨rfl,rfl⟩;refine hK _ _ (fun h=>h) ?_;clear hK K;refine aJ rfl rfl rfl (fun K hK=>?_);unfold aC;go_simp;refine (gy (i+1+q) 3 _ (JR.out.same ((Kz wr).drew)).ha (by unfold br;omega)).mono ?_;rintro e w5 ⟨rfl,t⟩;have T5:=Hz (TQ.out.trans ((a5.refl JR.out.ha (ab.refl _ _).drew).trans t));refine hK _ _ ?_;clear hK K t c0 p0 pl cl;refine aH (fun _=>True) trivial (aB ?_);go_wp2_with fail;go_roundw
     case rel=>exact ⟨q+1,hlt,by go_num,by rw [SN.out];exact T5.out⟩
     case measure=>simp [intOf];omega
    ·have SN:=Hz (show jTurnN s f false (q+1) A (i+1)=(jTurnN s f false q A (i+1)).store (i+1+q) (cx f x) by rw [SN0,hal];rfl);clear SN0 hal;go_wp2_with fail;refine ay (.free 0 (.free 1 (.free 2 (.free 7 (.free 8 (.free 9 (.free 10 (.free 11 (.free 12 (.pure 3 (.free 4 (.free 5 (.pure 6 (.run 13 (.run 14 (.swi [] (.fin))))))))))))))))) [14] (fun w'=>w'.cell? ⟨H.pc,0,none⟩=some (.pointer (some ⟨H.p,0,none⟩))∧w'.cell? ⟨H.p,0,none⟩=some (.pointer (some ⟨H.pa,0,none⟩))) (by kernel_rfl) (by kernel_rfl) ⟨c0,p0⟩ ?_
     iterate 13 ((first | refine au rfl rfl fun K hK=>?_ | refine aq rfl rfl fun K hK=>?_ | refine aF rfl rfl fun K hK=>?_ | refine az rfl rfl fun K hK=>?_ | refine aE rfl rfl fun K hK=>?_);go_simp;refine hK _ ?_;clear hK K)
     refine aM rfl rfl (fun K hK=>?_);unfold aC;go_simp;refine (lQ x (JR.out.same ((Kz wr).drew)) (fun h=>⟨(DQ.out h).1,(DQ.out h).2.2⟩) HL2.out).mono ?_;rintro e w4 ⟨rfl,rfl⟩;refine hK _ _ (fun h=>h) ?_;clear hK K;refine aJ rfl rfl rfl (fun K hK=>?_);unfold aC;go_simp;refine (gy (i+1+q) (cx f x) _ (JR.out.same ((Kz wr).drew)).ha (by
      have:=uR (s:=⟨s.lv,s.st,s.ep⟩) (f:=f) (b:=false) (x:=x) XR.out;unfold cx;split
      ·unfold gP br;rw [IntKind.wrap_i64];omega
      ·exact XR.out)).mono ?_
     rintro e w5 ⟨rfl,t⟩;have T5:=Hz (TQ.out.trans ((a5.refl JR.out.ha (ab.refl _ _).drew).trans t));refine hK _ _ ?_;clear hK K t c0 p0 pl cl;refine aH (fun _=>True) trivial (aB ?_);go_wp2_with fail;go_roundw
     case rel=>exact ⟨q+1,hlt,by go_num,by rw [SN.out];exact T5.out⟩
     case measure=>simp [intOf];omega
   ·have SN:=Hz (show jTurnN s f true (q+1) A (i+1)=(jTurnN s f true q A (i+1)).store (i+1+q) 3 by rw [SN0];rfl);clear SN0;go_wp2_with fail;refine ay (.free 0 (.free 1 (.free 2 (.free 7 (.free 8 (.free 9 (.free 10 (.pure 3 (.free 4 (.free 5 (.pure 6 (.run 11 (.run 12 (.swi [] (.fin))))))))))))))) [12] (fun w'=>w'.cell? ⟨H.pc,0,none⟩=some (.pointer (some ⟨H.p,0,none⟩))∧w'.cell? ⟨H.p,0,none⟩=some (.pointer (some ⟨H.pa,0,none⟩))) (by kernel_rfl) (by kernel_rfl) ⟨c0,p0⟩ ?_
    iterate 11 ((first | refine au rfl rfl fun K hK=>?_ | refine aq rfl rfl fun K hK=>?_ | refine aF rfl rfl fun K hK=>?_ | refine az rfl rfl fun K hK=>?_ | refine aE rfl rfl fun K hK=>?_);go_simp;refine hK _ ?_;clear hK K)
    refine aM rfl rfl (fun K hK=>?_);unfold aC;go_simp;refine (r6 _).mono ?_;rintro e w4 ⟨rfl,rfl⟩;refine hK _ _ (fun h=>h) ?_;clear hK K;refine aJ rfl rfl rfl (fun K hK=>?_);unfold aC;go_simp;refine (gy (i+1+q) 3 _ (JR.out.same ((Kz wr).drew)).ha (by unfold br;omega)).mono ?_;rintro e w5 ⟨rfl,t⟩;have T5:=Hz (TQ.out.trans ((a5.refl JR.out.ha (ab.refl _ _).drew).trans t));refine hK _ _ ?_;clear hK K t c0 p0 pl cl;refine aH (fun _=>True) trivial (aB ?_);go_wp2_with fail;go_roundw
    case rel=>exact ⟨q+1,hlt,by go_num,by rw [SN.out];exact T5.out⟩
    case measure=>simp [intOf];omega
  ·obtain rfl:q=m:=by omega
   go_wp2_with fail;go_end0;exact ⟨rfl,by rw [EN.out];exact TQ.out⟩
end
end
section
open Go.RowKit
theorem tw {P:Program} {w:World} {ops:Array Oper} {rest:List Oper} {o:Oper} {a:Act} {Q:Exit→Act→World→Prop} (hgd:o.guard=none) (s x:Operand) (t tn:TypeId)
  (ho:o.op=.call { callee:=.builtin .append,args:=#[s,x],argTypes:=#[t,tn] })
  (e:TypeId) (i:TypeInfo) (z:Value) (k kn:IntKind) (ht:P.underlying t=some (.slice e)) (htn:P.underlying tn=some (.int kn)) (hi:P.info? e=some i) (hz:i.zero=some z)
  (hzs:z.cells.size=1) (hsize:i.size=1) (n:Nat) (hs:a.eval s=.slice none 0 0) (hx:a.eval x=.int k n) (h0:0<n) (h63:n≤maxLen) (h48:n*i.bytes≤281474976710656)
  (h:∀ cap w',n≤cap→Sl w' e 1 (.slice (some ⟨w.heap.size,0,none⟩) 0 cap) 0 []→ab (fun _=>False) w w'→wpList P ops Q rest (a.put o.dst (.slice (some ⟨w.heap.size,0,none⟩) n cap)) w'):wpList P ops Q (o :: rest) a w:=by
 refine wpList_plain hgd fun _ hK=>?_;have hr:=Lib.run_append_nil_zeros (P:=P) w t tn o.type e i z k kn ht htn hi hz n h0 (by omega) (by unfold maxLen at h63;omega) h48;unfold Oper.wp execOp;simp only [ho,resolve,invoke,builtin,Sem.run_bind,Sem.run_pure,Result.andThen_ok,List.map_toArray,List.map_cons,List.map_nil,hs,hx,hr];refine hK _ _ (h _ _ (grownCap_ge w n 0 e) ⟨rfl, .inr ⟨_,0,_,_,rfl,ah.newAt _ rfl rfl,Nat.zero_le _,grownCap_le_maxLen w n 0 e h63,?_,by simp⟩⟩ ((ab.refl _ _).drew.alloc _));have:=grownCap_ge w n 0 e;simp only [Array.length_toList,Array.size_append,size_zeroCells,hzs];omega
theorem xD (w:World):Calls Tryz.prog 136 #[.slice none 0 0, .int .i64 0] w fun e w'=>e=.returned (.slice none 0 0)∧w=w':=by
 go_enter Tryz.func136,Tryz.ntmps136;go_wp2_with fail;go_ret;exact ⟨rfl,rfl⟩
def As (w:World) (n:Nat) (e:Ending) (w':World):Prop:=∃ cap,e=.returned (.slice (some ⟨w.heap.size,0,none⟩) 0 cap)∧n≤cap∧Sl w' 3 1 (.slice (some ⟨w.heap.size,0,none⟩) 0 cap) 0 []∧ab (fun _=>False) w w'
theorem Bm (n:Nat) (h0:0<n) (hn:n≤1000000) (w:World):Calls Tryz.prog 136 #[.slice none 0 0, .int .i64 n] w (As w n):=by
 obtain ⟨i0,hi,hz0,hz1,hz2⟩:=info_parts jv;have hw1:IntKind.i64.wrap (n:Int)=n:=IntWalk.i64_in _ (by omega);have hd:decide ((0:Int)<(n:Int))=true:=by simp;omega
 have hd2:(0:Int)<(n:Int):=by omega
 go_enter Tryz.func136,Tryz.ntmps136;go_wp2_with (at_builtin;refine tw rfl (.tmp 20) (.tmp 21) 83 3 rfl 3 i0 (.int .i64 0) .i64 .i64 Tryz.underlying83 Tryz.underlying3 hi hz0 (by decide) hz1 n rfl rfl h0 (by unfold maxLen;omega) (by rw [hz2];omega) ?_);intro cap w1 hc hs hk;have HC:=Hz hc;have HS:=Hz hs;have HK:=Hz hk;clear hc hs hk;have h0c:(0:Nat)≤cap:=Nat.zero_le _;go_wp2_with fail;go_ret;exact ⟨cap,rfl,HC.out,HS.out,HK.out⟩
theorem tx (q:Nat) (a b:Option Addr) (ca cb:Nat) (l1 l2:List Int) (w:World) (hq:ah w q [.slice a l1.length ca, .slice b l2.length cb] 83) (h1:Rd w a (l1.map (Value.int .i64))) (h2:Rd w b (l2.map (Value.int .i64))) (n1:l1.length≤100000) (n2:l2.length≤100000) :
  Calls Tryz.prog 75 #[.slice (some ⟨q,0,none⟩) 2 2] w fun e w'=>nV 3 w e w' (l1 ++ l2):=by
 obtain ⟨i0,hi,hz0,hz1,hz2⟩:=info_parts jv;have Hi:=Hz hi;have Hz0:=Hz hz0;have Hz1:=Hz hz1;have Hz2:=Hz hz2;clear hi hz0 hz1 hz2;have HQ:=Hz hq;have H1:=Hz h1;have H2:=Hz h2;have q0:=hq.cell 0;have q1:=hq.cell 1;have ql:=hq.lt;simp only [Lz,List.getElem?_cons_succ] at q0 q1;clear hq h1 h2;have wr1:IntKind.i64.wrap (l1.length:Int)=l1.length:=IntWalk.i64_in _ (by omega);have wr2:IntKind.i64.wrap ((l1.length:Int)+l2.length)=(l1.length:Int)+l2.length:=IntWalk.i64_in _ (by omega);have p1:decide ((l1.length:Int)<0)=false:=by simp
 have p2:decide ((l1.length:Int)+l2.length<0)=false:=by simp;omega
 go_enter Tryz.func75,Tryz.ntmps75;go_wp2_with fail;go_loopw [3,11] (fun t i wr=>wr=w∧((i=.int .i64 0∧t=.int .i64 0)∨(i=.int .i64 1∧t=.int .i64 l1.length)∨(i=.int .i64 2∧t=.int .i64 ((l1.length:Int)+l2.length)))) (fun _ i _=>2-(intOf i).toNat)
 case atStart=>exact ⟨rfl, .inl ⟨rfl,rfl⟩⟩
 case round=>
  obtain ⟨rfl,⟨rfl,rfl⟩ | ⟨rfl,rfl⟩ | ⟨rfl,rfl⟩⟩:=hrel
  ·go_wp2_with fail;go_roundw
   case rel=>simp
   case measure=>decide
  ·go_wp2_with fail;go_roundw
   case rel=>simp
   case measure=>decide
  ·obtain ⟨w0,rfl⟩:∃ x:World,x=wr:=⟨wr,rfl⟩;obtain ⟨n,hn⟩:∃ n:Nat,l1.length+l2.length=n:=⟨_,rfl⟩;have HN:=Hz hn;have hnc:(l1.length:Int)+l2.length=n:=by omega
   rw [hnc] at wr2 p2;rw [hnc];clear hnc;have GR:Hid (Calls Tryz.prog 136 #[.slice none 0 0, .int .i64 n] w0 fun e w'=>∃ ao cap,e=.returned (.slice ao 0 cap)∧Sl w' 3 1 (.slice ao 0 cap) 0 []∧ab (fun _=>False) w0 w'∧∀ k,ai (.slice ao 0 cap) k→w0.heap.size≤k):=by
    by_cases h0:n=0
    ·subst h0;refine (xD w0).mono ?_;rintro e w' ⟨rfl,rfl⟩;exact ⟨none,0,rfl,Sl.nil _ _ _,ab.refl _ _,fun k hk=>(bM hk).elim⟩
    ·refine (Bm n (by omega) (by omega) w0).mono ?_;rintro e w' ⟨cap,rfl,-,hs,hk⟩;exact ⟨_,cap,rfl,hs,hk,fun k hk=>by simp [ai,Value.ownBlock] at hk;omega⟩
   go_wp2_with fail;refine GR.out.mono ?_;rintro e w1 ⟨ao,cap,rfl,hs,hk,ho⟩;have HI0:=Hz (show Sl w1 3 1 (.slice ao 0 cap) 0 []∧ab (fun _=>False) w0 w1∧∀ k,ai (.slice ao 0 cap) k→w0.heap.size≤k from ⟨hs,hk,ho⟩);clear hs hk ho GR q0 q1 ql p1 p2 hn;go_wp2_with fail;go_loopw [6,27] (fun v i wr=>∃ (ao:Option Addr) (cap k:Nat) (l:List Int),v=.slice ao l.length cap∧i=.int .i64 k∧((k=0∧l=[])∨(k=1∧l=l1)∨(k=2∧l=l1 ++ l2))∧Sl wr 3 1 (.slice ao l.length cap) l.length (l.map (Value.int .i64))∧ab (fun _=>False) w0 wr∧∀ k,ai (.slice ao l.length cap) k→w0.heap.size≤k) (fun _ i _=>2-(intOf i).toNat)
   case atStart=>exact ⟨ao,cap,0,[],rfl,rfl, .inl ⟨rfl,rfl⟩,HI0.out⟩
   case round=>
    clear HI0;obtain ⟨ao,cap,k,l,rfl,rfl,hkl,hs,hk,ho⟩:=hrel;have HS:=Hz hs;have HK:=Hz hk;have HO:=Hz ho;clear hs hk ho;have HQ1:=Hz (HK.out.ak HQ.out (fun h=>h));have q0:=HQ1.out.cell 0;have q1:=HQ1.out.cell 1;have ql:=HQ1.out.lt;simp only [Lz,List.getElem?_cons_succ] at q0 q1;rcases hkl with ⟨rfl,rfl⟩ | ⟨rfl,rfl⟩ | ⟨rfl,rfl⟩
    ·go_wp2_with (at_builtin;refine ik rfl (.tmp 31) (.tmp 32) 83 rfl 3 i0 (.int .i64 0) 1 8 Tryz.underlying83 Hi.out Hz0.out Hz1.out Hz2.out rfl (by decide) _ 0 [] rfl HS.out a l1.length ca (l1.map (Value.int .i64)) rfl (by simp) (H1.out.ae HK.out (fun _ _ _ h=>h)) ku (by unfold maxLen;omega) (by omega) ?_);intro v2 w2 hs2 hk2 ho2;have HS2:=Hz hs2;have HK2:=Hz (HK.out.then hk2 (fun k hk=>.inr (HO.out k hk)));have HO2:=Hz (show ∀ k,ai v2 k→w0.heap.size≤k from fun k hk=>by
      rcases ho2 k hk with h | h
      ·exact HO.out k h
      ·exact Nat.le_trans HK.out.size h)
     clear hs2 hk2 ho2;obtain ⟨ao2,cap2,e2,-,-,-⟩:=HS2.out.rd;subst e2;clear q0 q1 ql;go_wp2_with fail;go_roundw
     case rel=>exact ⟨ao2,cap2,1,l1,by simp,rfl, .inr (.inl ⟨rfl,rfl⟩),by simpa using HS2.out,HK2.out,by simpa using HO2.out⟩
     case measure=>decide
    ·go_wp2_with (at_builtin;refine ik rfl (.tmp 31) (.tmp 32) 83 rfl 3 i0 (.int .i64 0) 1 8 Tryz.underlying83 Hi.out Hz0.out Hz1.out Hz2.out rfl (by decide) _ l.length (l.map (Value.int .i64)) rfl HS.out b l2.length cb (l2.map (Value.int .i64)) rfl (by simp) (H2.out.ae HK.out (fun _ _ _ h=>h)) ku (by unfold maxLen;omega) (by omega) ?_);intro v2 w2 hs2 hk2 ho2;have HS2:=Hz hs2;have HK2:=Hz (HK.out.then hk2 (fun k hk=>.inr (HO.out k hk)));have HO2:=Hz (show ∀ k,ai v2 k→w0.heap.size≤k from fun k hk=>by
      rcases ho2 k hk with h | h
      ·exact HO.out k h
      ·exact Nat.le_trans HK.out.size h)
     clear hs2 hk2 ho2;obtain ⟨ao2,cap2,e2,-,-,-⟩:=HS2.out.rd;subst e2;clear q0 q1 ql;go_wp2_with fail;go_roundw
     case rel=>exact ⟨ao2,cap2,2,l ++ l2,by simp,rfl, .inr (.inr ⟨rfl,rfl⟩),by simpa using HS2.out,HK2.out,by simpa using HO2.out⟩
     case measure=>decide
    ·clear q0 q1 ql;go_wp2_with fail;go_ret;exact ⟨ao,cap,by simp,HS.out,HK.out,HO.out⟩
end
section
open Go.RowKit
section
variable {w w':World} {H:JH} {sv ev:Value} {A:Ar} {s:Gs} {f:List Int}
theorem At (x:Int) (b:Nat) (J:cv w H sv ev A s f) (hb:iN w b H) (h0:0≤x) (h1:x<s.lv.length) (hl:s.lv.length≤1000000) :
  Calls Tryz.prog 76 #[.int .i64 x, .pointer (some ⟨b,0,none⟩)] w fun e w'=>e=.returned (.bool (!ax s.lv x))∧w=w':=by
 obtain ⟨-,c1,-,-,-,-⟩:=J.cells;have cl:=J.hc.lt;have ll:=J.hl.lt;have b0:=hb.cell 0;have bl:=hb.lt;simp only [Lz] at b0;obtain ⟨i,rfl⟩:=Int.eq_ofNat_of_zero_le h0;have hi:=J.qu (i:=i) (by omega);have HE:=Hz (show ax s.lv (i:Int)=s.lv.getD i false by unfold ax;simp);clear J hb;generalize s.lv.getD i false=v at *;generalize s.lv.length=n at *;go_enter Tryz.func76,Tryz.ntmps76;go_wp2_with fail;go_ret;exact ⟨dg (by rw [HE.out]),rfl⟩
def nN (b:Nat):Value:=.func (.func 76) #[] #[.pointer (some ⟨b,0,none⟩)]
def Bn (w:World) (p:Int→Bool) (l:List Int) (e:Ending) (w':World):Prop:=
 w=w'∧∃ k,k≤l.length∧(∀ j,j<k→p (l.getD j 0)=false)∧((k<l.length∧p (l.getD k 0)=true∧e=.returned (.int .i64 k))∨(k=l.length∧e=.returned (.int .i64 (-1))))
theorem Bo (b:Nat) (p:Int→Bool) (ao:Option Addr) (cap:Nat) (l:List Int) (w:World) (h:Rd w ao (l.map (Value.int .i64))) (hl:l.length≤1000000)
  (hp:∀ x ∈ l,Calls Tryz.prog 76 #[.int .i64 x, .pointer (some ⟨b,0,none⟩)] w fun e w'=>e=.returned (.bool (p x))∧w=w') :
  Calls Tryz.prog 135 #[.slice ao l.length cap,nN b] w (Bn w p l):=by
 have HR:=Hz h;have HP:=Hz hp;clear h hp;unfold nN;go_enter Tryz.func135,Tryz.ntmps135;go_wp2_with fail;go_loopw [8] (fun i wr=>wr=w∧∃ k:Nat,k≤l.length∧i=.int .i64 k∧Hid (∀ j,j<k→p (l.getD j 0)=false)) (fun i _=>l.length-(intOf i).toNat)
 case atStart=>exact ⟨rfl,0,Nat.zero_le _,rfl,fun j hj=>by omega⟩
 case round=>
  obtain ⟨rfl,k,hk,rfl,hno⟩:=hrel;by_cases hlt:k<l.length
  ·obtain ⟨g,o,rfl,d0⟩:=HR.out.int k hlt;have hgl:g<wr.heap.size:=by
    obtain ⟨g',o',e,hg,-⟩:=HR.out (by intro e;simp at e;subst e;simp at hlt);cases e;exact hg
   have hm:l.getD k 0 ∈ l:=by rw [Ld,Le hlt];exact List.getElem_mem _
   have HPX:=Hz (HP.out _ hm);generalize hv:l.getD k 0=x at *;have HV:=Hz hv;clear hv hm;cases he:p x
   ·rw [he] at HPX;go_wp2_with fail;refine HPX.out.mono ?_;rintro e w2 ⟨rfl,rfl⟩;go_wp2_with fail;go_roundw
    case rel=>exact ⟨by trivial,k+1,by omega,by go_num,fun j hj=>by
     by_cases e:j=k
     ·subst e;rw [HV.out];exact he
     ·exact hno.out j (by omega)⟩
    case measure=>simp [intOf];omega
   ·rw [he] at HPX;go_wp2_with fail;refine HPX.out.mono ?_;rintro e w2 ⟨rfl,rfl⟩;go_wp2_with fail;go_ret;exact ⟨rfl,k,hk,hno.out, .inl ⟨hlt,by rw [HV.out];exact he,rfl⟩⟩
  ·obtain rfl:k=l.length:=by omega
   go_wp2_with fail;go_ret;exact ⟨rfl,_,Nat.le_refl _,hno.out, .inr ⟨rfl,rfl⟩⟩
theorem filter_all {q:Int→Bool}:∀ {l:List Int},(∀ j,j<l.length→q (l.getD j 0)=true)→l.filter q=l
 | [],_=>rfl
 | x :: l,h=>by
  have h0:=h 0 (by simp);simp only [List.getD_cons_zero] at h0;rw [List.filter_cons,if_pos h0,filter_all (fun j hj=>by
   have:=h (j+1) (by simpa using hj)
   simpa using this)]
theorem oO {q:Int→Bool} {l:List Int} {j:Nat} (hj:j<l.length):(l.take (j+1)).filter q=if q (l.getD j 0)=true then (l.take j).filter q ++ [l.getD j 0] else (l.take j).filter q:=by
 rw [List.take_add_one,Le hj,List.filter_append,Ld,Le hj];simp only [Option.toList_some,Option.getD_some,List.filter_cons,List.filter_nil];split <;> simp
def Bp (w:World) (v:Value) (l:List Int) (e:Ending) (w':World):Prop:=
 ∃ ao cap,e=.returned (.slice ao l.length cap)∧Sl w' 3 1 (.slice ao l.length cap) l.length (l.map (Value.int .i64))∧ab (ai v) w w'∧∀ k,ai (.slice ao l.length cap) k→ai v k
theorem Bq (b:Nat) (p:Int→Bool) (ao:Option Addr) (cap:Nat) (l:List Int) (w:World) (hs:Sl w 3 1 (.slice ao l.length cap) l.length (l.map (Value.int .i64))) (hl:l.length≤1000000)
  (hp:∀ x ∈ l, ∀ w',ab (ai (.slice ao l.length cap)) w w'→Calls Tryz.prog 76 #[.int .i64 x, .pointer (some ⟨b,0,none⟩)] w' fun e w''=>e=.returned (.bool (p x))∧w'=w'') :
  Calls Tryz.prog 74 #[.slice ao l.length cap,nN b] w (Bp w (.slice ao l.length cap) (l.filter fun x=>!p x)):=by
 have HS:=Hz hs;have HX:=Hz (fun w' (hk:ab (ai (.slice ao l.length cap)) w w') x hx=>hp x hx w' hk);have hi:=Bo b p ao cap l w (by obtain ⟨_,_,e,h,-,-⟩:=hs.rd;cases e;exact h) hl (fun x hx=>hp x hx w (ab.refl _ _));have HI:=Hz hi;clear hs hp hi;unfold nN at HI ⊢;go_enter Tryz.func74,Tryz.ntmps74;go_wp2_with fail;refine HI.out.mono ?_;rintro e w1 ⟨rfl,k,hk,hno,⟨hlt,hpk,rfl⟩ | ⟨rfl,rfl⟩⟩
 ·obtain ⟨g,o,cap',cur0,e,-,hnc,hcm,-,-⟩:=HS.out.laid (by omega);cases e;have HNO:=Hz hno;have HPK:=Hz hpk;have hkw:IntKind.i64.wrap ((k:Int)+1)=(k:Int)+1:=IntWalk.i64_in _ (by omega);have hk1:((k:Int) == -1)=false:=by first | (simp;done) | (simp;omega)
  clear hno hpk HI;obtain ⟨n,hn⟩:∃ n,l.length=n:=⟨_,rfl⟩;have HN:=Hz hn;rw [hn] at HS HX hlt hl hnc hk ⊢;clear hn;go_wp2_with fail;go_loopw [5,6] (fun i j wr=>∃ (i' j':Nat) (m:List Int),i=.int .i64 i'∧j=.int .i64 j'∧i' < j'∧j'≤n∧m.length=n∧m.take i'=(l.take j').filter (fun x=>!p x)∧m.drop j'=l.drop j'∧Sl wr 3 1 (.slice (some ⟨g,o,none⟩) n cap) n (m.map (Value.int .i64))∧ab (ai (.slice (some ⟨g,o,none⟩) n cap)) w wr) (fun _ j _=>n-(intOf j).toNat)
  case atStart=>
   refine ⟨k,k+1,l,rfl,by go_num,by omega,by omega,HN.out,?_,rfl,HS.out,ab.refl _ _⟩;rw [oO (by rw [HN.out];exact hlt),if_neg (by rw [HPK.out];decide),filter_all (fun j hj=>?_)];have hj':j<k:=by rw [List.length_take] at hj;omega
   have:=HNO.out j hj';rw [Ld,List.getElem?_take,if_pos hj',←Ld,this]
   rfl
  case round=>
   clear HS hlt hk hk1 hkw HNO HPK;obtain ⟨i,j,m,rfl,rfl,hij,hjn,hm,ht,hd,hs,hk⟩:=hrel;have HS:=Hz hs;have HK:=Hz hk;have HT:=Hz ht;have HD:=Hz hd;have HM:=Hz hm;clear hs hk ht hd hm;by_cases hlt:j<n
   ·have hmj:m.getD j 0=l.getD j 0:=by
     have h1:=congrArg (fun t=>t.getD 0 0) HD.out;simpa [Ld] using h1
    obtain ⟨_,_,e',rd,-,-⟩:=HS.out.rd;cases e';obtain ⟨_,_,e',d0⟩:=rd.int j (by rw [HM.out];exact hlt);cases e';have hgl:=(HS.out.own (k:=g) rfl).1;rw [hmj] at d0;have HPX:=Hz (HX.out _ HK.out (l.getD j 0) (by rw [Ld,Le (by rw [HN.out];exact hlt)];exact List.getElem_mem _));have HFS:=Hz (oO (q:=fun x=>!p x) (l:=l) (j:=j) (by rw [HN.out];exact hlt));have HDJ:=Hz (show m.drop (j+1)=l.drop (j+1) by rw [←List.drop_drop,←List.drop_drop,HD.out]);have hjw:IntKind.i64.wrap ((j:Int)+1)=(j:Int)+1:=IntWalk.i64_in _ (by omega);have hiw:IntKind.i64.wrap ((i:Int)+1)=(i:Int)+1:=IntWalk.i64_in _ (by omega);clear rd hmj HD;generalize l.getD j 0=x at *;cases he:p x
    ·rw [he] at HPX;have HF:=Hz (HFS.out.trans (if_pos (by rw [he];rfl)));clear HFS he;obtain ⟨u,hu⟩:∃ u,(m.map (Value.int .i64))[i]? = some u:=⟨_,Le (by rw [List.length_map,HM.out];omega)⟩;obtain ⟨_,_,_,cur,e',hb,-,-,hoc,hx⟩:=HS.out.laid (by omega);cases e';have c0:=hb.cell (o+i);have cf:=hb.free (o+i);have hcu:cur[o+i]? = some u:=by
      rw [←hx,List.getElem?_take,if_pos (by omega),List.getElem?_drop] at hu;exact hu
     rw [hcu] at c0;have HSET:=Hz (HS.out.set (j:=i) (u:=.int .i64 x) (by omega));have KSET:=Hz (HK.out.setCell (p:=⟨g,o+i,none⟩) (.inl rfl) (.int .i64 x));clear hb hx hcu hu;go_wp2_with fail;refine HPX.out.mono ?_;rintro e w2 ⟨rfl,rfl⟩;go_wp2_with fail;go_roundw
     case rel=>
      refine ⟨i+1,j+1,m.set i x,by go_num,by go_num,by omega,by omega,by rw [List.length_set,HM.out],?_,?_,by rw [List.map_set];exact HSET.out,KSET.out⟩
      ·rw [HF.out,←HT.out,List.take_add_one,List.getElem?_set,if_pos rfl,if_pos (by rw [HM.out];omega)];rw [List.take_set_of_le (Nat.le_refl _)]
       rfl
      ·rw [List.drop_set_of_lt (by omega)];exact HDJ.out
     case measure=>simp [intOf];omega
    ·rw [he] at HPX;have HF:=Hz (HFS.out.trans (if_neg (by rw [he];decide)));clear HFS he;go_wp2_with fail;refine HPX.out.mono ?_;rintro e w2 ⟨rfl,rfl⟩;go_wp2_with fail;go_roundw
     case rel=>exact ⟨i,j+1,m,rfl,by go_num,by omega,by omega,HM.out,by rw [HF.out];exact HT.out,HDJ.out,HS.out,HK.out⟩
     case measure=>simp [intOf];omega
   ·obtain rfl:j=n:=by omega
    have hfl:m.take i=l.filter (fun x=>!p x):=by rw [HT.out,List.take_of_length_le (by rw [HN.out];exact Nat.le_refl _)]
    have hfn:(l.filter (fun x=>!p x)).length=i:=by rw [←hfl,List.length_take,HM.out];omega
    have HFL:=Hz hfl;obtain ⟨_,_,_,cur,e',hb,-,-,hoc,hx⟩:=HS.out.laid (by omega);cases e';obtain ⟨zs,hzl,hclr⟩:=ko (P:=Tryz.prog) wr 83 0 3 (.int .i64 0) Tryz.underlying83 (by intro w;kernel_rfl) (by intro u hu;simp [Value.cells] at hu;subst hu;rfl) (by decide) g (o+i) (j-i) (cap-i) _ hb (by show o+i+(j-i)*1≤_;omega);have hzl:zs.length=(j-i)*1:=hzl;generalize hc2:cur.take (o+i) ++ zs ++ cur.drop (o+i+zs.length)=c2 at *;have HB2:=Hz (hb.setRow c2);have HK2:=Hz (HK.out.setRow (g:=g) (.inl rfl) c2.toArray);have HC2:=Hz hc2;have HX2:=Hz hx;have HZ:=Hz hzl;have hic:i≤cap:=by omega
    have hil:i≤j:=by omega
    have HOC:=Hz hoc;clear hb hx hc2 hzl hfl hlt hoc;go_wp2_with fail;go_ret;have hoc:=HOC.out;have hzl:=HZ.out;refine ⟨some ⟨g,o,none⟩,cap,by rw [hfn];rfl,?_,HK2.out,fun k hk=>hk⟩;rw [hfn];refine ⟨by rw [List.length_map,hfn];omega, .inr ⟨g,o,cap,c2,rfl,HB2.out,hic,by omega,?_,?_⟩⟩
    ·rw [←HC2.out];simp only [List.length_append,List.length_take,List.length_drop];omega
    ·rw [←HC2.out,←HFL.out,List.map_take,←HX2.out,List.append_assoc,List.drop_append_of_le_length (by simp;omega),List.drop_take,List.take_append_of_le_length (by simp;omega),List.take_take,List.take_take];congr 1;omega
 ·have HNO:=Hz hno;clear HI hno;go_wp2_with fail;go_ret;have e:l.filter (fun x=>!p x)=l:=filter_all (fun j hj=>by rw [HNO.out j hj];rfl);rw [e];exact ⟨ao,cap,rfl,HS.out,ab.refl _ _,fun k hk=>hk⟩
end
end
section
open Go.RowKit
def gx (A:Ar) (lv:List Bool) (base:Int) (t:List Int × Int) (i:Int):List Int × Int:=if ax lv i=true then (t.1.set i.toNat (base+t.2),t.2+(1+(A.aj i).2.1)) else t
theorem qy (A:Ar) (lv:List Bool) (base:Int):∀ (l:List Int) (t:List Int × Int) (i:Int),jPlan A lv base (l ++ [i]) t=gx A lv base (jPlan A lv base l t) i
 | [],t,i=>rfl
 | x :: l,t,i=>by
  rw [List.cons_append,jPlan,qy A lv base l]
  rfl
theorem vT {A:Ar} {lv:List Bool} {base:Int} {l:List Int} {t:List Int × Int} {k:Nat} (h:k<l.length):jPlan A lv base (l.take (k+1)) t=gx A lv base (jPlan A lv base (l.take k) t) (l.getD k 0):=by
 rw [List.take_add_one,Le h,Ld,Le h];exact qy A lv base _ t _
theorem lF (A:Ar) (lv:List Bool) (base:Int):∀ (l:List Int) (t:List Int × Int),0≤t.2→0≤(jPlan A lv base l t).2∧(jPlan A lv base l t).2≤t.2+13*l.length∧(jPlan A lv base l t).1.length=t.1.length
 | [],t,h=>by simp [jPlan];exact h
 | x :: l,t,h=>by
  have hf:=A.aU x;have key:0≤(gx A lv base t x).2∧(gx A lv base t x).2≤t.2+13∧(gx A lv base t x).1.length=t.1.length:=by
   unfold gx;split
   ·exact ⟨by dsimp only;omega,by dsimp only;omega,by simp⟩
   ·exact ⟨h,by omega,rfl⟩
  have ih:=lF A lv base l (gx A lv base t x) key.1;have e:jPlan A lv base (x :: l) t=jPlan A lv base l (gx A lv base t x):=rfl;rw [e,List.length_cons];exact ⟨ih.1,by omega,ih.2.2.trans key.2.2⟩
section
variable {w w':World} {H:JH} {sv ev:Value} {A:Ar} {s:Gs} {f:List Int}
def Au (w:World) (H:JH) (sv ev:Value) (A:Ar) (s:Gs) (base:Int) (t:List Int × Int) (e:Ending) (w':World):Prop:=
 e=.returned (.int .i64 t.2)∧cv w' H sv ev A s t.1∧ab (·=H.tb) w w'
theorem Av (base:Int) (J:cv w H sv ev A s f) (hb0:0≤base) (aw:base≤100000) (hf:f.length=s.lv.length) (hl:s.lv.length≤1000000) (hin:∀ i ∈ A.aT.2 ++ A.aT.1,0≤i∧i<s.lv.length) :
  Calls Tryz.prog 73 #[.pointer (some ⟨H.pc,0,none⟩), .int .i64 base] w (Au w H sv ev A s base (jPlan A s.lv base (A.aT.2 ++ A.aT.1) (f,0))):=by
 have HJ:=Hz J;have HIN:=Hz hin;obtain ⟨c0,-,-,-,-,p0⟩:=J.cells;have pl:=J.hp.lt;have cl:=J.hc.lt;have ly:A.aT.1.length≤1300:=Ar.gN A 1300 _ _;have lo:A.aT.2.length≤1300:=Ar.gN A 1300 _ _;clear J hin;go_enter Tryz.func73,Tryz.ntmps73;go_wp2_with fail;refine (oV w HJ.out.ha).mono ?_;rintro e w1 ⟨ao,ac,bo,bc,rfl,hs1,hs2,hk,-,-⟩;have J1:=Hz (HJ.out.same hk);have K1:=Hz hk;have SY:=Hz hs1;have SO:=Hz hs2;clear hs1 hs2 hk c0 p0 pl cl;generalize A.aT.1=Y at *;generalize A.aT.2=O at *;go_wp2_with fail;have HQ:Hid (ah (w1.alloc (.cells #[.slice bo O.length bc, .slice ao Y.length ac] 83)) w1.heap.size [.slice bo O.length bc, .slice ao Y.length ac] 83):=ah.newAt _ rfl rfl;have KA:=Hz ((Kz w1).alloc (.cells #[.slice bo O.length bc, .slice ao Y.length ac] 83));generalize w1.alloc (.cells #[.slice bo O.length bc, .slice ao Y.length ac] 83)=w2 at *;refine (tx w1.heap.size bo ao bc ac O Y w2 HQ.out (by obtain ⟨_,_,e,h,-,-⟩:=(SO.out.ae KA.out (fun _ _ h=>h)).rd;cases e;exact h) (by obtain ⟨_,_,e,h,-,-⟩:=(SY.out.ae KA.out (fun _ _ h=>h)).rd;cases e;exact h) (by omega) (by omega)).mono ?_;rintro e w3 ⟨co,cc,rfl,hs3,hk3,ho3⟩;have J3:=Hz ((J1.out.same KA.out).same hk3);have K3:=Hz ((K1.out.trans KA.out).trans hk3);have S3:=Hz hs3;have HO3:=Hz (show ∀ k,ai (.slice co (O ++ Y).length cc) k→¬ k=H.tb from fun k hk e=>by
  have h1:=ho3 k hk;have h2:=(J1.out.same KA.out).ht.lt;omega)
 have hll:(O ++ Y).length≤2600:=by rw [List.length_append];omega
 clear hs3 hk3 ho3 HQ KA SY SO J1 K1 ly lo;generalize hLL:O ++ Y=Ls at *;clear hLL;go_wp2_with fail;go_loopw [7,29] (fun n i wr=>∃ k:Nat,k≤Ls.length∧i=.int .i64 k∧n=.int .i64 (jPlan A s.lv base (Ls.take k) (f,0)).2∧cv wr H sv ev A s (jPlan A s.lv base (Ls.take k) (f,0)).1∧ab (·=H.tb) w3 wr) (fun _ i _=>Ls.length-(intOf i).toNat)
 case atStart=>exact ⟨0,Nat.zero_le _,rfl,rfl,J3.out,ab.refl _ _⟩
 case round=>
  obtain ⟨k,hk,rfl,rfl,hJ,hK⟩:=hrel;have JR:=Hz hJ;have KR:=Hz hK;clear hJ hK;have hbd:=lF A s.lv base (Ls.take k) (f,0) (by dsimp only;omega);rw [List.length_take] at hbd;dsimp only at hbd;by_cases hlt:k<Ls.length
  ·have SR:=Hz (S3.out.ae KR.out HO3.out);obtain ⟨_,_,e',rd,-,-⟩:=SR.out.rd;cases e';obtain ⟨gc,oc,rfl,d0⟩:=rd.int k hlt;have hgl:=(SR.out.own (k:=gc) rfl).1;have hi:=HIN.out (Ls.getD k 0) (by rw [Ld,Le hlt];exact List.getElem_mem hlt);have HST:=Hz (vT (A:=A) (lv:=s.lv) (base:=base) (t:=(f,0)) hlt);clear rd;generalize Ls.getD k 0=i at *;obtain ⟨⟨fk,n⟩,hP⟩:∃ t,jPlan A s.lv base (Ls.take k) (f,0)=t:=⟨_,rfl⟩;rw [hP] at JR HST hbd ⊢;dsimp only at JR HST hbd ⊢;clear hP;obtain ⟨i,rfl⟩:=Int.eq_ofNat_of_zero_le hi.1;have hi1:i<s.lv.length:=by omega
   have hfl:fk.length=s.lv.length:=by omega
   obtain ⟨c0,c1,c2,-,-,p0⟩:=JR.out.cells;have pl:=JR.out.hp.lt;have cl:=JR.out.hc.lt;have ll:=JR.out.hl.lt;have tl:=JR.out.ht.lt;have e0:=JR.out.qu hi1;have HAT:=Hz (show ax s.lv (i:Int)=s.lv.getD i false by unfold ax;simp);have t0:=JR.out.toCell (i:=i) (by omega);have tf:=JR.out.ht.free i;rw [hfl] at c2;generalize hv:s.lv.getD i false=v at *;have hib:(i:Int)<s.lv.length:=by omega
   clear hi;cases v
   ·have HE:=Hz (show gx A s.lv base (fk,n) i=(fk,n) by unfold gx;rw [HAT.out];rfl);clear hv t0 tf;go_wp2_with fail;go_roundw
    case rel=>exact ⟨k+1,hlt,by go_num,by rw [HST.out,HE.out],by rw [HST.out,HE.out];exact JR.out,KR.out⟩
    case measure=>simp [intOf];omega
   ·have HE:=Hz (show gx A s.lv base (fk,n) i=(fk.set i (base+n),n+(1+(A.aj i).2.1)) by unfold gx;rw [HAT.out,if_pos rfl,Int.toNat_natCast]);have HTH:=Hz (gz i wr JR.out.ha);have hb:=A.aU i;clear hv;obtain ⟨⟨kk,nn,cd⟩,hT⟩:∃ t,A.aj (i:Int)=t:=⟨_,rfl⟩;rw [hT] at HTH hb HE;dsimp only at HTH hb HE;clear hT;have w1':IntKind.i64.wrap (base+n)=base+n:=IntWalk.i64_in _ (by omega);have w2':IntKind.i64.wrap (1+nn)=1+nn:=IntWalk.i64_in _ (by omega);have w3':IntKind.i64.wrap (n+(1+nn))=n+(1+nn):=IntWalk.i64_in _ (by omega);go_wp2_with fail;refine HTH.out.mono ?_;rintro e w4 ⟨rfl,rfl⟩;have JS':=Hz (JR.out.Cg i (base+n));have KS:=Hz (KR.out.setCell (p:=⟨H.tb,i,none⟩) (.inl rfl) (.int .i64 (base+n)));have hib2:(i:Int)<fk.length:=by omega
    go_wp2_with fail;go_roundw
    case rel=>exact ⟨k+1,hlt,by go_num,by rw [HST.out,HE.out],by rw [HST.out,HE.out];exact JS'.out,KS.out⟩
    case measure=>simp [intOf];omega
  ·obtain rfl:k=Ls.length:=by omega
   rw [List.take_length] at JR ⊢;go_wp2_with fail;go_ret;exact ⟨rfl,JR.out,(K3.out.mono (fun _ _ h=>h.elim)).trans KR.out⟩
end
end
section
theorem tB {f:List Int} {sz:Int→Int}:∀ {l:List Int} {a b:Int} {A:Ar} (k:Nat),fx sz (dW f) l a b→sQ sz A.ws.length l a→(∀ p ∈ l,A.aS p=true∧1+(A.aj p).2.1=sz p)→l.Nodup→(∀ p,0≤sz p)→k<l.length →
  ((l.take k).foldl (bA f) A).aj (l.getD k 0)=A.aj (l.getD k 0)∧((l.take k).foldl (bA f) A).ws.length=A.ws.length∧(∀ x ∈ ((l.take k).foldl (bA f) A).ws,x ∈ A.ws) ∧
   ((l.take k).foldl (bA f) A).nur=A.nur∧((l.take k).foldl (bA f) A).yng=A.yng∧((l.take k).foldl (bA f) A).grn=A.grn ∧
   0≤dW f (l.getD k 0)∧dW f (l.getD k 0)+sz (l.getD k 0)≤A.ws.length∧0≤l.getD k 0∧l.getD k 0+sz (l.getD k 0)≤A.ws.length
 | [],_,_,_,k,_,_,_,_,_,hk=>by simp at hk
 | p :: l,a,b,A,0,hs,hd,hz,hn,h0,_=>by
  obtain ⟨d0,dp,d1,d2,d3,d4⟩:=hd;have e:dW f p=a:=hs.1;simp only [List.take_zero,List.foldl_nil,List.getD_cons_zero];exact ⟨by trivial,by trivial,fun _ h=>h,by trivial,by trivial,by trivial,by omega,by omega,dp,d1⟩
 | p :: l,a,b,A,k+1,hs,hd,hz,hn,h0,hk=>by
  obtain ⟨d0,dp,d1,d2,d3,d4⟩:=hd;have hp:=hz p (by simp);rw [List.nodup_cons] at hn;obtain ⟨k1,k2,k3,k4,k5,k6⟩:=oI (A:=A) (f:=f) (p:=p) (a:=a) hs.1 d0 dp (by rw [hp.2];exact d1) (by rw [hp.2];exact d2);rw [hp.2] at k2;have huse:∀ x,(bA f A p).aS x=A.aS x:=fun x=>by unfold Ar.aS Ar.aG Ar.aP;rw [k4,k5,k6]
  have same:∀ q ∈ l,(bA f A p).aj q=A.aj q:=fun q hq=>by
   have h:=hz q (by simp [hq]);have hq0:0≤q:=by
    have:=h.1;unfold Ar.aS at this;rw [Bool.or_eq_true,bV,c7] at this;omega
   have e:(bA f A p).load q=A.load q:=by
    rw [jC h.1,jC (by rw [huse];exact h.1),k2 q hq0,if_neg];have:=d3 q hq;have:=h0 q;have h1:=A.aU q;omega
   exact cL e
  have hz':∀ q ∈ l,(bA f A p).aS q=true∧1+((bA f A p).aj q).2.1=sz q:=fun q hq=>by
   have h:=hz q (by simp [hq]);exact ⟨by rw [huse];exact h.1,by rw [same q hq];exact h.2⟩
  have hk':k<l.length:=by simpa using hk
  obtain ⟨m1,m2,m3,m4,m5,m6,m7,m8,m9,m10⟩:=tB (f:=f) (sz:=sz) (l:=l) (a:=a+sz p) (b:=b) (A:=bA f A p) k hs.2 (by rw [k1];exact d4) hz' hn.2 h0 hk';have hm:l.getD k 0 ∈ l:=by rw [Ld,Le hk'];exact List.getElem_mem _
  simp only [List.take_succ_cons,List.foldl_cons,List.getD_cons_succ];rw [k1] at m2 m8 m10;exact ⟨m1.trans (same _ hm),m2,fun x hx=>k3 x (m3 x hx),m4.trans k4,m5.trans k5,m6.trans k6,m7,m8,m9,m10⟩
section
variable {O:Wo} {W:Wd} {φ:Int→Int}
def Wo.dm (O:Wo) (x:Int):Prop:=x%4=1→0≤x/4∧x/4<O.ar.ws.length
theorem aL.od (R:aL O W φ) {i:Int} (hi:W.live i):0≤φ i∧φ i+1+(W.th i).fs.length≤O.ar.ws.length:=by
 have h1:=R.ho.ha.h1;have h2:=R.ho.ha.h2;have h3:=R.ho.ha.h3;cases ho:(W.th i).aP
 ·have:=Tile.mem R.ty _ (R.iny i hi ho);rw [R.th i hi] at this;dsimp only at this;omega
 ·have:=Tile.mem R.tz _ (R.ino i hi ho);rw [R.th i hi] at this;dsimp only at this;omega
theorem aL.Br (R:aL O W φ) {v:Vl} (hv:W.cI v):O.dm (aD φ v):=fun h=>by
 have h3:=(fG hv).1 h;have:=R.od (Wd.bh hv h3);rw [bI φ h3,show (4*φ v.2+1)/4=φ v.2 by omega];omega
theorem aL.tC (R:aL O W φ) {v:Vl} (hv:W.cI v):Dm (fun p=>∃ i,W.live i∧φ i=p) (aD φ v):=fun h=>by
 have h3:=(fG hv).1 h;refine ⟨v.2,Wd.bh hv h3,?_⟩;rw [bI φ h3];omega
theorem aL.zA (R:aL O W φ):∀ x ∈ O.rt,Dm (fun p=>∃ i,W.live i∧φ i=p) x:=fun x hx=>by
 rw [R.rt] at hx;obtain ⟨v,hv,rfl⟩:=List.mem_map.1 hx;exact R.tC (R.hw.rv v hv)
theorem aL.vU (R:aL O W φ) {e:Int × Int} (he:W.dj e):Dm (fun p=>∃ i,W.live i∧φ i=p) (bq φ e).1∧Dm (fun p=>∃ i,W.live i∧φ i=p) (bq φ e).2:=by
 rw [dC];exact ⟨R.tC (v:=(3,e.1)) (.inr (.inr (.inr ⟨rfl,he.1⟩))),R.tC (v:=(3,e.2)) (.inr (.inr (.inr ⟨rfl,he.2.2⟩)))⟩
theorem aL.Ci (R:aL O W φ):∀ e ∈ O.rg,Dm (fun p=>∃ i,W.live i∧φ i=p) e.1∧Dm (fun p=>∃ i,W.live i∧φ i=p) e.2:=fun e he=>by
 rw [R.rg] at he;obtain ⟨g,hg,rfl⟩:=List.mem_map.1 he;exact R.vU (R.hw.gv g hg)
theorem aL.Cj (R:aL O W φ):∀ e ∈ O.wt,Dm (fun p=>∃ i,W.live i∧φ i=p) e.1∧Dm (fun p=>∃ i,W.live i∧φ i=p) e.2:=fun e he=>by
 rw [R.wt] at he;obtain ⟨g,hg,rfl⟩:=List.mem_map.1 he;exact R.vU (R.hw.wv g hg)
theorem Dm.dm (R:aL O W φ) {x:Int} (h:Dm (fun p=>∃ i,W.live i∧φ i=p) x):O.dm x:=fun h1=>by
 obtain ⟨i,hi,e⟩:=h h1;have:=R.od hi;omega
theorem aL.Bt (R:aL O W φ) {e:Int × Int} (he:W.dj e):O.dm (bq φ e).1∧O.dm (bq φ e).2:=⟨(R.vU he).1.dm R,(R.vU he).2.dm R⟩
theorem aL.Aw (R:aL O W φ):∀ e ∈ bz aY fw (cm O).1 (cm O).2.2,O.dm e.1∧O.dm e.2:=fun e he=>by
 obtain ⟨P,hq,hI⟩:=R.iZ;obtain ⟨m,hfst,hcnt,hits⟩:=Wd.iH R.hw true;unfold bz at he;obtain ⟨i,hi,rfl⟩:=List.mem_map.1 he;have hi:=(List.mem_filter.1 hi).1;rw [hI] at hi;obtain ⟨j,hj,rfl⟩:=List.mem_map.1 hi;have h1:(j.1,j.2.1) ∈ (W.pass true).2.2.map (fun i=>(i.1,i.2.1)):=List.mem_map.2 ⟨j,hj,rfl⟩;rw [hits] at h1;obtain ⟨g,hg,e2⟩:=List.mem_map.1 h1;have e3:g=j.1:=congrArg (fun p:(Int × Int) × Bool=>p.1) e2;have:=R.hw.gv g hg;rw [e3] at this;exact R.Bt this
theorem aL.Ax (R:aL O W φ):∀ e ∈ bC aY fw (cm O).1 (cm O).2.1,O.dm e.1∧O.dm e.2:=fun e he=>by
 obtain ⟨P,hq,hI⟩:=R.iZ;unfold bC at he;obtain ⟨i,hi,rfl⟩:=List.mem_map.1 he;have hi:=(List.mem_filter.1 hi).1;rw [hq] at hi;obtain ⟨j,hj,rfl⟩:=List.mem_map.1 hi;exact R.Bt (P.ok j hj)
theorem aL.Ck (R:aL O W φ):∀ x ∈ O.rt,O.dm x:=fun x hx=>(R.zA x hx).dm R
structure CE (O:Wo):Prop where
 all0:0≤(dy O).2
 all1:(O.ar.nur:Int)+(dy O).2≤O.ar.ws.length
 turn:∀ k,k<(bY O).length→∀ A i,((bY O).take k).foldl (dK (cm O).1 (dy O).1) O.ar=A→(bY O).getD k 0=i →
  A.ok∧0≤i∧i<O.ar.ws.length∧(∀ j:Int,0≤j→j<(A.aj i).2.1→A.aS (i+1+j)=true)∧((A.aj i).1=4→0<(A.aj i).2.1)∧∀ j:Int,0≤j→j<(A.aj i).2.1→O.dm (A.load (i+1+j))
 tok:(dE O).ok
 tlen:(dE O).ws.length=O.ar.ws.length
 slide:∀ k,k<(bY O).length→∀ A i,((bY O).take k).foldl (bA (dy O).1) (dE O)=A→(bY O).getD k 0=i →
  A.ok∧A.ws.length=O.ar.ws.length∧0≤i∧i+1+(A.aj i).2.1≤O.ar.ws.length∧0≤dW (dy O).1 i∧dW (dy O).1 i+1+(A.aj i).2.1≤O.ar.ws.length
theorem aL.half (R:aL O W φ) (hno:¬ (dL O).1≠0):CE O:=by
 have hsy:=R.sy;have hso:=R.so;have hnur:=R.nur;have hlen:=R.len;obtain ⟨P,hq,hI⟩:=R.iZ;have PL:=R.yJ;generalize Exists.choose _=N at PL;have hokO:=R.ho.ha;have b1:=hokO.h1;have b2:=hokO.h2;have b3:=hokO.h3;have b4:=hokO.h4;have hallN:(dy O).2≤(O.ar.ws.length:Int)-O.ar.nur:=by
  unfold dL at hno;by_cases h:(dy O).2 > ((O.ar.grn:Int)-O.ar.nur)+((O.ar.ws.length:Int)-O.ar.grn)
  ·rw [if_pos h] at hno;exact (hno (show (3:Int)≠0 by decide)).elim
  ·omega
 have h0:∀ p,0≤(fun p=>1+(O.ar.aj p).2.1) p:=fun p=>by have:=O.ar.aU p;dsimp only;omega
 have hall0:=fx.le h0 PL.sit;have hsl:=PL.slid hallN;have hsit:=PL.sit;have hTu:dE O=(bY O).foldl (dK (cm O).1 (dy O).1) O.ar:=rfl;generalize hf:(dy O).1=f at *;generalize hall:(dy O).2=all at *;generalize hs:(cm O).1=s at *;generalize his:(W.pass true).1=is at *;have lvN:∀ {i},i ∈ N→W.live i:=fun hi=>P.M.sl _ ((PL.nm _).1 hi);have thN:∀ {i},i ∈ N→(O.ar.aj (φ i))=((W.th i).k,((W.th i).fs.length:Int),0):=fun hi=>R.th _ (lvN hi);have place:∀ {i},i ∈ N→(O.ar.nur:Int)≤cY f φ i∧cY f φ i+(1+(W.th i).fs.length)≤O.ar.nur+all:=fun {i} hi=>by
  have:=fx.mem h0 hsit (φ i) (by rw [←PL.eq];exact List.mem_map.2 ⟨i,hi,rfl⟩);rw [thN hi] at this;exact this
 have T:Tn O W φ s f is:=⟨fun i hi=>P.M.sl i hi,fun v hv=>P.M.alive R hv,fun i hi=>by have:=place ((PL.nm i).2 hi);omega⟩;have hlenN:N.length=(bY O).length:=by rw [←PL.eq,List.length_map]
 obtain ⟨t1,t2,t3,t4,t5,t6,-⟩:=T.turns R N PL.nd (fun i hi=>(PL.nm i).1 hi) hokO rfl rfl rfl rfl (fun _ _ _ _ _=>rfl);rw [PL.eq,←hTu] at t1 t2 t3 t4 t5 t6;have use0:∀ q,(dE O).aS q=O.ar.aS q:=fun q=>by unfold Ar.aS Ar.aG Ar.aP;rw [t2,t3,t4]
 refine ⟨by omega,by omega,fun k hk A i hA hi=>?_,t1,t5,fun k hk A i hA hi=>?_⟩
 all_goals (try rw [hs] at hA);rw [hf] at hA
 ·have hkN:k<N.length:=by omega
  have hgi:i=φ (N.getD k 0):=by
   rw [←hi,←PL.eq,Ld,List.getElem?_map,Le hkN,Ld,Le hkN];rfl
  have hmN:N.getD k 0 ∈ N:=by rw [Ld,Le hkN];exact List.getElem_mem _
  have hnot:¬ N.getD k 0 ∈ N.take k:=fun h=>by
   have e:N=N.take k ++ N.drop k:=(List.take_append_drop k N).symm;have hnd:=PL.nd;rw [e,List.nodup_append] at hnd;refine hnd.2.2 _ h _ ?_ rfl;rw [List.drop_eq_getElem_cons hkN,Ld,Le hkN];exact List.mem_cons_self
  obtain ⟨u1,u2,u3,u4,u5,-,u7⟩:=T.turns R (N.take k) (PL.nd.sublist (List.take_sublist k N)) (fun i hi=>(PL.nm i).1 (List.mem_of_mem_take hi)) hokO rfl rfl rfl rfl (fun _ _ _ _ _=>rfl);rw [List.map_take,PL.eq,hA] at u1 u2 u3 u4 u5 u7;generalize N.getD k 0=n at *;subst hgi;have hl:=lvN hmN;have hld:=u7 n hl hnot;have h00:=hld 0 (by omega) (by omega);rw [Int.add_zero] at h00;have hth:A.aj (φ n)=((W.th n).k,((W.th n).fs.length:Int),0):=by rw [g7 h00];exact thN hmN
  have hbd:=R.od hl;rw [hth];dsimp only;refine ⟨u1,hbd.1,by omega,fun j j0 j1=>?_,fun h4=>?_,fun j j0 j1=>?_⟩
  ·have:A.aS (φ n+1+j)=O.ar.aS (φ n+1+j):=by unfold Ar.aS Ar.aG Ar.aP;rw [u2,u3,u4]
   rw [this,Int.add_assoc];exact R.use hl (by omega) (by omega)
  ·obtain ⟨a,b,e⟩:=iK (Wd.two R.hw hl (.inr (.inl h4)));rw [e];simp
  ·have hv:(W.th n).fs[j.toNat]? = some (W.th n).fs[j.toNat]:=Le (by omega);have hlv:=hld (1+j) (by omega) (by omega);rw [←Int.add_assoc] at hlv;rw [hlv];have:=R.fl n hl _ _ hv;rw [show ((j.toNat:Nat):Int)=j by omega] at this;rw [this];exact R.Br (R.hw.tv n hl _ (List.mem_of_getElem? hv))
 ·have hus:∀ {i},i ∈ N→(dE O).aS (φ i)=true:=fun {i} hi=>by
   rw [use0];have:=R.use (lvN hi) (j:=0) (by omega) (by omega);rwa [Int.add_zero] at this
  obtain ⟨m1,m2,m3,m4,m5,m6,m7,m8,m9,m10⟩:=tB (f:=f) (sz:=fun p=>1+(O.ar.aj p).2.1) (l:=bY O) (A:=dE O) k hsit (by rw [t5];exact hsl) (fun p hp=>by
   rw [←PL.eq] at hp;obtain ⟨i,hi,rfl⟩:=List.mem_map.1 hp;refine ⟨hus hi,?_⟩
   rw [cL (t6 i hi).1]) ((mB R).filter _) h0 hk
  rw [hA] at m1 m2 m3 m4 m5 m6;rw [hi] at m1 m7 m8 m9 m10;rw [t5] at m2 m8 m10
  try dsimp only at m8 m10
  have hthi:(dE O).aj i=O.ar.aj i:=by
   have hmem:i ∈ bY O:=by rw [←hi,Ld,Le hk];exact List.getElem_mem _
   rw [←PL.eq] at hmem;obtain ⟨n,hn,rfl⟩:=List.mem_map.1 hmem;exact cL (t6 n hn).1
  rw [m1,hthi];have hokA:A.ok:=⟨by rw [m5,m4,t3,t2];exact b1,by rw [m4,m6,t2,t4];exact b2,by rw [m6,t4,m2];exact b3,by rw [m2];exact b4,fun x hx=>t1.hw x (m3 x hx)⟩;rw [hf];exact ⟨hokA,m2,m9,by omega,m7,by omega⟩
end
end
section
open Go.RowKit
inductive qz where
 | free (i:Nat) (r:qz)
 | three (i:Nat) (t1:RO) (j:Nat) (t2:RO) (k:Nat) (t3:RO)
def qz.size:qz→Nat
 | .free _ r=>r.size+1
 | .three _ t _ _ _ _=>t.size+1
section
variable {P:Program} {ops:Array Oper} {md:Region.Mode}
def ro3B (md:Region.Mode) (ops:Array Oper):qz→Array Bool→Bool
 | .free i r,listed=>(Region.ready md ops listed).contains i && Region.free md ops listed i && ro3B md ops r (listed.setIfInBounds i true)
 | .three i t1 j t2 k t3,listed=>Region.ready md ops listed == [i,j,k] && t1.size == t2.size && t1.size == t3.size && roB md ops t1 [] (listed.setIfInBounds i true) && roB md ops t2 [] (listed.setIfInBounds j true) && roB md ops t3 [] (listed.setIfInBounds k true)
def qA (P:Program) (ops:Array Oper) (Q:Act→World→Prop):qz→Act→World→Prop
 | .free i r,a,w=>∃ o v,ops[i]? = some o∧eG P ops (fun _=>True) o v a∧qA P ops Q r (a.put o.dst v) w
 | .three i t1 j t2 k t3,a,w=>gOp P ops i (fun a' w'=>kr P ops Q t1 [] (fun _=>True) a' w') a w∧gOp P ops j (fun a' w'=>kr P ops Q t2 [] (fun _=>True) a' w') a w∧gOp P ops k (fun a' w'=>kr P ops Q t3 [] (fun _=>True) a' w') a w
theorem qB {Q:Act→World→Prop} (hs:Region.noSelect ops=true):∀ (t:qz) (listed:Array Bool) (a:Act) (w:World),jq md ops listed →
  ro3B md ops t listed=true→qA P ops Q t a w→wpAnyH P md ops (fun _=>True) [] (fun _=>True) Q t.size listed a w
 | .free i r,listed,a,w,hS,hB,h=>by
  simp only [ro3B,Bool.and_eq_true] at hB;obtain ⟨⟨hr,hf⟩,hB'⟩:=hB;obtain ⟨o,v,ho,hy,hn⟩:=h;have hr':i ∈ Region.ready md ops listed:=by simpa using hr
  refine wpAnyH_first ho (Region.noSelect_spec hs) (.inr (.inr fun _=>trivial)) r.size listed a w trivial hS (Region.free_spec ho hf) hr' hy ?_;exact qB hs r _ _ w (hS.next hr') hB' hn
 | .three i t1 j t2 k t3,listed,a,w,hS,hB,h=>by
  simp only [ro3B,Bool.and_eq_true,beq_iff_eq] at hB;obtain ⟨⟨⟨⟨⟨hr,h12⟩,h13⟩,pH⟩,rZ⟩,xE⟩:=hB;refine ⟨(fun h0=>by rw [hr] at h0;cases h0),fun m hm=>?_⟩;have hin:m ∈ Region.ready md ops listed:=hm;rw [hr] at hm;have hm:m=i∨m=j∨m=k:=by simpa using hm
  rcases hm with rfl | rfl | rfl
  ·exact ey (fun a' w' hn=>⟨fun h=>h,fun _ h=>h,dY hs t1 [] _ _ a' w' (hS.next hin) trivial (.inl trivial) pH hn.raw⟩) h.1
  ·show gOp P ops m (fun a' w'=>(True→True)∧(([]:List Nat).contains m=false→True→True)∧wpAnyH P md ops (fun _=>True) [] (fun _=>True) Q t1.size (listed.setIfInBounds m true) a' w') a w
   rw [h12];exact ey (fun a' w' hn=>⟨fun h=>h,fun _ h=>h,dY hs t2 [] _ _ a' w' (hS.next hin) trivial (.inl trivial) rZ hn.raw⟩) h.2.1
  ·show gOp P ops m (fun a' w'=>(True→True)∧(([]:List Nat).contains m=false→True→True)∧wpAnyH P md ops (fun _=>True) [] (fun _=>True) Q t1.size (listed.setIfInBounds m true) a' w') a w
   rw [h13];exact ey (fun a' w' hn=>⟨fun h=>h,fun _ h=>h,dY hs t3 [] _ _ a' w' (hS.next hin) trivial (.inl trivial) xE hn.raw⟩) h.2.2
structure rT (P:Program) (ops:Array Oper) (Q:Act→World→Prop) (t:qz) (a:Act) (w:World):Prop where
 raw:qA P ops Q t a w
theorem rN {id:Nat} {Q:Exit→Act→World→Prop} {a:Act} {w:World} {l:List Oper} (t:qz) (hm:P.follows .mixedOrders=true)
  (hB:(Region.noSelect l.toArray && t.size == l.toArray.size && ro3B .any l.toArray t (Array.replicate l.toArray.size false))=true)
  (h:rT P l.toArray (fun a' w'=>Q .normal a' w') t a w.drew):(Code.region id l.toArray true).wp P Q a w:=by
 simp only [Bool.and_eq_true,beq_iff_eq] at hB;obtain ⟨⟨hs,hl⟩,hB⟩:=hB;refine wp_region_any hm ?_;have hshut:jq .any l.toArray (Array.replicate l.toArray.size false):=by
  intro j o ho hx;have h0:(Array.replicate l.toArray.size false).getD j false=false:=by
   rw [Array.getD_eq_getD_getElem?,Array.getElem?_replicate];split <;> rfl
  rw [h0] at hx;cases hx
 have:=qB (md:=.any) hs t _ a w.drew hshut hB h.raw;rw [hl] at this;exact lS (fun _ _ h=>h) _ _ _ _ this
variable {Q:Act→World→Prop} {i:Nat} {r:qz} {a:Act} {w:World} {o:Oper}
theorem vV (ho:ops[i]? = some o) (hw:Region.wanted o (yielded ops a.tmps)=true) (v:Value)
  (h:∀ w',ck v w' ((execOp a.eval o).run P w')) (hn:∀ K:Act→Prop,(∀ a',rT P ops Q r a' w→K a')→K (a.put o.dst v)):rT P ops Q (.free i r) a w:=
 ⟨⟨o,v,ho, .inl ⟨hw,fun w' _=>h w'⟩,hn (fun a'=>qA P ops Q r a' w) (fun _ h=>h.raw)⟩⟩
theorem uf {j k:Nat} {t1 t2 t3:RO} {o2 o3:Oper} (h1:ops[i]? = some o) (w1:Region.wanted o (yielded ops a.tmps)=true) (h2:ops[j]? = some o2) (w2:Region.wanted o2 (yielded ops a.tmps)=true) (h3:ops[k]? = some o3) (w3:Region.wanted o3 (yielded ops a.tmps)=true)
  (g1:∀ K:Act→World→Prop,(∀ a' w',kr P ops Q t1 [] (fun _=>True) a' w'→K a' w')→aC P o a w K)
  (g2:∀ K:Act→World→Prop,(∀ a' w',kr P ops Q t2 [] (fun _=>True) a' w'→K a' w')→aC P o2 a w K)
  (g3:∀ K:Act→World→Prop,(∀ a' w',kr P ops Q t3 [] (fun _=>True) a' w'→K a' w')→aC P o3 a w K):rT P ops Q (.three i t1 j t2 k t3) a w:=
 ⟨⟨jr h1 w1 (g1 _ (fun _ _ h=>h)),jr h2 w2 (g2 _ (fun _ _ h=>h)),jr h3 w3 (g3 _ (fun _ _ h=>h))⟩⟩
end
end
section
open Go.RowKit
structure bT (w:World) (p n:Nat) (wx:World) (ol ot oc ob:Option Nat):Prop where
 k:ab (fun _=>False) w wx
 l:∀ b,ol=some b→ah wx b (List.replicate n (.bool false)) 4∧w.heap.size≤b
 t:∀ b,ot=some b→ah wx b (List.replicate n (.int .i64 0)) 3∧w.heap.size≤b
 c:∀ b,oc=some b→∃ lb tb,ol=some lb∧ot=some tb∧ah wx b [.pointer (some ⟨p,0,none⟩), .slice (some ⟨lb,0,none⟩) n n, .slice (some ⟨tb,0,none⟩) n n, .slice none 0 0, .slice none 0 0] 124∧w.heap.size≤b
 v:∀ b,ob=some b→ah wx b [.pointer none] 121∧w.heap.size≤b
section
variable {w wx:World} {p n:Nat} {ol ot oc ob:Option Nat}
theorem bT.start (w:World) (p n:Nat):bT w p n w.drew none none none none:=⟨(ab.refl _ w).drew,fun _ h=>(by cases h),fun _ h=>(by cases h),fun _ h=>(by cases h),fun _ h=>(by cases h)⟩
theorem bT.alloc (I:bT w p n wx ol ot oc ob) (cs:Array Value) (T:TypeId):bT w p n (wx.alloc (.cells cs T)) ol ot oc ob:=
 ⟨I.k.alloc _,fun b h=>⟨(I.l b h).1.alloc _,(I.l b h).2⟩,fun b h=>⟨(I.t b h).1.alloc _,(I.t b h).2⟩,fun b h=>by obtain ⟨lb,tb,e1,e2,hb,hs⟩:=I.c b h;exact ⟨lb,tb,e1,e2,hb.alloc _,hs⟩,fun b h=>⟨(I.v b h).1.alloc _,(I.v b h).2⟩⟩
theorem bT.live (I:bT w p n wx none ot none ob):bT w p n (wx.alloc (.cells (Array.replicate n (.bool false)) 4)) (some wx.heap.size) ot none ob:=by
 have J:=I.alloc (Array.replicate n (.bool false)) 4;exact ⟨J.k,fun b h=>by cases h;exact ⟨ah.newAt _ rfl (by simp),I.k.size⟩,J.t,fun _ h=>(by cases h),J.v⟩
theorem bT.to (I:bT w p n wx ol none none ob):bT w p n (wx.alloc (.cells (Array.replicate n (.int .i64 0)) 3)) ol (some wx.heap.size) none ob:=by
 have J:=I.alloc (Array.replicate n (.int .i64 0)) 3;exact ⟨J.k,J.l,fun b h=>by cases h;exact ⟨ah.newAt _ rfl (by simp),I.k.size⟩,fun _ h=>(by cases h),J.v⟩
theorem bT.cut {lb tb:Nat} (I:bT w p n wx (some lb) (some tb) none ob):bT w p n (wx.alloc (.cells #[.pointer (some ⟨p,0,none⟩), .slice (some ⟨lb,0,none⟩) n n, .slice (some ⟨tb,0,none⟩) n n, .slice none 0 0, .slice none 0 0] 124)) (some lb) (some tb) (some wx.heap.size) ob:=by
 have J:=I.alloc #[.pointer (some ⟨p,0,none⟩), .slice (some ⟨lb,0,none⟩) n n, .slice (some ⟨tb,0,none⟩) n n, .slice none 0 0, .slice none 0 0] 124;exact ⟨J.k,J.l,J.t,fun b h=>by cases h;exact ⟨lb,tb,rfl,rfl,ah.newAt _ rfl rfl,I.k.size⟩,J.v⟩
theorem bT.var (I:bT w p n wx ol ot oc none):bT w p n (wx.alloc (.cells #[.pointer none] 121)) ol ot oc (some wx.heap.size):=by
 have J:=I.alloc #[.pointer none] 121;exact ⟨J.k,J.l,J.t,J.c,fun b h=>by cases h;exact ⟨ah.newAt _ rfl rfl,I.k.size⟩⟩
def uS (w:World) (p n:Nat) (wx:World) (v:Value):Prop:=
 ∃ lb tb pc b,v=.pointer (some ⟨b,0,none⟩)∧ab (fun _=>False) w wx∧ah wx lb (List.replicate n (.bool false)) 4∧ah wx tb (List.replicate n (.int .i64 0)) 3 ∧
  ah wx pc [.pointer (some ⟨p,0,none⟩), .slice (some ⟨lb,0,none⟩) n n, .slice (some ⟨tb,0,none⟩) n n, .slice none 0 0, .slice none 0 0] 124∧ah wx b [.pointer (some ⟨pc,0,none⟩)] 121∧w.heap.size≤lb∧w.heap.size≤tb∧w.heap.size≤pc∧w.heap.size≤b
theorem bT.made {lb tb pc b:Nat} (I:bT w p n wx (some lb) (some tb) (some pc) (some b)):uS w p n (wx.setCell ⟨b,0,none⟩ (.pointer (some ⟨pc,0,none⟩))) (.pointer (some ⟨b,0,none⟩)):=by
 obtain ⟨hb,sb⟩:=I.v b rfl;obtain ⟨hl,sl⟩:=I.l lb rfl;obtain ⟨ht,st⟩:=I.t tb rfl;obtain ⟨_,_,e1,e2,hc,sc⟩:=I.c pc rfl;cases e1;cases e2;have set:=(ab.refl (·=b) wx).setCell (p:=⟨b,0,none⟩) (.inl rfl) (.pointer (some ⟨pc,0,none⟩));exact ⟨lb,tb,pc,b,rfl,I.k.setCell (p:=⟨b,0,none⟩) (.inr sb) _,set.ak hl (hl.ne hb (by decide)),set.ak ht (ht.ne hb (by decide)),set.ak hc (hc.ne hb (by decide)),by simpa using hb.aO 0 (.pointer (some ⟨pc,0,none⟩)),sl,st,sc,sb⟩
end
end
section
open Go.RowKit
theorem qC {α:Type} {g:α→Int→α} {l:List Int} {k:Nat} (a:α) (h:k<l.length):(l.take (k+1)).foldl g a=g ((l.take k).foldl g a) (l.getD k 0):=by
 rw [←List.take_append_getElem h,List.foldl_append,Ld,Le h];rfl
def ez {α:Type} (g:α→α) (l:List α) (k:Nat):List α:=(l.take k).map g ++ l.drop k
theorem gd {α:Type} (g:α→α) (l:List α) (k:Nat):(ez g l k).length=l.length:=by
 unfold ez;rw [List.length_append,List.length_map,List.length_take,List.length_drop];omega
theorem nO {α:Type} (g:α→α) (l:List α):ez g l 0=l:=by simp [ez]
theorem pB {α:Type} (g:α→α) (l:List α):ez g l l.length=l.map g:=by simp [ez]
theorem pC {α:Type} (g:α→α) {l:List α} {k:Nat} (d:α) (h:k<l.length):(ez g l k).getD k d=l.getD k d:=by
 unfold ez;have hl:((l.take k).map g).length=k:=by rw [List.length_map,List.length_take];omega
 rw [Ld,List.getElem?_append_right (by omega),hl,Nat.sub_self,List.getElem?_drop,Nat.add_zero,Ld]
theorem nP {α:Type} (g:α→α) {l:List α} {k:Nat} (d:α) (h:k<l.length):(ez g l k).set k (g (l.getD k d))=ez g l (k+1):=by
 unfold ez;have hl:((l.take k).map g).length=k:=by rw [List.length_map,List.length_take];omega
 rw [List.set_append_right _ _ (by omega),hl,Nat.sub_self,List.drop_eq_getElem_cons h,List.set_cons_zero,List.take_add_one,Le h,List.map_append,List.append_assoc,Ld,Le h]
 rfl
def jV (w0:World) (h:WH) (F:Nat→Prop):Prop:=∀ k,F k→(k=h.p∨k=h.pa∨k=h.g)∨w0.heap.size≤k
def WH.Bu (h:WH) (k:Nat):Prop:=k=h.pc∨k=h.cb∨a7 h.ps h.rv h.wv k∨ai h.ro k
section
variable {w0 w w':World} {h:WH} {O:Wo} {F:Nat→Prop}
theorem bp.Bv (H:bp w0 h O) {k:Nat} (hk:h.Bu k):k<w0.heap.size∧k≠h.p∧k≠h.pa∧k≠h.g:=by
 have ne:∀ {l:List Value} {T:TypeId},ah w0 k l T→T≠52→T≠141→T≠2→k<w0.heap.size∧k≠h.p∧k≠h.pa∧k≠h.g:=fun hb h1 h2 h3=>⟨hb.lt,hb.ne H.hp h1,hb.ne H.ha.hp h2,hb.ne H.ha.hg h3⟩;rcases hk with rfl | rfl | hk | hk
 ·exact ne H.hc.hp (by decide) (by decide) (by decide)
 ·exact ne H.hc.hq (by decide) (by decide) (by decide)
 ·obtain ⟨_,U,h',hU⟩:=H.hs.cG hk;rcases hU with rfl | rfl
  ·exact ne h' (by decide) (by decide) (by decide)
  ·exact ne h' (by decide) (by decide) (by decide)
 ·obtain ⟨hl,l,hb⟩:=H.hr.own hk;exact ⟨hl,hb.ne H.hp (by decide),hb.ne H.ha.hp (by decide),fun e=>H.ap (e ▸ hk)⟩
theorem bp.mM (H:bp w0 h O) (hF:jV w0 h F) {k:Nat} (hk:h.Bu k):¬ F k:=fun hf=>by
 have:=H.Bv hk;have:=hF k hf;omega
theorem jV.mono {G:Nat→Prop} (hF:jV w0 h F) (hg:∀ k,G k→F k∨w0.heap.size≤k):jV w0 h G:=fun k hk=>by
 rcases hg k hk with h1 | h1
 ·exact hF k h1
 ·exact .inr h1
theorem jV.or {G:Nat→Prop} (hF:jV w0 h F) (hG:jV w0 h G):jV w0 h (fun k=>F k∨G k):=fun k hk=>hk.elim (hF k) (hG k)
structure JM (w0:World) (h:WH) (O:Wo) (w:World) (pc lb tb:Nat) (sv ev:Value) (A:Ar) (rt:List Int) (s:Gs) (f:List Int):Prop where
 J:cv w ⟨h.p,h.pa,h.g,h.pc,h.ps,h.ro,pc,lb,tb⟩ sv ev A s f
 hc:cO w h.pc h.cb O.ar.nur O.cd
 hs:bu w h.ps h.rv h.wv O.rg O.wt
 hr:Sl w 2 1 h.ro rt.length (rt.map (Value.int .i64))
 K:ab h.Own w0 w
 own:jV w0 h (JH.Own ⟨h.p,h.pa,h.g,h.pc,h.ps,h.ro,pc,lb,tb⟩ sv ev)
variable {pc lb tb:Nat} {sv ev sv' ev':Value} {A A':Ar} {rt:List Int} {s s':Gs} {f f':List Int}
theorem JM.ae (M:JM w0 h O w pc lb tb sv ev A rt s f) (H:bp w0 h O) (k:ab F w w') (hF:jV w0 h F) (J':cv w' ⟨h.p,h.pa,h.g,h.pc,h.ps,h.ro,pc,lb,tb⟩ sv' ev' A' s' f') (own':jV w0 h (JH.Own ⟨h.p,h.pa,h.g,h.pc,h.ps,h.ro,pc,lb,tb⟩ sv' ev')) :
  JM w0 h O w' pc lb tb sv' ev' A' rt s' f':=by
 refine ⟨J',M.hc.ae k (H.mM hF (.inl rfl)) (H.mM hF (.inr (.inl rfl))),M.hs.ae k (fun b hb=>H.mM hF (.inr (.inr (.inl hb)))),M.hr.ae k (fun b hb=>H.mM hF (.inr (.inr (.inr hb)))),M.K.then k (fun k hk=>?_),own'⟩;rcases hF k hk with (h1 | h1 | h1) | h1
 ·exact .inl (.inl h1)
 ·exact .inl (.inr (.inl (.inl h1)))
 ·exact .inl (.inr (.inl (.inr h1)))
 ·exact .inr h1
theorem JM.same (M:JM w0 h O w pc lb tb sv ev A rt s f) (H:bp w0 h O) (k:ab (fun _=>False) w w'):JM w0 h O w' pc lb tb sv ev A rt s f:=
 M.ae H k (fun _ h=>h.elim) (M.J.same k) M.own
theorem JM.CL (M:JM w0 h O w pc lb tb sv ev A rt s f) (H:bp w0 h O) (t:lP w ⟨h.p,h.pa,h.g,h.pc,h.ps,h.ro,pc,lb,tb⟩ sv ev A' s' f' w') :
  ∃ sv',JM w0 h O w' pc lb tb sv' ev A' rt s' f':=by
 obtain ⟨sv',J',k,o⟩:=t;exact ⟨sv',M.ae H k M.own J' (M.own.mono (fun k hk=>(o k hk).imp id (fun h=>Nat.le_trans M.K.size h)))⟩
theorem JM.cells (M:JM w0 h O w pc lb tb sv ev A rt s f):w.cell? ⟨h.p,0,none⟩=some (.pointer (some ⟨h.pa,0,none⟩))∧w.cell? ⟨h.p,1,none⟩=some (.pointer (some ⟨h.pc,0,none⟩))∧w.cell? ⟨h.p,2,none⟩=some (.pointer (some ⟨h.ps,0,none⟩))∧w.cell? ⟨h.p,3,none⟩=some h.ro∧h.p<w.heap.size:=
 ⟨M.J.hp.cell 0,M.J.hp.cell 1,M.J.hp.cell 2,M.J.hp.cell 3,M.J.hp.lt⟩
theorem JM.fT (M:JM w0 h O w pc lb tb sv ev A rt s f) (h12:rt.length=12):∃ g o cap,h.ro=.slice (some ⟨g,o,none⟩) 12 cap∧g<w.heap.size∧(∀ k,w.frozen? ⟨g,k,none⟩=false)∧∀ k,k<rt.length→w.cell? ⟨g,o+k,none⟩=some (.int .i64 (rt.getD k 0)):=by
 obtain ⟨ao,cap,e,hrd,-,-⟩:=M.hr.rd;obtain ⟨g,o,rfl,hg,hc⟩:=hrd (by intro e;have:=congrArg List.length e;rw [List.length_map,h12] at this;cases this);have hown:ai h.ro g:=by rw [e];rfl
 obtain ⟨-,cur,hb⟩:=M.hr.own hown;refine ⟨g,o,cap,by rw [e,h12],hg,fun k=>hb.free k,fun k hk=>?_⟩;rw [hc k (by simpa using hk)];simp [List.getD,hk]
theorem JM.var (M:JM w0 h O w pc lb tb sv ev A rt s f) {b:Nat} {l:List Value} {T:TypeId} (hb:ah w b l T) (hT:T=121∨T=49):¬ JH.Own ⟨h.p,h.pa,h.g,h.pc,h.ps,h.ro,pc,lb,tb⟩ sv ev b:=fun hk=>by
 obtain ⟨_,U,h',hU⟩:=M.J.bB hk;refine hb.ne h' ?_ rfl;rcases hT with rfl | rfl <;> rcases hU with rfl | rfl | rfl | rfl | rfl | rfl <;> decide
structure JZ (w0:World) (h:WH) (O:Wo) (w:World) (ps pc lb tb:Nat) (sv ev:Value) (A:Ar) (cd:List Bool) (rt:List Int) (s:Gs) (f:List Int) (b vb sp:Nat) (rv qv:Value) (rg wt:List (Int × Int)) (lo:Option Addr) (lc:Nat) (L:List Int):Prop where
 J:cv w ⟨h.p,h.pa,h.g,h.pc,ps,h.ro,pc,lb,tb⟩ sv ev A s f
 hc:cO w h.pc h.cb O.ar.nur cd
 hr:Sl w 2 1 h.ro rt.length (rt.map (Value.int .i64))
 K:ab h.Own w0 w
 S:bu w sp rv qv rg wt
 so:jV w0 h (a7 sp rv qv)
 B:ah w b [.pointer (some ⟨pc,0,none⟩)] 121
 V:ah w vb [.pointer (some ⟨sp,0,none⟩)] 49
 L:Sl w 3 1 (.slice lo L.length lc) L.length (L.map (Value.int .i64))
 ap:¬ ai h.ro h.g
section
variable {ps b vb sp:Nat} {rv qv:Value} {cd:List Bool} {rg wt:List (Int × Int)} {lo:Option Addr} {lc:Nat} {L:List Int}
theorem JZ.ae (Z:JZ w0 h O w ps pc lb tb sv ev A cd rt s f b vb sp rv qv rg wt lo lc L) (k:ab F w w') (hF:jV w0 h F) (hK:∀ k,F k→h.Own k∨w0.heap.size≤k) (J':cv w' ⟨h.p,h.pa,h.g,h.pc,ps,h.ro,pc,lb,tb⟩ sv ev A' s f)
  (ty:∀ {k c} {U:TypeId},ah w k c U→(U=168∨U=4∨U=2∧k≠h.g∨U=133∨U=101∨U=121∨U=49∨U=3)→¬ F k) :
  JZ w0 h O w' ps pc lb tb sv ev A' cd rt s f b vb sp rv qv rg wt lo lc L:=by
 refine ⟨J',Z.hc.ae k (ty Z.hc.hp (.inl rfl)) (ty Z.hc.hq (.inr (.inl rfl))),Z.hr.ae k (fun b hb=>?_),Z.K.then k (fun k hk=>hK k hk),Z.S.ae k (fun b hb=>?_),Z.so,k.ak Z.B (ty Z.B (.inr (.inr (.inr (.inr (.inr (.inl rfl))))))),k.ak Z.V (ty Z.V (.inr (.inr (.inr (.inr (.inr (.inr (.inl rfl)))))))),Z.L.ae k (fun b hb=>?_),Z.ap⟩
 ·obtain ⟨_,l,hb'⟩:=Z.hr.own hb;exact ty hb' (.inr (.inr (.inl ⟨rfl,fun e=>Z.ap (e ▸ hb)⟩)))
 ·obtain ⟨_,U,h',hU⟩:=Z.S.cG hb;rcases hU with rfl | rfl
  ·exact ty h' (.inr (.inr (.inr (.inl rfl))))
  ·exact ty h' (.inr (.inr (.inr (.inr (.inl rfl)))))
 ·obtain ⟨_,l,hb'⟩:=Z.L.own hb;exact ty hb' (.inr (.inr (.inr (.inr (.inr (.inr (.inr rfl)))))))
theorem JZ.same (Z:JZ w0 h O w ps pc lb tb sv ev A cd rt s f b vb sp rv qv rg wt lo lc L) (k:ab (fun _=>False) w w'):JZ w0 h O w' ps pc lb tb sv ev A cd rt s f b vb sp rv qv rg wt lo lc L:=
 Z.ae k (fun _ h=>h.elim) (fun _ h=>h.elim) (Z.J.same k) (fun _ _ h=>h)
theorem JZ.bZ (Z:JZ w0 h O w ps pc lb tb sv ev A cd rt s f b vb sp rv qv rg wt lo lc L) (t:a5 w h.pa h.g w' A'):JZ w0 h O w' ps pc lb tb sv ev A' cd rt s f b vb sp rv qv rg wt lo lc L:=by
 refine Z.ae t.k (fun k hk=>.inl (.inr hk)) (fun k hk=>.inl (.inr (.inl hk))) (Z.J.bZ t) (fun {k c U} hb hU e=>?_);rcases e with e | e
 ·refine hb.ne Z.J.ha.hp ?_ e;rcases hU with rfl | rfl | ⟨rfl,_⟩ | rfl | rfl | rfl | rfl | rfl <;> decide
 ·rcases hU with rfl | rfl | ⟨rfl,hg⟩ | rfl | rfl | rfl | rfl | rfl
  ·exact hb.ne Z.J.ha.hg (by decide) e
  ·exact hb.ne Z.J.ha.hg (by decide) e
  ·exact hg e
  ·exact hb.ne Z.J.ha.hg (by decide) e
  ·exact hb.ne Z.J.ha.hg (by decide) e
  ·exact hb.ne Z.J.ha.hg (by decide) e
  ·exact hb.ne Z.J.ha.hg (by decide) e
  ·exact hb.ne Z.J.ha.hg (by decide) e
theorem JZ.fT (Z:JZ w0 h O w ps pc lb tb sv ev A cd rt s f b vb sp rv qv rg wt lo lc L) (h12:rt.length=12):∃ g o cap,h.ro=.slice (some ⟨g,o,none⟩) 12 cap∧g<w.heap.size∧(∀ k,w.frozen? ⟨g,k,none⟩=false)∧∀ k,k<rt.length→w.cell? ⟨g,o+k,none⟩=some (.int .i64 (rt.getD k 0)):=by
 obtain ⟨ao,cap,e,hrd,-,-⟩:=Z.hr.rd;obtain ⟨g,o,rfl,hg,hc⟩:=hrd (by intro e;have:=congrArg List.length e;rw [List.length_map,h12] at this;cases this);have hown:ai h.ro g:=by rw [e];rfl
 obtain ⟨-,cur,hb⟩:=Z.hr.own hown;refine ⟨g,o,cap,by rw [e,h12],hg,fun k=>hb.free k,fun k hk=>?_⟩;rw [hc k (by simpa using hk)];simp [List.getD,hk]
theorem JZ.root (Z:JZ w0 h O w ps pc lb tb sv ev A cd rt s f b vb sp rv qv rg wt lo lc L) {g o cap k:Nat} {x:Int} (e:h.ro=.slice (some ⟨g,o,none⟩) rt.length cap) (hk:k<rt.length) :
  JZ w0 h O (w.setCell ⟨g,o+k,none⟩ (.int .i64 x)) ps pc lb tb sv ev A cd (rt.set k x) s f b vb sp rv qv rg wt lo lc L:=by
 have hown:ai h.ro g:=by rw [e];rfl
 obtain ⟨_,l,hb⟩:=Z.hr.own hown;have kk:ab (·=g) w (w.setCell ⟨g,o+k,none⟩ (.int .i64 x)):=(ab.refl (·=g) w).setCell (p:=⟨g,o+k,none⟩) (.inl rfl) _;have ne:∀ {b:Nat} {c:List Value} {T:TypeId},ah w b c T→T≠2→¬ b=g:=fun hb' h1=>hb'.ne hb h1;have gg:h.g≠g:=fun e=>Z.ap (e ▸ hown);have sl:∀ {v:Value} {n:Nat} {xs:List Value},Sl w 3 1 v n xs→∀ b,ai v b→¬ b=g:=fun hs b hb'=>by obtain ⟨_,l',h'⟩:=hs.own hb';exact ne h' (by decide)
 have J':cv (w.setCell ⟨g,o+k,none⟩ (.int .i64 x)) ⟨h.p,h.pa,h.g,h.pc,ps,h.ro,pc,lb,tb⟩ sv ev A s f:=by
  refine ⟨kk.ak Z.J.hp (ne Z.J.hp (by decide)),Z.J.ha.ae kk (ne Z.J.ha.hp (by decide)) gg,kk.ak Z.J.hc (ne Z.J.hc (by decide)),kk.ak Z.J.hl (ne Z.J.hl (by decide)),kk.ak Z.J.ht (ne Z.J.ht (by decide)),Z.J.hs.ae kk (sl Z.J.hs),Z.J.he.ae kk (sl Z.J.he),Z.J.ap,Z.J.at_⟩
 have hs:=Z.hr;rw [e] at hs;have hset:=hs.set (j:=k) (u:=.int .i64 x) (by omega);refine ⟨J',Z.hc.ae kk (ne Z.hc.hp (by decide)) (ne Z.hc.hq (by decide)),by rw [e,List.length_set,List.map_set];exact hset,Z.K.trans (kk.mono (fun k _ hk=>by rw [hk];exact .inr (.inr (.inr (.inr hown))))),Z.S.ae kk (fun b hb'=>?_),Z.so,kk.ak Z.B (ne Z.B (by decide)),kk.ak Z.V (ne Z.V (by decide)),Z.L.ae kk (sl Z.L),Z.ap⟩;obtain ⟨_,U,h',hU⟩:=Z.S.cG hb';exact ne h' (by rcases hU with rfl | rfl <;> decide)
theorem JZ.side {rg' wt':List (Int × Int)} {g:Nat} (Z:JZ w0 h O w ps pc lb tb sv ev A cd rt s f b vb sp rv qv rg wt lo lc L) (hg:a7 sp rv qv g) {cg:List Value} (hbg:ah w g cg 101) (kk:ab (·=g) w w') (S':bu w' sp rv qv rg' wt') :
  JZ w0 h O w' ps pc lb tb sv ev A cd rt s f b vb sp rv qv rg' wt' lo lc L:=by
 have ne:∀ {b:Nat} {c:List Value} {T:TypeId},ah w b c T→T≠101→¬ b=g:=fun hb' h1=>hb'.ne hbg h1;have sl:∀ {v:Value} {n:Nat} {xs:List Value} {T:TypeId},Sl w T 1 v n xs→T≠101→∀ b,ai v b→¬ b=g:=fun hs hT b hb'=>by obtain ⟨_,l',h'⟩:=hs.own hb';exact ne h' hT
 refine ⟨Z.J.ae kk (fun b hb e=>?_),Z.hc.ae kk (ne Z.hc.hp (by decide)) (ne Z.hc.hq (by decide)),Z.hr.ae kk (sl Z.hr (by decide)),Z.K.then kk (fun k hk=>?_),S',Z.so,kk.ak Z.B (ne Z.B (by decide)),kk.ak Z.V (ne Z.V (by decide)),Z.L.ae kk (sl Z.L (by decide)),Z.ap⟩
 ·exact Z.J.cK Z.S hb (e ▸ hg)
 ·rw [hk];rcases Z.so g hg with (h1 | h1 | h1) | h1
  ·exact .inl (.inl h1)
  ·exact .inl (.inr (.inl (.inl h1)))
  ·exact .inl (.inr (.inl (.inr h1)))
  ·exact .inr h1
theorem JZ.take (Z:JZ w0 h O w ps pc lb tb sv ev A cd rt s f b vb sp rv qv rg wt lo lc L):JZ w0 h O (w.setCell ⟨h.p,2,none⟩ (.pointer (some ⟨sp,0,none⟩))) sp pc lb tb sv ev A cd rt s f b vb sp rv qv rg wt lo lc L:=by
 have kk:ab (·=h.p) w (w.setCell ⟨h.p,2,none⟩ (.pointer (some ⟨sp,0,none⟩))):=(ab.refl (·=h.p) w).setCell (p:=⟨h.p,2,none⟩) (.inl rfl) _;have ne:∀ {b:Nat} {c:List Value} {T:TypeId},ah w b c T→T≠52→¬ b=h.p:=fun hb' h1=>hb'.ne Z.J.hp h1;have sl:∀ {v:Value} {n:Nat} {xs:List Value} {T:TypeId},Sl w T 1 v n xs→T≠52→∀ b,ai v b→¬ b=h.p:=fun hs hT b hb'=>by obtain ⟨_,l',h'⟩:=hs.own hb';exact ne h' hT
 have hp:ah (w.setCell ⟨h.p,2,none⟩ (.pointer (some ⟨sp,0,none⟩))) h.p [.pointer (some ⟨h.pa,0,none⟩), .pointer (some ⟨h.pc,0,none⟩), .pointer (some ⟨sp,0,none⟩),h.ro] 52:=by simpa using Z.J.hp.aO 2 (.pointer (some ⟨sp,0,none⟩))
 refine ⟨⟨hp,Z.J.ha.ae kk (ne Z.J.ha.hp (by decide)) (ne Z.J.ha.hg (by decide)),kk.ak Z.J.hc (ne Z.J.hc (by decide)),kk.ak Z.J.hl (ne Z.J.hl (by decide)),kk.ak Z.J.ht (ne Z.J.ht (by decide)),Z.J.hs.ae kk (sl Z.J.hs (by decide)),Z.J.he.ae kk (sl Z.J.he (by decide)),Z.J.ap,Z.J.at_⟩,
  Z.hc.ae kk (ne Z.hc.hp (by decide)) (ne Z.hc.hq (by decide)),Z.hr.ae kk (sl Z.hr (by decide)),Z.K.trans (kk.mono (fun k _ hk=>.inl hk)),Z.S.ae kk (fun b hb'=>?_),Z.so,kk.ak Z.B (ne Z.B (by decide)),kk.ak Z.V (ne Z.V (by decide)),Z.L.ae kk (sl Z.L (by decide)),Z.ap⟩
 obtain ⟨_,U,h',hU⟩:=Z.S.cG hb';exact ne h' (by rcases hU with rfl | rfl <;> decide)
theorem JZ.cards {cd':List Bool} (Z:JZ w0 h O w ps pc lb tb sv ev A cd rt s f b vb sp rv qv rg wt lo lc L) (hcb:h.cb≠lb) (t:cO w' h.pc h.cb O.ar.nur cd') (kk:ab (·=h.cb) w w'):JZ w0 h O w' ps pc lb tb sv ev A cd' rt s f b vb sp rv qv rg wt lo lc L:=by
 have ne:∀ {b:Nat} {c:List Value} {T:TypeId},ah w b c T→T≠4→¬ b=h.cb:=fun hb' h1=>hb'.ne Z.hc.hq h1;have sl:∀ {v:Value} {n:Nat} {xs:List Value} {T:TypeId},Sl w T 1 v n xs→T≠4→∀ b,ai v b→¬ b=h.cb:=fun hs hT b hb'=>by obtain ⟨_,l',h'⟩:=hs.own hb';exact ne h' hT
 refine ⟨⟨kk.ak Z.J.hp (ne Z.J.hp (by decide)),Z.J.ha.ae kk (ne Z.J.ha.hp (by decide)) (ne Z.J.ha.hg (by decide)),kk.ak Z.J.hc (ne Z.J.hc (by decide)),kk.ak Z.J.hl (Ne.symm hcb),kk.ak Z.J.ht (ne Z.J.ht (by decide)),Z.J.hs.ae kk (sl Z.J.hs (by decide)),Z.J.he.ae kk (sl Z.J.he (by decide)),Z.J.ap,Z.J.at_⟩,
  t,Z.hr.ae kk (sl Z.hr (by decide)),Z.K.trans (kk.mono (fun k _ hk=>.inr (.inr (.inl (.inr hk))))),Z.S.ae kk (fun b hb'=>?_),Z.so,kk.ak Z.B (ne Z.B (by decide)),kk.ak Z.V (ne Z.V (by decide)),Z.L.ae kk (sl Z.L (by decide)),Z.ap⟩
 obtain ⟨_,U,h',hU⟩:=Z.S.cG hb';exact ne h' (by rcases hU with rfl | rfl <;> decide)
theorem JZ.done (Z:JZ w0 h O w sp pc lb tb sv ev A cd rt s f b vb sp rv qv rg wt lo lc L) (hn:O.ar.nur=A.nur) (hok:(Wo.mk A cd rt rg wt).ok):fK w0 h w ⟨A,cd,rt,rg,wt⟩:=by
 refine ⟨⟨h.p,h.pa,h.g,h.pc,h.cb,sp,rv,qv,h.ro⟩,⟨Z.J.hp,Z.J.ha,by dsimp only;rw [←hn];exact Z.hc,Z.S,Z.hr,Z.ap,hok⟩,rfl,Z.K,?_⟩;rintro k (hk | hk | hk | hk | hk)
 ·exact .inl (.inl hk)
 ·exact .inl (.inr (.inl hk))
 ·exact .inl (.inr (.inr (.inl hk)))
 ·rcases Z.so k hk with (h1 | h1 | h1) | h1
  ·exact .inl (.inl h1)
  ·exact .inl (.inr (.inl (.inl h1)))
  ·exact .inl (.inr (.inl (.inr h1)))
  ·exact .inr h1
 ·exact .inl (.inr (.inr (.inr (.inr hk))))
theorem JZ.cells (Z:JZ w0 h O w ps pc lb tb sv ev A cd rt s f b vb sp rv qv rg wt lo lc L):w.cell? ⟨h.p,0,none⟩=some (.pointer (some ⟨h.pa,0,none⟩))∧w.cell? ⟨h.p,1,none⟩=some (.pointer (some ⟨h.pc,0,none⟩))∧w.cell? ⟨h.p,2,none⟩=some (.pointer (some ⟨ps,0,none⟩))∧w.cell? ⟨h.p,3,none⟩=some h.ro∧h.p<w.heap.size∧w.frozen? ⟨h.p,2,none⟩=false:=
 ⟨Z.J.hp.cell 0,Z.J.hp.cell 1,Z.J.hp.cell 2,Z.J.hp.cell 3,Z.J.hp.lt,Z.J.hp.free 2⟩
end
end
end
section
section
variable {O:Wo} {W:Wd} {φ:Int→Int}
theorem aL.yT (R:aL O W φ):(O.ar.nur:Int)-O.ar.yng=W.most-W.aG:=by rw [R.nur,R.sy]
end
section
variable {W:Wd}
end
end
section
section
variable {O:Wo} {W:Wd} {φ:Int→Int}
theorem pD (W:Wd) (r:Int) (v:Vl):(W.cB r v).T.length=W.T.length:=rfl
theorem yU (W:Wd) (i:Int) (fs:List Vl):(W.dw i fs).T.length=W.T.length:=by simp [Wd.dw]
end
end
section
section
variable {O:Wo} {W:Wd} {φ:Int→Int}
theorem Wd.yV (W:Wd) (major:Bool):(W.cut major).2.most=W.most∧(W.cut major).2.grow=W.grow:=by
 unfold Wd.cut;split
 ·exact ⟨rfl,rfl⟩
 ·split <;> exact ⟨rfl,rfl⟩
theorem Wd.Ay (W:Wd) (major:Bool):(W.cut major).2.T.length=W.T.length:=by
 unfold Wd.cut;split
 ·rfl
 ·split
  ·rfl
  ·exact Wd.kY
theorem aL.Az (R:aL O W φ):((O.ar.grn-O.ar.nur:Nat):Int)=W.cH:=by
 have h:=R.ho.ha.h2;rw [←R.so];omega
end
end
section
open Go.RowKit
section
variable {w w':World} {h:WH} {O:Wo}
def yW (w:World) (h:WH) (O:Wo) (e:Ending) (w':World):Prop:=e=.returned (.int .i64 (dL O).1)∧fK w h w' (dL O).2
theorem qD {W:Wd} {φ:Int→Int} (R:aL O W φ) (H:bp w h O) :
  Calls Tryz.prog 18 #[.pointer (some ⟨h.p,0,none⟩)] w (yW w h O):=by
 have HH:=Hz H;have hok:=H.ok;obtain ⟨p0,p1,p2,p3⟩:=H.dZ;have pl:=H.hp.lt;have o4:=hok.ha.h4;have HR:=Hz R;clear H R;have HOK:=Hz hok;clear hok;go_enter Tryz.func18,Tryz.ntmps18;go_wp2_with fail;refine (zJ w HH.out.ha).mono ?_;rintro e w1 ⟨ao,ac,rfl,-,hk,-⟩;have H1:=Hz (HH.out.ae hk (fun _ _ h=>h));have K1:=Hz hk;clear p0 p1 p2 p3 pl hk;generalize hn:O.ar.ws.length=n at *;have HN:=Hz hn;clear hn;go_upto_region 2 with fail
 refine im (fun i=>Nat.blt 37 i && Nat.blt i 45 || Nat.beq i 4) (fun s' wx=>uS w1 h.p n wx (s' 4)) ?_ ?_
 ·intro K' hK';obtain ⟨ib,hi,hz0,hz1,hz2⟩:=info_parts iQ;have hmb:=fun wx=>eH (P:=Tryz.prog) wx 122 4 ib (.bool false) Tryz.underlying122 hi hz0 rfl hz1 n (by rw [hz2];omega) (by omega);obtain ⟨ii,hi',hz0',hz1',hz2'⟩:=info_parts mK;have hmi:=fun wx=>eH (P:=Tryz.prog) wx 83 3 ii (.int .i64 0) Tryz.underlying83 hi' hz0' rfl hz1' n (by rw [hz2'];omega) (by omega);clear hi hz0 hz1 hz2 hi' hz0' hz1' hz2';have I0:=Hz (bT.start w1 h.p n);refine rN (.free 0 (.free 1 (.free 3 (.three 2 (.two 4 (.free 5 (.two 6 (.run 7 (.run 8 .fin)) 7 (.run 6 (.run 8 .fin)))) 7 (.run 4 (.free 5 (.run 6 (.run 8 .fin))))) 4 (.two 2 (.free 5 (.two 6 (.run 7 (.run 8 .fin)) 7 (.run 6 (.run 8 .fin)))) 7 (.run 2 (.free 5 (.run 6 (.run 8 .fin))))) 7 (.two 2 (.run 4 (.free 5 (.run 6 (.run 8 .fin)))) 4 (.run 2 (.free 5 (.run 6 (.run 8 .fin))))))))) (by kernel_rfl) (by kernel_rfl) ?_
  iterate 3 (refine vV rfl rfl _ (fun w'=>by go_simp;exact ck.mk _ _) (fun K hK=>?_);go_simp;refine hK _ ?_;clear hK K)
  refine uf rfl rfl rfl rfl rfl rfl (fun K hK=>?_) (fun K hK=>?_) (fun K hK=>?_)
  ·unfold aC;go_simp;refine hK _ _ ?_;clear hK K;have I1:=Hz (show bT w1 h.p n ((w1.alloc (.cells (Array.replicate n (.bool false)) 4)).drew) (some w1.heap.size) none none none from I0.out.live);generalize (w1.alloc (.cells (Array.replicate n (.bool false)) 4)).drew=wx1 at *;generalize w1.heap.size=lb at *;refine gM rfl rfl rfl rfl (fun K hK=>?_) (fun K hK=>?_)
   ·unfold aC;go_simp;refine hK _ _ (fun h=>h) (fun _ h=>h) ?_;clear hK K;have I2:=Hz (show bT w1 h.p n (wx1.alloc (.cells (Array.replicate n (.int .i64 0)) 3)) (some lb) (some wx1.heap.size) none none from I1.out.to);generalize wx1.alloc (.cells (Array.replicate n (.int .i64 0)) 3)=wx2 at *;generalize wx1.heap.size=tb at *;refine gL rfl rfl _ (fun w'=>by go_simp;exact ck.mk _ _) (fun K hK=>?_);go_simp;refine hK _ ?_;clear hK K;refine gM rfl rfl rfl rfl (fun K hK=>?_) (fun K hK=>?_)
    ·unfold aC;go_simp;refine hK _ _ (fun h=>h) (fun _ h=>h) ?_;clear hK K;have I3:=Hz (show bT w1 h.p n (wx2.alloc (.cells #[.pointer (some ⟨h.p,0,none⟩), .slice (some ⟨lb,0,none⟩) n n, .slice (some ⟨tb,0,none⟩) n n, .slice none 0 0, .slice none 0 0] 124)) (some lb) (some tb) (some wx2.heap.size) none from I2.out.cut);generalize wx2.alloc (.cells #[.pointer (some ⟨h.p,0,none⟩), .slice (some ⟨lb,0,none⟩) n n, .slice (some ⟨tb,0,none⟩) n n, .slice none 0 0, .slice none 0 0] 124)=wx3 at *;generalize wx2.heap.size=pc at *;refine aM rfl rfl (fun K hK=>?_);unfold aC;go_simp;refine hK _ _ (fun h=>h) ?_;clear hK K;have I4:=Hz (show bT w1 h.p n (wx3.alloc (.cells #[.pointer none] 121)) (some lb) (some tb) (some pc) (some wx3.heap.size) from I3.out.var);generalize wx3.alloc (.cells #[.pointer none] 121)=wx4 at *;generalize wx3.heap.size=vb at *;obtain ⟨vbl,-⟩:=I4.out.v vb rfl;have v0:=vbl.cell 0;have vl:=vbl.lt;have vf:=vbl.free 0;simp only [Lz] at v0;clear vbl;refine aM rfl rfl (fun K hK=>?_);unfold aC;go_simp;refine hK _ _ (fun h=>h) ?_;clear hK K;refine aB ?_;have IM:=Hz I4.out.made;clear v0 vl vf;go_wp2_with fail;refine ⟨by kernel_rfl,?_⟩;exact IM.out
    ·unfold aC;go_simp;refine hK _ _ (fun h=>h) (fun _ h=>h) ?_;clear hK K;have I3:=Hz (show bT w1 h.p n (wx2.alloc (.cells #[.pointer none] 121)) (some lb) (some tb) none (some wx2.heap.size) from I2.out.var);generalize wx2.alloc (.cells #[.pointer none] 121)=wx3 at *;generalize wx2.heap.size=vb at *;refine aM rfl rfl (fun K hK=>?_);unfold aC;go_simp;refine hK _ _ (fun h=>h) ?_;clear hK K;have I4:=Hz (show bT w1 h.p n (wx3.alloc (.cells #[.pointer (some ⟨h.p,0,none⟩), .slice (some ⟨lb,0,none⟩) n n, .slice (some ⟨tb,0,none⟩) n n, .slice none 0 0, .slice none 0 0] 124)) (some lb) (some tb) (some wx3.heap.size) (some vb) from I3.out.cut);generalize wx3.alloc (.cells #[.pointer (some ⟨h.p,0,none⟩), .slice (some ⟨lb,0,none⟩) n n, .slice (some ⟨tb,0,none⟩) n n, .slice none 0 0, .slice none 0 0] 124)=wx4 at *;generalize wx3.heap.size=pc at *;obtain ⟨vbl,-⟩:=I4.out.v vb rfl;have v0:=vbl.cell 0;have vl:=vbl.lt;have vf:=vbl.free 0;simp only [Lz] at v0;clear vbl;refine aM rfl rfl (fun K hK=>?_);unfold aC;go_simp;refine hK _ _ (fun h=>h) ?_;clear hK K;refine aB ?_;have IM:=Hz I4.out.made;clear v0 vl vf;go_wp2_with fail;refine ⟨by kernel_rfl,?_⟩;exact IM.out
   ·unfold aC;go_simp;refine hK _ _ (fun h=>h) (fun _ h=>h) ?_;clear hK K;have I2:=Hz (show bT w1 h.p n (wx1.alloc (.cells #[.pointer none] 121)) (some lb) none none (some wx1.heap.size) from I1.out.var);generalize wx1.alloc (.cells #[.pointer none] 121)=wx2 at *;generalize wx1.heap.size=vb at *;refine aM rfl rfl (fun K hK=>?_);unfold aC;go_simp;refine hK _ _ (fun h=>h) ?_;clear hK K;have I3:=Hz (show bT w1 h.p n (wx2.alloc (.cells (Array.replicate n (.int .i64 0)) 3)) (some lb) (some wx2.heap.size) none (some vb) from I2.out.to);generalize wx2.alloc (.cells (Array.replicate n (.int .i64 0)) 3)=wx3 at *;generalize wx2.heap.size=tb at *;refine gL rfl rfl _ (fun w'=>by go_simp;exact ck.mk _ _) (fun K hK=>?_);go_simp;refine hK _ ?_;clear hK K;refine aM rfl rfl (fun K hK=>?_);unfold aC;go_simp;refine hK _ _ (fun h=>h) ?_;clear hK K;have I4:=Hz (show bT w1 h.p n (wx3.alloc (.cells #[.pointer (some ⟨h.p,0,none⟩), .slice (some ⟨lb,0,none⟩) n n, .slice (some ⟨tb,0,none⟩) n n, .slice none 0 0, .slice none 0 0] 124)) (some lb) (some tb) (some wx3.heap.size) (some vb) from I3.out.cut);generalize wx3.alloc (.cells #[.pointer (some ⟨h.p,0,none⟩), .slice (some ⟨lb,0,none⟩) n n, .slice (some ⟨tb,0,none⟩) n n, .slice none 0 0, .slice none 0 0] 124)=wx4 at *;generalize wx3.heap.size=pc at *;obtain ⟨vbl,-⟩:=I4.out.v vb rfl;have v0:=vbl.cell 0;have vl:=vbl.lt;have vf:=vbl.free 0;simp only [Lz] at v0;clear vbl;refine aM rfl rfl (fun K hK=>?_);unfold aC;go_simp;refine hK _ _ (fun h=>h) ?_;clear hK K;refine aB ?_;have IM:=Hz I4.out.made;clear v0 vl vf;go_wp2_with fail;refine ⟨by kernel_rfl,?_⟩;exact IM.out
  ·unfold aC;go_simp;refine hK _ _ ?_;clear hK K;have I1:=Hz (show bT w1 h.p n ((w1.alloc (.cells (Array.replicate n (.int .i64 0)) 3)).drew) none (some w1.heap.size) none none from I0.out.to);generalize (w1.alloc (.cells (Array.replicate n (.int .i64 0)) 3)).drew=wx1 at *;generalize w1.heap.size=tb at *;refine gM rfl rfl rfl rfl (fun K hK=>?_) (fun K hK=>?_)
   ·unfold aC;go_simp;refine hK _ _ (fun h=>h) (fun _ h=>h) ?_;clear hK K;have I2:=Hz (show bT w1 h.p n (wx1.alloc (.cells (Array.replicate n (.bool false)) 4)) (some wx1.heap.size) (some tb) none none from I1.out.live);generalize wx1.alloc (.cells (Array.replicate n (.bool false)) 4)=wx2 at *;generalize wx1.heap.size=lb at *;refine gL rfl rfl _ (fun w'=>by go_simp;exact ck.mk _ _) (fun K hK=>?_);go_simp;refine hK _ ?_;clear hK K;refine gM rfl rfl rfl rfl (fun K hK=>?_) (fun K hK=>?_)
    ·unfold aC;go_simp;refine hK _ _ (fun h=>h) (fun _ h=>h) ?_;clear hK K;have I3:=Hz (show bT w1 h.p n (wx2.alloc (.cells #[.pointer (some ⟨h.p,0,none⟩), .slice (some ⟨lb,0,none⟩) n n, .slice (some ⟨tb,0,none⟩) n n, .slice none 0 0, .slice none 0 0] 124)) (some lb) (some tb) (some wx2.heap.size) none from I2.out.cut);generalize wx2.alloc (.cells #[.pointer (some ⟨h.p,0,none⟩), .slice (some ⟨lb,0,none⟩) n n, .slice (some ⟨tb,0,none⟩) n n, .slice none 0 0, .slice none 0 0] 124)=wx3 at *;generalize wx2.heap.size=pc at *;refine aM rfl rfl (fun K hK=>?_);unfold aC;go_simp;refine hK _ _ (fun h=>h) ?_;clear hK K;have I4:=Hz (show bT w1 h.p n (wx3.alloc (.cells #[.pointer none] 121)) (some lb) (some tb) (some pc) (some wx3.heap.size) from I3.out.var);generalize wx3.alloc (.cells #[.pointer none] 121)=wx4 at *;generalize wx3.heap.size=vb at *;obtain ⟨vbl,-⟩:=I4.out.v vb rfl;have v0:=vbl.cell 0;have vl:=vbl.lt;have vf:=vbl.free 0;simp only [Lz] at v0;clear vbl;refine aM rfl rfl (fun K hK=>?_);unfold aC;go_simp;refine hK _ _ (fun h=>h) ?_;clear hK K;refine aB ?_;have IM:=Hz I4.out.made;clear v0 vl vf;go_wp2_with fail;refine ⟨by kernel_rfl,?_⟩;exact IM.out
    ·unfold aC;go_simp;refine hK _ _ (fun h=>h) (fun _ h=>h) ?_;clear hK K;have I3:=Hz (show bT w1 h.p n (wx2.alloc (.cells #[.pointer none] 121)) (some lb) (some tb) none (some wx2.heap.size) from I2.out.var);generalize wx2.alloc (.cells #[.pointer none] 121)=wx3 at *;generalize wx2.heap.size=vb at *;refine aM rfl rfl (fun K hK=>?_);unfold aC;go_simp;refine hK _ _ (fun h=>h) ?_;clear hK K;have I4:=Hz (show bT w1 h.p n (wx3.alloc (.cells #[.pointer (some ⟨h.p,0,none⟩), .slice (some ⟨lb,0,none⟩) n n, .slice (some ⟨tb,0,none⟩) n n, .slice none 0 0, .slice none 0 0] 124)) (some lb) (some tb) (some wx3.heap.size) (some vb) from I3.out.cut);generalize wx3.alloc (.cells #[.pointer (some ⟨h.p,0,none⟩), .slice (some ⟨lb,0,none⟩) n n, .slice (some ⟨tb,0,none⟩) n n, .slice none 0 0, .slice none 0 0] 124)=wx4 at *;generalize wx3.heap.size=pc at *;obtain ⟨vbl,-⟩:=I4.out.v vb rfl;have v0:=vbl.cell 0;have vl:=vbl.lt;have vf:=vbl.free 0;simp only [Lz] at v0;clear vbl;refine aM rfl rfl (fun K hK=>?_);unfold aC;go_simp;refine hK _ _ (fun h=>h) ?_;clear hK K;refine aB ?_;have IM:=Hz I4.out.made;clear v0 vl vf;go_wp2_with fail;refine ⟨by kernel_rfl,?_⟩;exact IM.out
   ·unfold aC;go_simp;refine hK _ _ (fun h=>h) (fun _ h=>h) ?_;clear hK K;have I2:=Hz (show bT w1 h.p n (wx1.alloc (.cells #[.pointer none] 121)) none (some tb) none (some wx1.heap.size) from I1.out.var);generalize wx1.alloc (.cells #[.pointer none] 121)=wx2 at *;generalize wx1.heap.size=vb at *;refine aM rfl rfl (fun K hK=>?_);unfold aC;go_simp;refine hK _ _ (fun h=>h) ?_;clear hK K;have I3:=Hz (show bT w1 h.p n (wx2.alloc (.cells (Array.replicate n (.bool false)) 4)) (some wx2.heap.size) (some tb) none (some vb) from I2.out.live);generalize wx2.alloc (.cells (Array.replicate n (.bool false)) 4)=wx3 at *;generalize wx2.heap.size=lb at *;refine gL rfl rfl _ (fun w'=>by go_simp;exact ck.mk _ _) (fun K hK=>?_);go_simp;refine hK _ ?_;clear hK K;refine aM rfl rfl (fun K hK=>?_);unfold aC;go_simp;refine hK _ _ (fun h=>h) ?_;clear hK K;have I4:=Hz (show bT w1 h.p n (wx3.alloc (.cells #[.pointer (some ⟨h.p,0,none⟩), .slice (some ⟨lb,0,none⟩) n n, .slice (some ⟨tb,0,none⟩) n n, .slice none 0 0, .slice none 0 0] 124)) (some lb) (some tb) (some wx3.heap.size) (some vb) from I3.out.cut);generalize wx3.alloc (.cells #[.pointer (some ⟨h.p,0,none⟩), .slice (some ⟨lb,0,none⟩) n n, .slice (some ⟨tb,0,none⟩) n n, .slice none 0 0, .slice none 0 0] 124)=wx4 at *;generalize wx3.heap.size=pc at *;obtain ⟨vbl,-⟩:=I4.out.v vb rfl;have v0:=vbl.cell 0;have vl:=vbl.lt;have vf:=vbl.free 0;simp only [Lz] at v0;clear vbl;refine aM rfl rfl (fun K hK=>?_);unfold aC;go_simp;refine hK _ _ (fun h=>h) ?_;clear hK K;refine aB ?_;have IM:=Hz I4.out.made;clear v0 vl vf;go_wp2_with fail;refine ⟨by kernel_rfl,?_⟩;exact IM.out
  ·unfold aC;go_simp;refine hK _ _ ?_;clear hK K;have I1:=Hz (show bT w1 h.p n ((w1.alloc (.cells #[.pointer none] 121)).drew) none none none (some w1.heap.size) from I0.out.var);generalize (w1.alloc (.cells #[.pointer none] 121)).drew=wx1 at *;generalize w1.heap.size=vb at *;refine gM rfl rfl rfl rfl (fun K hK=>?_) (fun K hK=>?_)
   ·unfold aC;go_simp;refine hK _ _ (fun h=>h) (fun _ h=>h) ?_;clear hK K;have I2:=Hz (show bT w1 h.p n (wx1.alloc (.cells (Array.replicate n (.bool false)) 4)) (some wx1.heap.size) none none (some vb) from I1.out.live);generalize wx1.alloc (.cells (Array.replicate n (.bool false)) 4)=wx2 at *;generalize wx1.heap.size=lb at *;refine aM rfl rfl (fun K hK=>?_);unfold aC;go_simp;refine hK _ _ (fun h=>h) ?_;clear hK K;have I3:=Hz (show bT w1 h.p n (wx2.alloc (.cells (Array.replicate n (.int .i64 0)) 3)) (some lb) (some wx2.heap.size) none (some vb) from I2.out.to);generalize wx2.alloc (.cells (Array.replicate n (.int .i64 0)) 3)=wx3 at *;generalize wx2.heap.size=tb at *;refine gL rfl rfl _ (fun w'=>by go_simp;exact ck.mk _ _) (fun K hK=>?_);go_simp;refine hK _ ?_;clear hK K;refine aM rfl rfl (fun K hK=>?_);unfold aC;go_simp;refine hK _ _ (fun h=>h) ?_;clear hK K;have I4:=Hz (show bT w1 h.p n (wx3.alloc (.cells #[.pointer (some ⟨h.p,0,none⟩), .slice (some ⟨lb,0,none⟩) n n, .slice (some ⟨tb,0,none⟩) n n, .slice none 0 0, .slice none 0 0] 124)) (some lb) (some tb) (some wx3.heap.size) (some vb) from I3.out.cut);generalize wx3.alloc (.cells #[.pointer (some ⟨h.p,0,none⟩), .slice (some ⟨lb,0,none⟩) n n, .slice (some ⟨tb,0,none⟩) n n, .slice none 0 0, .slice none 0 0] 124)=wx4 at *;generalize wx3.heap.size=pc at *;obtain ⟨vbl,-⟩:=I4.out.v vb rfl;have v0:=vbl.cell 0;have vl:=vbl.lt;have vf:=vbl.free 0;simp only [Lz] at v0;clear vbl;refine aM rfl rfl (fun K hK=>?_);unfold aC;go_simp;refine hK _ _ (fun h=>h) ?_;clear hK K;refine aB ?_;have IM:=Hz I4.out.made;clear v0 vl vf;go_wp2_with fail;refine ⟨by kernel_rfl,?_⟩;exact IM.out
   ·unfold aC;go_simp;refine hK _ _ (fun h=>h) (fun _ h=>h) ?_;clear hK K;have I2:=Hz (show bT w1 h.p n (wx1.alloc (.cells (Array.replicate n (.int .i64 0)) 3)) none (some wx1.heap.size) none (some vb) from I1.out.to);generalize wx1.alloc (.cells (Array.replicate n (.int .i64 0)) 3)=wx2 at *;generalize wx1.heap.size=tb at *;refine aM rfl rfl (fun K hK=>?_);unfold aC;go_simp;refine hK _ _ (fun h=>h) ?_;clear hK K;have I3:=Hz (show bT w1 h.p n (wx2.alloc (.cells (Array.replicate n (.bool false)) 4)) (some wx2.heap.size) (some tb) none (some vb) from I2.out.live);generalize wx2.alloc (.cells (Array.replicate n (.bool false)) 4)=wx3 at *;generalize wx2.heap.size=lb at *;refine gL rfl rfl _ (fun w'=>by go_simp;exact ck.mk _ _) (fun K hK=>?_);go_simp;refine hK _ ?_;clear hK K;refine aM rfl rfl (fun K hK=>?_);unfold aC;go_simp;refine hK _ _ (fun h=>h) ?_;clear hK K;have I4:=Hz (show bT w1 h.p n (wx3.alloc (.cells #[.pointer (some ⟨h.p,0,none⟩), .slice (some ⟨lb,0,none⟩) n n, .slice (some ⟨tb,0,none⟩) n n, .slice none 0 0, .slice none 0 0] 124)) (some lb) (some tb) (some wx3.heap.size) (some vb) from I3.out.cut);generalize wx3.alloc (.cells #[.pointer (some ⟨h.p,0,none⟩), .slice (some ⟨lb,0,none⟩) n n, .slice (some ⟨tb,0,none⟩) n n, .slice none 0 0, .slice none 0 0] 124)=wx4 at *;generalize wx3.heap.size=pc at *;obtain ⟨vbl,-⟩:=I4.out.v vb rfl;have v0:=vbl.cell 0;have vl:=vbl.lt;have vf:=vbl.free 0;simp only [Lz] at v0;clear vbl;refine aM rfl rfl (fun K hK=>?_);unfold aC;go_simp;refine hK _ _ (fun h=>h) ?_;clear hK K;refine aB ?_;have IM:=Hz I4.out.made;clear v0 vl vf;go_wp2_with fail;refine ⟨by kernel_rfl,?_⟩;exact IM.out
 intro u1 wx hR;obtain ⟨lb,tb,pc,b,e4,hk,hlb,htb,hpc,hb,s1,s2,s3,s4⟩:=hR;have e4:u1 4=.pointer (some ⟨b,0,none⟩):=e4;simp (maxSteps:=2000000) only [gH,overL,List.toList_toArray,Nat.blt,Nat.beq,Nat.ble,Nat.reduceAdd,Bool.or_false,Bool.false_or,Bool.or_true,Bool.true_or,Bool.and_true,Bool.true_and,Bool.and_false,Bool.false_and,cond_true,cond_false];rw [e4];clear e4;rename_i K3 hK3;have HX:=Hz (H1.out.ae hk (fun _ _ h=>h));have hsz1:=K1.out.size;have M0:=Hz (show JM w h O wx pc lb tb (.slice none 0 0) (.slice none 0 0) O.ar O.rt ⟨List.replicate n false,[],[]⟩ (List.replicate n 0) from
  ⟨⟨HX.out.hp,HX.out.ha,by simpa using hpc,by simpa using hlb,by simpa using htb,Sl.nil _ _ _,Sl.nil _ _ _,fun k hk=>bM hk.1,⟨fun h=>bM h,fun h=>bM h⟩⟩,HX.out.hc,HX.out.hs,HX.out.hr,(K1.out.trans hk).mono (fun _ _ h=>h.elim),fun k hk=>by
   rcases hk with hk | hk | hk | hk | hk | hk | hk | hk
   ·exact .inl (.inl hk)
   ·exact .inl (.inr (.inl hk))
   ·exact .inl (.inr (.inr hk))
   ·exact .inr (by rw [hk];exact Nat.le_trans hsz1 s3)
   ·exact .inr (by rw [hk];exact Nat.le_trans hsz1 s1)
   ·exact .inr (by rw [hk];exact Nat.le_trans hsz1 s2)
   ·exact (bM hk).elim
   ·exact (bM hk).elim⟩)
 have B0:=Hz (show ah wx b [.pointer (some ⟨pc,0,none⟩)] 121 from hb);have BS:=Hz (Nat.le_trans hsz1 s4);have S:=Hz HR.out.shut;have DR:=Hz HR.out.zA;have DG:=Hz HR.out.Ci;have DW:=Hz HR.out.Cj;obtain ⟨T,hT⟩:∃ T:Int→Prop,(fun p=>∃ i,W.live i∧φ i=p)=T:=⟨_,rfl⟩;rw [hT] at S DR DG DW;have G0:=Hz (show bK O.ar T ⟨List.replicate n false,[],[]⟩ 1300 from ⟨by rw [HN.out];simp,fun i hi=>(by cases hi),fun i hi=>(by cases hi),by dsimp only;rw [sP];simp;omega⟩);clear hk hlb htb hpc hb s1 s2 s3 s4 hT hsz1 HX H1 K1;obtain ⟨gr,og,rcap,ero,-,-,-⟩:=M0.out.fT HOK.out.h12;have HRO:=Hz ero;have p3:=M0.out.cells.2.2.2.1;have pl:=M0.out.cells.2.2.2.2;rw [ero] at p3;clear ero;go_wp2_with fail;go_loopw [50] (fun u wr=>∃ k:Nat,k≤12∧u=.int .i64 k∧∃ sv ev,JM w h O wr pc lb tb sv ev O.ar O.rt (eg ⟨List.replicate n false,[],[]⟩ (O.rt.take k)) (List.replicate n 0)∧ah wr b [.pointer (some ⟨pc,0,none⟩)] 121) (fun u _=>12-(intOf u).toNat)
 case atStart=>exact ⟨0,Nat.zero_le _,rfl,_,_,M0.out,B0.out⟩
 case round=>
  clear M0 B0 p3 pl;obtain ⟨k,hk,rfl,sv,ev,hM,hB⟩:=hrel;have M:=Hz hM;have B:=Hz hB;clear hM hB;have GK:=Hz (bK.marks S.out (O.rt.take k) G0.out (fun x hx=>DR.out x (List.mem_of_mem_take hx))).1;by_cases hlt:k<12
  ·obtain ⟨gr',og',rcap',ero,hgl,-,hcl⟩:=M.out.fT HOK.out.h12;rw [HRO.out] at ero;cases ero;have d0:=hcl k (by rw [HOK.out.h12];exact hlt);have b0:=B.out.cell 0;have bl:=B.out.lt;simp only [Lz] at b0;have HMS:=Hz (oL (s:=⟨List.replicate n false,[],[]⟩) (l:=O.rt) (k:=k) (by rw [HOK.out.h12];exact hlt));have DX:=Hz (DR.out (O.rt.getD k 0) (by rw [Ld,Le (by rw [HOK.out.h12];exact hlt)];exact List.getElem_mem _));clear hcl;generalize O.rt.getD k 0=x at *;go_wp2_with fail;refine (kl x M.out.J S.out GK.out DX.out (by omega)).mono ?_;rintro e w2 ⟨rfl,t⟩;obtain ⟨sv2,M2'⟩:=M.out.CL HH.out t;have M2:=Hz M2';have B2:=Hz (show ah w2 b [.pointer (some ⟨pc,0,none⟩)] 121 by
    obtain ⟨_,_,kt,_⟩:=t
    exact kt.ak B.out (M.out.var B.out (.inl rfl)))
   clear t M2' d0 b0 bl hgl;go_wp2_with fail;go_roundw
   case rel=>exact ⟨k+1,hlt,by go_num,_,_,by rw [HMS.out];exact M2.out,B2.out⟩
   case measure=>simp [intOf];omega
  ·obtain rfl:k=12:=by omega
   have h12:=HOK.out.h12;rw [List.take_of_length_le (by omega)] at M GK;obtain ⟨s1,hs1⟩:∃ s,eg ⟨List.replicate n false,[],[]⟩ O.rt=s:=⟨_,rfl⟩;have HS1:=Hz hs1;rw [hs1] at M GK;clear hs1 G0 hlt hk h12;obtain ⟨w2,rfl⟩:∃ x:World,x=wr:=⟨wr,rfl⟩;have p2:=M.out.cells.2.2.1;have pl:=M.out.cells.2.2.2.2;have hq24:=HOK.out.hq;go_wp2_with fail;refine (AR h.ps h.rv h.wv O.rg O.wt _ M.out.hs (by omega) (by omega)).mono ?_;rintro e w3 ⟨sp,rv2,qv2,rfl,hsd,hk3,hso⟩;have M3:=Hz (M.out.same HH.out hk3);have SD3:=Hz hsd;have SO3:=Hz (show jV w h (a7 sp rv2 qv2) from fun k hk=>.inr (Nat.le_trans M.out.K.size (hso k hk)));have B3:=Hz (hk3.ak B.out (fun h=>h));clear hsd hk3 hso p2 pl M B;go_upto_region 9 with fail
   have V4:=Hz (show tu (w3.alloc (.cells #[.pointer (some ⟨sp,0,none⟩)] 49)) w3.heap.size sp from ah.newAt _ rfl rfl);have kA:=(Kz w3).alloc (.cells #[.pointer (some ⟨sp,0,none⟩)] 49);have M4:=Hz (M3.out.same HH.out kA);have SD4:=Hz (SD3.out.ae kA (fun _ _ h=>h));have B4:=Hz (show iN _ b ⟨h.p,h.pa,h.g,h.pc,h.ps,h.ro,pc,lb,tb⟩ from kA.ak B3.out (fun h=>h));have BV:=Hz (show w.heap.size≤w3.heap.size from M3.out.K.size);clear kA SD3 B3 M3;generalize w3.alloc (.cells #[.pointer (some ⟨sp,0,none⟩)] 49)=w4 at *;generalize w3.heap.size=vb2 at *;have C4:=Hz (show JS w4 ⟨h.p,h.pa,h.g,h.pc,h.ps,h.ro,pc,lb,tb⟩ sp sv ev rv2 qv2 O.ar (List.replicate n 0) T 1300 O.rg O.wt s1 from ⟨M4.out.J,SD4.out,GK.out⟩);have b0:=B4.out.cell 0;have bl:=B4.out.lt;have v0:=V4.out.cell 0;have vl:=V4.out.lt;simp only [Lz] at b0 v0;clear SD4 GK;go_wp2_with fail;refine (tt C4.out S.out DW.out (by omega) (by omega)).mono ?_;rintro e w5 ⟨rfl,sv5,ev5,hC5,k5,o5⟩;have HPRE:=Hz (show eh O.ar O.wt 2000 s1=nG O by unfold nG;rw [HN.out,HS1.out]);rw [HPRE.out] at hC5;have C5:=Hz hC5;have OWN5:=Hz (M4.out.own.mono (fun k hk=>(o5 k hk).imp id (fun h=>Nat.le_trans M4.out.K.size h)));have M5:=Hz (M4.out.ae HH.out k5 (M4.out.own.or SO3.out) hC5.J OWN5.out);have B5:=Hz (C4.out.var B4.out k5);have V5:=Hz (C4.out.yS V4.out k5);clear hC5 k5 o5 C4 B4 V4 M4 HPRE HS1 b0 bl v0 vl;have b0:=B5.out.cell 0;have bl:=B5.out.lt;have v0:=V5.out.cell 0;have vl:=V5.out.lt;simp only [Lz] at b0 v0;go_wp2_with fail;refine (tm sp (pA ⟨h.p,h.pa,h.g,h.pc,h.ps,h.ro,pc,lb,tb⟩ O.ar (List.replicate n 0) T 1300 S.out (by omega) sp b vb2) (nG O) (fun k=>JH.Own ⟨h.p,h.pa,h.g,h.pc,h.ps,h.ro,pc,lb,tb⟩ sv5 ev5 k∨k=b∨k=vb2) rv2 qv2 O.rg O.wt w5 ⟨sv5,ev5,C5.out.J,C5.out.ok,B5.out,V5.out,rfl⟩ C5.out.S (fun k hk=>by
    obtain ⟨hk | hk | hk,hs⟩:=hk
    ·exact C5.out.J.cK C5.out.S hk hs
    ·subst hk;obtain ⟨_,U,h',hU⟩:=C5.out.S.cG hs;refine B5.out.ne h' ?_ rfl;rcases hU with rfl | rfl <;> decide
    ·subst hk;obtain ⟨_,U,h',hU⟩:=C5.out.S.cG hs;refine V5.out.ne h' ?_ rfl
     rcases hU with rfl | rfl <;> decide) (by omega) (by omega) (fun e he=>DG.out e he) (fun e he=>DW.out e he)).mono ?_
   rintro e w6 ⟨rfl,F6,rv6,qv6,⟨sv6,ev6,hJ6,hG6,hB6,hV6,rfl⟩,hS6,-,hk6,hF6,hsf6⟩;have HPS:=Hz (show fJ (pA ⟨h.p,h.pa,h.g,h.pc,h.ps,h.ro,pc,lb,tb⟩ O.ar (List.replicate n 0) T 1300 S.out (by omega) sp b vb2).alive (pA ⟨h.p,h.pa,h.g,h.pc,h.ps,h.ro,pc,lb,tb⟩ O.ar (List.replicate n 0) T 1300 S.out (by omega) sp b vb2).ae (nG O) O.rg O.wt=cm O from rfl);rw [HPS.out] at hJ6 hG6 hS6;replace hS6:bu w6 sp rv6 qv6 (bz aY fw (cm O).1 (cm O).2.2) (bC aY fw (cm O).1 (cm O).2.1):=hS6;have INF:=Hz (show jV w h (fun k=>(JH.Own ⟨h.p,h.pa,h.g,h.pc,h.ps,h.ro,pc,lb,tb⟩ sv5 ev5 k∨k=b∨k=vb2)∨a7 sp rv2 qv2 k) from fun k hk=>by
    rcases hk with (hk | hk | hk) | hk
    ·exact OWN5.out k hk
    ·exact .inr (by rw [hk];exact BS.out)
    ·exact .inr (by rw [hk];exact BV.out)
    ·exact SO3.out k hk)
   have M6:=Hz (M5.out.ae HH.out hk6 INF.out hJ6 (fun k hk=>by
    rcases hF6 k (.inl hk) with h1 | h1
    ·exact INF.out k (.inl h1)
    ·exact .inr (Nat.le_trans M5.out.K.size h1)))
   have SO6:=Hz (show jV w h (a7 sp rv6 qv6) from fun k hk=>by
    rcases hsf6 k hk with h1 | h1
    ·exact SO3.out k h1
    ·exact .inr (Nat.le_trans M5.out.K.size h1))
   have S6:=Hz hS6;have B6:=Hz hB6;have V6:=Hz hV6;have G6:=Hz hG6;clear hS6 hB6 hV6 hG6 hJ6 hk6 hF6 hsf6 HPS INF C5 M5 B5 V5 OWN5 SO3 b0 bl v0 vl;obtain ⟨st,hst⟩:∃ t,(cm O).1=t:=⟨_,rfl⟩;have HST:=Hz hst;rw [hst] at M6 G6 S6;clear hst;have p0:=M6.out.cells.1;have pl:=M6.out.cells.2.2.2.2;have o1:=HOK.out.ha.h1;have o2:=HOK.out.ha.h2;have o3:=HOK.out.ha.h3;rw [HN.out] at o3;go_wp2_with fail;refine (r9 w6 M6.out.J.ha).mono ?_;rintro e w7 ⟨rfl,hk⟩;have M7:=Hz (M6.out.same HH.out hk);have K7:=Hz hk;clear hk p0 pl M6;have p0:=M7.out.cells.1;have pl:=M7.out.cells.2.2.2.2;go_wp2_with fail;refine (lH w7 M7.out.J.ha).mono ?_;rintro e w8 ⟨rfl,hk⟩;have M8:=Hz (M7.out.same HH.out hk);have K8:=Hz (K7.out.trans hk);clear hk p0 pl M7 K7;have p0:=M8.out.cells.1;have pl:=M8.out.cells.2.2.2.2;go_wp2_with fail;refine (jK w8 M8.out.J.ha).mono ?_;rintro e w9 ⟨rfl,hk⟩;have M9:=Hz (M8.out.same HH.out hk);have K9:=Hz (K8.out.trans hk);have B9:=Hz (K9.out.ak B6.out (fun h=>h));have V9:=Hz (K9.out.ak V6.out (fun h=>h));have S9:=Hz (S6.out.ae K9.out (fun _ _ h=>h));clear hk p0 pl M8 K8 K9 B6 V6 S6;have b0:=B9.out.cell 0;have bl:=B9.out.lt;simp only [Lz] at b0;have HIN:=Hz (show ∀ i ∈ O.ar.aT.2 ++ O.ar.aT.1,0≤i∧i<st.lv.length from fun i hi=>by
    obtain ⟨j,hj,rfl⟩:=HR.out.onto i ((List.mem_append.1 hi).symm);have:=HR.out.od hj;have h2:=G6.out.len
    omega)
   have LV:=Hz (show st.lv.length=n by rw [G6.out.len,HN.out]);go_wp2_with fail;refine (Av (O.ar.nur:Int) M9.out.J (by omega) (by omega) (by rw [LV.out];simp) (by rw [LV.out];omega) HIN.out).mono ?_;rintro e w10 ⟨rfl,hJ,hk⟩;have HPL:=Hz (show jPlan O.ar st.lv O.ar.nur (O.ar.aT.2 ++ O.ar.aT.1) (List.replicate n 0,0)=dy O by unfold dy kN;rw [HST.out,HN.out]);rw [HPL.out] at hJ ⊢;have M10:=Hz (M9.out.ae HH.out hk (fun k hk=>M9.out.own k (by rw [hk];exact .inr (.inr (.inr (.inr (.inr (.inl rfl))))))) hJ M9.out.own);have NTB:=Hz (show ∀ (c:List Value) (U:TypeId) (k:Nat),ah w9 k c U→U≠3→¬ k=tb from fun c U k hb hU=>hb.ne M9.out.J.ht hU);have B10:=Hz (hk.ak B9.out (NTB.out _ _ _ B9.out (by decide)));have V10:=Hz (hk.ak V9.out (NTB.out _ _ _ V9.out (by decide)));have VB10:=Hz (show vb2<w10.heap.size from (hk.ak V9.out (NTB.out _ _ _ V9.out (by decide))).lt);have BB10:=Hz (show b<w10.heap.size from (hk.ak B9.out (NTB.out _ _ _ B9.out (by decide))).lt);have S10:=Hz (S9.out.ae hk (fun b hb=>by
    obtain ⟨_,U,h',hU⟩:=S9.out.cG hb
    exact NTB.out _ _ _ h' (by rcases hU with rfl | rfl <;> decide)))
   have SL10:=Hz (fun k (hk:a7 sp rv6 qv6 k)=>S10.out.nW hk);have PLB:=lF O.ar st.lv O.ar.nur (O.ar.aT.2 ++ O.ar.aT.1) (List.replicate n 0,0) (by dsimp only;omega);rw [HPL.out] at PLB;have FL:=Hz (show (dy O).1.length=n by rw [PLB.2.2];simp);have hly:O.ar.aT.1.length≤1300:=Ar.gN O.ar 1300 _ _;have hlo:O.ar.aT.2.length≤1300:=Ar.gN O.ar 1300 _ _;have ab0:=PLB.1;have ab1:(dy O).2≤40000:=by have:=PLB.2.1;rw [List.length_append] at this;dsimp only at this;omega
   clear hJ hk NTB PLB M9 B9 V9 S9 b0 bl HPL hly hlo;have hcut:dL O=if (dy O).2 > ((O.ar.grn:Int)-O.ar.nur)+((O.ar.ws.length:Int)-O.ar.grn) then (3,O) else dL O:=by unfold dL;split <;> rfl
   have HCUT:=Hz hcut;have HHALF:=Hz HR.out.half;clear hcut;obtain ⟨f,hf⟩:∃ f,(dy O).1=f:=⟨_,rfl⟩;obtain ⟨all,hall⟩:∃ f,(dy O).2=f:=⟨_,rfl⟩;have HF:=Hz hf;have HALL:=Hz hall;rw [hf] at M10 FL;rw [hall] at ab0 ab1 HCUT ⊢;clear hf hall;have wsum:IntKind.i64.wrap (((O.ar.grn-O.ar.nur:Nat):Int)+((O.ar.ws.length-O.ar.grn:Nat):Int))=((O.ar.grn-O.ar.nur:Nat):Int)+((O.ar.ws.length-O.ar.grn:Nat):Int):=IntWalk.i64_in _ (by have:=HN.out;omega);by_cases hfull:all > ((O.ar.grn-O.ar.nur:Nat):Int)+((O.ar.ws.length-O.ar.grn:Nat):Int)
   ·have hd:decide (((O.ar.grn-O.ar.nur:Nat):Int)+((O.ar.ws.length-O.ar.grn:Nat):Int)<all)=true:=decide_eq_true hfull;have hE:dL O=(3,O):=by rw [HCUT.out,if_pos (by have:=HN.out;omega)]
    have HE:=Hz hE;clear hE hfull;go_wp2_with fail;go_ret;refine ⟨by rw [HE.out];rfl,?_⟩;rw [HE.out];have M:=M10.out;exact ⟨h,⟨M.J.hp,M.J.ha,M.hc,M.hs,M.hr,HH.out.ap,HOK.out⟩,rfl,M.K,fun k hk=>.inl hk⟩
   ·have hd:decide (((O.ar.grn-O.ar.nur:Nat):Int)+((O.ar.ws.length-O.ar.grn:Nat):Int)<all)=false:=decide_eq_false (by omega);have HNF:=Hz (show ¬ all > ((O.ar.grn:Int)-O.ar.nur)+((O.ar.ws.length:Int)-O.ar.grn) by have:=HN.out;omega);have HALF:=Hz (HHALF.out (by
     unfold dL;rw [HALL.out,if_neg HNF.out]
     exact fun h=>h rfl))
    clear hfull HHALF HCUT;have HIN2:=Hz (show ∀ i ∈ bY O,0≤i∧i<st.lv.length from fun i hi=>HIN.out i (List.mem_filter.1 hi).1);have HTH:=Hz (show (O.ar.aT.2 ++ O.ar.aT.1).filter (fun x=>!(!ax st.lv x))=bY O by unfold bY kN;rw [HST.out];simp);have p0:=M10.out.cells.1;have pl:=M10.out.cells.2.2.2.2;go_wp2_with fail;refine (oV w10 M10.out.J.ha).mono ?_;rintro e w11 ⟨ao1,ac1,bo1,bc1,rfl,hs1,hs2,hk,-,-⟩;have KX:=Hz hk;have SY:=Hz hs1;have SD:=Hz hs2;have hly:O.ar.aT.1.length≤1300:=Ar.gN O.ar 1300 _ _;have hlo:O.ar.aT.2.length≤1300:=Ar.gN O.ar 1300 _ _;clear hs1 hs2 hk p0 pl;generalize O.ar.aT.1=Yl at *;generalize O.ar.aT.2=Ol at *;have b0:=(KX.out.ak B10.out (fun h=>h)).cell 0;have bl:=(KX.out.ak B10.out (fun h=>h)).lt;simp only [Lz] at b0;go_wp2_with fail;have HQ:Hid (ah (w11.alloc (.cells #[.slice bo1 Ol.length bc1, .slice ao1 Yl.length ac1] 83)) w11.heap.size [.slice bo1 Ol.length bc1, .slice ao1 Yl.length ac1] 83):=ah.newAt _ rfl rfl;have KA:=Hz ((Kz w11).alloc (.cells #[.slice bo1 Ol.length bc1, .slice ao1 Yl.length ac1] 83));generalize w11.alloc (.cells #[.slice bo1 Ol.length bc1, .slice ao1 Yl.length ac1] 83)=w12 at *;refine (tx w11.heap.size bo1 ao1 bc1 ac1 Ol Yl w12 HQ.out (by obtain ⟨_,_,e,h,-,-⟩:=(SD.out.ae KA.out (fun _ _ h=>h)).rd;cases e;exact h) (by obtain ⟨_,_,e,h,-,-⟩:=(SY.out.ae KA.out (fun _ _ h=>h)).rd;cases e;exact h) (by omega) (by omega)).mono ?_;rintro e w13 ⟨co,cc,rfl,hs3,hk3,ho3⟩;have KY:=Hz ((KX.out.trans KA.out).trans hk3);have S13:=Hz hs3;have HO3:=Hz (show ∀ k,ai (.slice co (Ol ++ Yl).length cc) k→w10.heap.size≤k from fun k hk=>by
     have h1:=ho3 k hk;have h2:=(KX.out.trans KA.out).size;exact Nat.le_trans h2 h1)
    have M13:=Hz (M10.out.same HH.out KY.out);have B13:=Hz (KY.out.ak B10.out (fun h=>h));have V13:=Hz (KY.out.ak V10.out (fun h=>h));have S13':=Hz (S10.out.ae KY.out (fun _ _ h=>h));have LL:=Hz (show (Ol ++ Yl).length≤2600 by rw [List.length_append];omega);clear hs3 hk3 ho3 HQ KA SY SD KX hly hlo b0 bl B10 V10 S10;generalize Ol ++ Yl=Ls at *;have DEL:=Hz (Bq b (fun x=>!ax st.lv x) co cc Ls w13 S13.out (by have:=LL.out;omega) (fun x hx w' hk=>by
     have hin:=HIN.out x hx;have hnot:∀ k,k<w10.heap.size→¬ ai (.slice co Ls.length cc) k:=fun k hk ho=>by have:=HO3.out k ho;omega
     exact At x b (M13.out.J.ae hk (fun k hk=>hnot k (M10.out.J.bU hk))) (hk.ak B13.out (hnot b (by have:=BB10.out;exact this))) hin.1 hin.2 (by rw [LV.out];omega)))
    unfold nN at DEL;have b0:=B13.out.cell 0;have bl:=B13.out.lt;simp only [Lz] at b0;go_wp2_with fail;refine DEL.out.mono ?_;rintro e w14 ⟨lo,lc,rfl,hsl,hkl,hol⟩;rw [HTH.out] at hsl hol ⊢;have hnot:∀ k,k<w10.heap.size→¬ ai (.slice co Ls.length cc) k:=fun k hk ho=>by have:=HO3.out k ho;omega
    obtain ⟨RG,hRG⟩:∃ l,bz aY fw st (cm O).2.2=l:=⟨_,rfl⟩;obtain ⟨WT,hWT⟩:∃ l,bC aY fw st (cm O).2.1=l:=⟨_,rfl⟩;obtain ⟨L,hL⟩:∃ l,bY O=l:=⟨_,rfl⟩;have HRG:=Hz hRG;have HWT:=Hz hWT;have HLL:=Hz hL;have DMR:=Hz (show ∀ e ∈ RG,O.dm e.1∧O.dm e.2 from by have:=HR.out.Aw;rw [HST.out,hRG] at this;exact this);have DMW:=Hz (show ∀ e ∈ WT,O.dm e.1∧O.dm e.2 from by have:=HR.out.Ax;rw [HST.out,hWT] at this;exact this);have DMT:=Hz HR.out.Ck;have HE:=Hz (show dL O=(0,⟨((jm O).cut all.toNat).clear,O.cd.map fun _=>false,O.rt.map (cx f),RG.map (ct f),WT.map (ct f)⟩) by
     unfold dL
     rw [HALL.out,if_neg (by have:=HNF.out;omega),HST.out,HF.out,hRG,hWT])
    have OK2:=Hz (show (dL O).2.ok from by obtain ⟨_,ψ,R'⟩:=HR.out.major;exact R'.ho);have HNUR:=Hz (show O.ar.nur=(dL O).2.ar.nur from by
     obtain ⟨_,ψ,R'⟩:=HR.out.major;have h1:=R'.nur;have h2:=HR.out.nur;have h3:=(Wd.yV W true).1
     omega)
    have HRW:=Hz (show RG.length+WT.length≤24 by
     have h1:=OK2.out.hq;rw [HE.out] at h1
     simpa using h1)
    rw [hRG,hWT] at S13';rw [hL] at hsl hol HIN2 ⊢;have Z0:=Hz (show JZ w h O w14 h.ps pc lb tb sv6 ev6 O.ar O.cd O.rt st f b vb2 sp rv6 qv6 RG WT lo lc L from
     ⟨M13.out.J.ae hkl (fun k hk=>hnot k (M10.out.J.bU hk)),M13.out.hc.ae hkl (hnot _ M10.out.hc.hp.lt) (hnot _ M10.out.hc.hq.lt),M13.out.hr.ae hkl (fun b hb=>hnot _ (M10.out.hr.own hb).1),M13.out.K.then hkl (fun k hk=>.inr (Nat.le_trans M10.out.K.size (HO3.out k hk))),S13'.out.ae hkl (fun b hb=>hnot _ (SL10.out b hb)),SO6.out,hkl.ak B13.out (hnot _ BB10.out),hkl.ak V13.out (hnot _ VB10.out),hsl,HH.out.ap⟩)
    have CBL:=Hz (show h.cb≠lb from fun e=>by
     have h1:=HH.out.Bv (k:=h.cb) (.inr (.inl rfl));have h2:=M10.out.own lb (.inr (.inr (.inr (.inr (.inl rfl)))));rw [←e] at h2
     omega)
    have LLN:=Hz (show L.length≤2600 by rw [←hL,←HTH.out];exact Nat.le_trans (List.length_filter_le _ _) LL.out);have HTU:=Hz (show ∀ k,k<L.length→∀ A i,(L.take k).foldl (dK st f) O.ar=A→L.getD k 0=i→A.ok∧0≤i∧i<O.ar.ws.length∧(∀ j:Int,0≤j→j<(A.aj i).2.1→A.aS (i+1+j)=true)∧((A.aj i).1=4→0<(A.aj i).2.1)∧∀ j:Int,0≤j→j<(A.aj i).2.1→O.dm (A.load (i+1+j)) from by
     have:=HALF.out.turn;rw [HST.out,HF.out,hL] at this;exact this)
    have HSL:=Hz (show ∀ k,k<L.length→∀ A i,(L.take k).foldl (bA f) (dE O)=A→L.getD k 0=i→A.ok∧A.ws.length=O.ar.ws.length∧0≤i∧i+1+(A.aj i).2.1≤O.ar.ws.length∧0≤dW f i∧dW f i+1+(A.aj i).2.1≤O.ar.ws.length from by
     have:=HALF.out.slide;rw [HF.out,hL] at this;exact this)
    have HTD:=Hz (show dE O=L.foldl (dK st f) O.ar by unfold dE;rw [HST.out,HF.out,hL]);have HSD:=Hz (show jm O=L.foldl (bA f) (dE O) by unfold jm;rw [HF.out,hL]);clear hnot hRG hWT hL hsl hkl hol M13 B13 V13 S13 S13' SL10 BB10 VB10 HO3 KY M10 DEL b0 bl HIN HTH LL;have hll:=LLN.out;go_wp2_with fail;go_loopw [121] (fun u wr=>∃ k:Nat,k≤L.length∧u=.int .i64 k∧JZ w h O wr h.ps pc lb tb sv6 ev6 ((L.take k).foldl (dK st f) O.ar) O.cd O.rt st f b vb2 sp rv6 qv6 RG WT lo lc L) (fun u _=>L.length-(intOf u).toNat)
    case atStart=>exact ⟨0,Nat.zero_le _,rfl,Z0.out⟩
    case round=>
     clear Z0;obtain ⟨k,hk,rfl,hZ⟩:=hrel;have Z:=Hz hZ;clear hZ;by_cases hlt:k<L.length
     ·obtain ⟨_,_,e',rd,-,-⟩:=Z.out.L.rd;cases e';obtain ⟨gl,ol,rfl,d0⟩:=rd.int k hlt;have hgl:=(Z.out.L.own (k:=gl) rfl).1;have b0:=Z.out.B.cell 0;have bl:=Z.out.B.lt;simp only [Lz] at b0;obtain ⟨u1',u2,u3,u4,u5,u6'⟩:=HTU.out k hlt _ _ rfl rfl;have FT:=Hz (qC (g:=dK st f) O.ar hlt);have TC:=Hz (Aq (L.getD k 0) Z.out.J u2 (by have:=HN.out;omega) (by rw [LV.out];omega) (by rw [FL.out];omega) u4 u5 (fun j j0 j1 hm=>by
       have:=u6' j j0 j1 hm;rw [LV.out,FL.out];have:=HN.out
       omega))
      clear u1' u2 u3 u4 u5 u6' rd;generalize L.getD k 0=i at *;go_wp2_with fail;refine TC.out.mono ?_;rintro e w15 ⟨rfl,t⟩;have Z2:=Hz (Z.out.bZ t);clear t b0 bl d0 hgl TC;go_wp2_with fail;go_roundw
      case rel=>exact ⟨k+1,hlt,by go_num,by rw [FT.out];exact Z2.out⟩
      case measure=>simp [intOf];omega
     ·obtain rfl:k=L.length:=by omega
      rw [List.take_length,←HTD.out] at Z;obtain ⟨w15,rfl⟩:∃ x:World,x=wr:=⟨wr,rfl⟩;obtain ⟨B0',hB0⟩:∃ B,dE O=B:=⟨_,rfl⟩;have HB0:=Hz hB0;rw [hB0] at Z HSD HSL;have BOK:=Hz (show B0'.ok by rw [←hB0];exact HALF.out.tok);have BLEN:=Hz (show B0'.ws.length=O.ar.ws.length by rw [←hB0];exact HALF.out.tlen);clear hB0 hlt hk HTU HTD;have r12:O.rt.length=12:=HOK.out.h12;have q3:=Z.out.cells.2.2.2.1;have pl:=Z.out.cells.2.2.2.2.1;rw [HRO.out] at q3;go_wp2_with fail;go_loopw [134] (fun u wr=>∃ k:Nat,k≤12∧u=.int .i64 k∧JZ w h O wr h.ps pc lb tb sv6 ev6 B0' O.cd (ez (cx f) O.rt k) st f b vb2 sp rv6 qv6 RG WT lo lc L) (fun u _=>12-(intOf u).toNat)
      case atStart=>exact ⟨0,Nat.zero_le _,rfl,by rw [nO];exact Z.out⟩
      case round=>
       clear Z q3 pl;obtain ⟨k,hk,rfl,hZ⟩:=hrel;have Z:=Hz hZ;clear hZ;by_cases hlt:k<12
       ·have hrl:(ez (cx f) O.rt k).length=12:=by rw [gd];exact r12
        obtain ⟨gr',og',rcap',ero,hgl,hfz,hcl⟩:=Z.out.fT hrl;rw [HRO.out] at ero;cases ero;have d0:=hcl k (by omega);rw [pC (cx f) 0 (by omega)] at d0;have hf':=hfz (og+k);have q3:=Z.out.cells.2.2.2.1;have pl:=Z.out.cells.2.2.2.2.1;rw [HRO.out] at q3;have b0:=Z.out.B.cell 0;have bl:=Z.out.B.lt;simp only [Lz] at b0;have HST3:=Hz (nP (cx f) (l:=O.rt) (k:=k) 0 (by omega));have DX:=Hz (DMT.out (O.rt.getD k 0) (by rw [Ld,Le (by omega)];exact List.getElem_mem _));have HRL:=Hz hrl;clear hcl hfz hrl;generalize O.rt.getD k 0=x at *;go_wp2_with fail;refine ay (.free 0 (.free 1 (.free 2 (.free 4 (.free 6 (.pure 3 (.pure 5 (.run 7 (.free 8 (.run 9 (.swi [] (.fin)))))))))))) [9] (fun w'=>w'.cell? ⟨h.p,3,none⟩=some (.slice (some ⟨gr,og,none⟩) 12 rcap)∧w'.cell? ⟨b,0,none⟩=some (.pointer (some ⟨pc,0,none⟩))) (by kernel_rfl) (by kernel_rfl) ⟨q3,b0⟩ ?_
        iterate 7 ((first | refine au rfl rfl fun K hK=>?_ | refine aq rfl rfl fun K hK=>?_ | refine aF rfl rfl fun K hK=>?_ | refine az rfl rfl fun K hK=>?_ | refine aE rfl rfl fun K hK=>?_);go_simp;refine hK _ ?_;clear hK K)
        have ZD:=Hz (Z.out.same (Kz wr).drew);refine aM rfl rfl (fun K hK=>?_);unfold aC;go_simp;refine (lQ x ZD.out.J (fun hm=>by have:=DX.out hm;have:=HN.out;rw [FL.out];omega) (by rw [FL.out];omega)).mono ?_;rintro e w16 ⟨rfl,rfl⟩;refine hK _ _ (fun h=>h) ?_;clear hK K
        iterate 1 ((first | refine au rfl rfl fun K hK=>?_ | refine aq rfl rfl fun K hK=>?_);go_simp;refine hK _ ?_;clear hK K)
        refine aJ rfl rfl rfl (fun K hK=>?_);unfold aC;go_simp;refine hK _ _ ?_;clear hK K q3 pl b0 bl d0 hf' hgl;refine aH (fun _=>True) trivial (aB ?_);have Z2:=Hz ((Z.out.root (x:=cx f x) (by rw [HRO.out,HRL.out]) (by rw [HRL.out];exact hlt)).same (Kz (wr.setCell ⟨gr,og+k,none⟩ (.int .i64 (cx f x)))).drew);rw [HST3.out] at Z2;clear Z ZD;go_wp2_with fail;go_roundw
        case rel=>exact ⟨k+1,hlt,by go_num,Z2.out⟩
        case measure=>simp [intOf];omega
       ·obtain rfl:k=12:=by omega
        rw [←r12,pB] at Z;clear hlt hk;obtain ⟨ro6,rc6,rfl,-,-,-⟩:=Z.out.S.hr.rd;obtain ⟨qo6,qc6,rfl,-,-,-⟩:=Z.out.S.hw.rd;have v0:=Z.out.V.cell 0;have vl:=Z.out.V.lt;have s0:=Z.out.S.hp.cell 0;have s1':=Z.out.S.hp.cell 1;have sl:=Z.out.S.hp.lt;simp only [Lz,List.getElem?_cons_succ] at v0 s0 s1';have hrw:=HRW.out;go_wp2_with fail;refine ay (.free 10 (.pure 0 (.free 1 (.free 2 (.pure 3 (.pure 4 (.free 5 (.free 6 (.pure 7 (.run 8 (.swi [] (.free 9 (.fin))))))))))))) [8,9] (fun w'=>w'.cell? ⟨vb2,0,none⟩=some (.pointer (some ⟨sp,0,none⟩))∧w'.cell? ⟨sp,0,none⟩=some (.slice ro6 RG.length rc6)∧w'.cell? ⟨sp,1,none⟩=some (.slice qo6 WT.length qc6)) (by kernel_rfl) (by kernel_rfl) ⟨v0,s0,s1'⟩ ?_
        iterate 9 ((first | refine au rfl rfl fun K hK=>?_ | refine aq rfl rfl fun K hK=>?_ | refine aF rfl rfl fun K hK=>?_ | refine az rfl rfl fun K hK=>?_ | refine aE rfl rfl fun K hK=>?_);go_simp;refine hK _ ?_;clear hK K)
        refine aJ rfl rfl rfl (fun K hK=>?_);unfold aC;go_simp;refine hK _ _ ?_;clear hK K v0 vl s0 s1' sl;refine aH (fun _=>True) trivial ?_
        iterate 1 ((first | refine au rfl rfl fun K hK=>?_ | refine aq rfl rfl fun K hK=>?_);go_simp;refine hK _ ?_;clear hK K)
        refine aB ?_;have kq:ab (fun _=>False) wr (wr.alloc (.cells #[.slice ro6 RG.length rc6, .slice qo6 WT.length qc6] 131)).drew:=((Kz wr).alloc _).drew;have HQ:=Hz (show ah (wr.alloc (.cells #[.slice ro6 RG.length rc6, .slice qo6 WT.length qc6] 131)).drew wr.heap.size [.slice ro6 RG.length rc6, .slice qo6 WT.length qc6] 131 from (ah.newAt _ rfl rfl:ah (wr.alloc (.cells #[.slice ro6 RG.length rc6, .slice qo6 WT.length qc6] 131)) wr.heap.size _ _).drew);have ZQ:=Hz (Z.out.same kq);clear kq Z;generalize (wr.alloc (.cells #[.slice ro6 RG.length rc6, .slice qo6 WT.length qc6] 131)).drew=wq at *;generalize wr.heap.size=q2 at *;go_wp2_with fail;go_loopw [159] (fun u wr=>∃ k:Nat,u=.int .i64 k∧((k=0∧JZ w h O wr h.ps pc lb tb sv6 ev6 B0' O.cd (O.rt.map (cx f)) st f b vb2 sp (.slice ro6 RG.length rc6) (.slice qo6 WT.length qc6) RG WT lo lc L)∨(k=1∧JZ w h O wr h.ps pc lb tb sv6 ev6 B0' O.cd (O.rt.map (cx f)) st f b vb2 sp (.slice ro6 RG.length rc6) (.slice qo6 WT.length qc6) (RG.map (ct f)) WT lo lc L)∨(k=2∧JZ w h O wr h.ps pc lb tb sv6 ev6 B0' O.cd (O.rt.map (cx f)) st f b vb2 sp (.slice ro6 RG.length rc6) (.slice qo6 WT.length qc6) (RG.map (ct f)) (WT.map (ct f)) lo lc L))∧ah wr q2 [.slice ro6 RG.length rc6, .slice qo6 WT.length qc6] 131) (fun u _=>2-(intOf u).toNat)
        case atStart=>exact ⟨0,rfl, .inl ⟨rfl,ZQ.out⟩,HQ.out⟩
        case round=>
         clear ZQ HQ;obtain ⟨k,rfl,hcase,hQ⟩:=hrel;have HQ:=Hz hQ;have q0:=hQ.cell 0;have q1:=hQ.cell 1;have ql:=hQ.lt;simp only [Lz,List.getElem?_cons_succ] at q0 q1;clear hQ;rcases hcase with ⟨rfl,hZ⟩ | ⟨rfl,hZ⟩ | ⟨rfl,hZ⟩
         ·have Z:=Hz hZ;clear hZ;rw [show ((0:Nat):Int)=0 from rfl];go_wp2_with fail;go_loopw [165] (fun u wr=>∃ m:Nat,m≤RG.length∧u=.int .i64 m∧JZ w h O wr h.ps pc lb tb sv6 ev6 B0' O.cd (O.rt.map (cx f)) st f b vb2 sp (.slice ro6 RG.length rc6) (.slice qo6 WT.length qc6) (ez (ct f) RG m) WT lo lc L∧ah wr q2 [.slice ro6 RG.length rc6, .slice qo6 WT.length qc6] 131) (fun u _=>RG.length-(intOf u).toNat)
          case atStart=>exact ⟨0,Nat.zero_le _,rfl,by rw [nO];exact Z.out,HQ.out⟩
          case round=>
           clear Z HQ q0 q1 ql;obtain ⟨m,hm,rfl,hZ,hQ⟩:=hrel;have Z:=Hz hZ;have HQ:=Hz hQ;clear hZ hQ;by_cases hlt2:m<RG.length
           ·have hs:=Z.out.S.hr;rw [gd] at hs;have hown:∀ g o,ro6=some ⟨g,o,none⟩→a7 sp (.slice ro6 RG.length rc6) (.slice qo6 WT.length qc6) g:=fun g o e=>by subst e;exact .inr (.inl rfl)
            obtain ⟨_,_,e',rd,-,-⟩:=hs.rd;cases e';obtain ⟨ge,oe,ee,hgl,d0,d1⟩:=rd.il m (by rw [gd];exact hlt2);have HOWN:=Hz (hown ge oe ee);subst ee;rw [pC (ct f) (0,0) hlt2] at d0 d1;have DMX:=Hz (DMR.out (RG.getD m (0,0)) (by rw [Ld,Le hlt2];exact List.getElem_mem _));have STEP:=Hz (nP (ct f) (l:=RG) (k:=m) (0,0) hlt2);clear hs rd hown;generalize RG.getD m (0,0)=xe at *;obtain ⟨x1,x2⟩:=xe;have d0:wr.cell? ⟨ge,oe+m*2,none⟩=some (.int .i64 x1):=d0;have d1:wr.cell? ⟨ge,oe+m*2+1,none⟩=some (.int .i64 x2):=d1;go_upto_region 36 with fail
            have HEB:Hid (ah (wr.alloc (.cells #[.int .i64 x1, .int .i64 x2] 101)) wr.heap.size [.int .i64 x1, .int .i64 x2] 101):=ah.newAt _ rfl rfl;have kA:=(Kz wr).alloc (.cells #[.int .i64 x1, .int .i64 x2] 101);have ZA:=Hz (Z.out.same kA);have QA:=Hz (kA.ak HQ.out (fun h=>h));clear kA Z HQ d0 d1 hgl;generalize wr.alloc (.cells #[.int .i64 x1, .int .i64 x2] 101)=wA at *;generalize wr.heap.size=eb at *;have b0:=ZA.out.B.cell 0;have bl:=ZA.out.B.lt;have e0:=HEB.out.cell 0;have e1:=HEB.out.cell 1;have el:=HEB.out.lt;simp only [Lz,List.getElem?_cons_succ] at b0 e0 e1;refine ay (.free 0 (.free 1 (.free 3 (.free 7 (.pure 2 (.pure 4 (.pure 6 (.pure 8 (.run 5 (.run 9 (.swi [12] (.free 10 (.free 11 (.run 12 (.swi [] (.fin)))))))))))))))) [9,10,11,12] (fun w'=>w'.cell? ⟨b,0,none⟩=some (.pointer (some ⟨pc,0,none⟩))∧w'.cell? ⟨eb,0,none⟩=some (.int .i64 x1)∧w'.cell? ⟨eb,1,none⟩=some (.int .i64 x2)) (by kernel_rfl) (by kernel_rfl) ⟨b0,e0,e1⟩ ?_
            iterate 8 ((first | refine au rfl rfl fun K hK=>?_ | refine aq rfl rfl fun K hK=>?_ | refine aF rfl rfl fun K hK=>?_ | refine az rfl rfl fun K hK=>?_ | refine aE rfl rfl fun K hK=>?_);go_simp;refine hK _ ?_;clear hK K)
            have ZD:=Hz (ZA.out.same (Kz wA).drew);have QD:=Hz ((Kz wA).drew.ak QA.out (fun h=>h));refine aM rfl rfl (fun K hK=>?_);unfold aC;go_simp;refine (lQ x1 ZD.out.J (fun hm=>by have:=DMX.out.1 hm;have:=HN.out;rw [FL.out];omega) (by rw [FL.out];omega)).mono ?_;rintro e w16 ⟨rfl,rfl⟩;refine hK _ _ (fun h=>h) ?_;clear hK K;refine aJ rfl rfl rfl (fun K hK=>?_);unfold aC;go_simp;refine (lQ x2 ZD.out.J (fun hm=>by have:=DMX.out.2 hm;have:=HN.out;rw [FL.out];omega) (by rw [FL.out];omega)).mono ?_;rintro e w16 ⟨rfl,rfl⟩;refine hK _ _ ?_;clear hK K b0 bl e0 e1 el HEB;refine aH (fun _=>True) trivial ?_;have hlm:(m:Int)<RG.length:=by omega
            iterate 2 ((first | refine au rfl rfl fun K hK=>?_ | refine aq rfl rfl fun K hK=>?_);go_simp;refine hK _ ?_;clear hK K)
            refine aJ rfl rfl rfl (fun K hK=>?_);refine cr 101 (.tmp 181) (.tmp 180) rfl rfl ge oe RG.length rc6 m (aA (ez (ct f) RG m)) 101 (.int .i64 (cx f x1)) (.int .i64 (cx f x2)) rfl rfl (by have hs:=ZD.out.S.hr;rw [gd] at hs;exact hs) hlt2 (by kernel_rfl) rfl rfl ?_;intro w17 hs3 hk3 hz3;refine hK _ _ ?_;clear hK K;refine aH (fun _=>True) trivial (aB ?_);have ES:=Hz (iV (ez (ct f) RG m) m (cx f x1,cx f x2));obtain ⟨cge,hbge⟩:∃ c,ah wA.drew ge c 101:=by
             have hs:=ZD.out.S.hr;obtain ⟨_,c,hb⟩:=hs.own (k:=ge) rfl;exact ⟨c,hb⟩
            have hne:∀ {bb:Nat} {c:List Value} {U:TypeId},ah wA.drew bb c U→U≠101→¬ bb=ge:=fun hb hU=>hb.ne hbge hU;have hs3':Sl w17 101 2 (.slice (some ⟨ge,oe,none⟩) RG.length rc6) (ez (ct f) RG (m+1)).length (aA (ez (ct f) RG (m+1))):=by
             rw [gd,←STEP.out]
             show Sl w17 _ 2 _ _ (aA ((ez (ct f) RG m).set m (cx f x1,cx f x2)))
             rw [ES.out];exact hs3
            have Z17:=Hz (ZD.out.side HOWN.out hbge hk3 ⟨hk3.ak ZD.out.S.hp (hne ZD.out.S.hp (by decide)),hs3',ZD.out.S.hw.ae hk3 (fun bb hb e=>ZD.out.S.ap bb ⟨e ▸ rfl,hb⟩),ZD.out.S.ap⟩);have Q17:=Hz (hk3.ak QD.out (hne QD.out (by decide)));clear hs3 hk3 hz3 ES hbge hne hs3' ZA QA ZD QD;go_wp2_with fail;go_roundw
            case rel=>exact ⟨m+1,hlt2,by go_num,Z17.out,Q17.out⟩
            case measure=>simp [intOf];omega
           ·obtain rfl:m=RG.length:=by omega
            rw [pB] at Z;go_wp2_with fail;go_roundw
            case rel=>exact ⟨1,by go_num, .inr (.inl ⟨rfl,Z.out⟩),HQ.out⟩
            case measure=>decide
         ·have Z:=Hz hZ;clear hZ;rw [show ((1:Nat):Int)=1 from rfl];go_wp2_with fail;go_loopw [165] (fun u wr=>∃ m:Nat,m≤WT.length∧u=.int .i64 m∧JZ w h O wr h.ps pc lb tb sv6 ev6 B0' O.cd (O.rt.map (cx f)) st f b vb2 sp (.slice ro6 RG.length rc6) (.slice qo6 WT.length qc6) (RG.map (ct f)) (ez (ct f) WT m) lo lc L∧ah wr q2 [.slice ro6 RG.length rc6, .slice qo6 WT.length qc6] 131) (fun u _=>WT.length-(intOf u).toNat)
          case atStart=>exact ⟨0,Nat.zero_le _,rfl,by rw [nO];exact Z.out,HQ.out⟩
          case round=>
           clear Z HQ q0 q1 ql;obtain ⟨m,hm,rfl,hZ,hQ⟩:=hrel;have Z:=Hz hZ;have HQ:=Hz hQ;clear hZ hQ;by_cases hlt2:m<WT.length
           ·have hs:=Z.out.S.hw;rw [gd] at hs;have hown:∀ g o,qo6=some ⟨g,o,none⟩→a7 sp (.slice ro6 RG.length rc6) (.slice qo6 WT.length qc6) g:=fun g o e=>by subst e;exact .inr (.inr rfl)
            obtain ⟨_,_,e',rd,-,-⟩:=hs.rd;cases e';obtain ⟨ge,oe,ee,hgl,d0,d1⟩:=rd.il m (by rw [gd];exact hlt2);have HOWN:=Hz (hown ge oe ee);subst ee;rw [pC (ct f) (0,0) hlt2] at d0 d1;have DMX:=Hz (DMW.out (WT.getD m (0,0)) (by rw [Ld,Le hlt2];exact List.getElem_mem _));have STEP:=Hz (nP (ct f) (l:=WT) (k:=m) (0,0) hlt2);clear hs rd hown;generalize WT.getD m (0,0)=xe at *;obtain ⟨x1,x2⟩:=xe;have d0:wr.cell? ⟨ge,oe+m*2,none⟩=some (.int .i64 x1):=d0;have d1:wr.cell? ⟨ge,oe+m*2+1,none⟩=some (.int .i64 x2):=d1;go_upto_region 36 with fail
            have HEB:Hid (ah (wr.alloc (.cells #[.int .i64 x1, .int .i64 x2] 101)) wr.heap.size [.int .i64 x1, .int .i64 x2] 101):=ah.newAt _ rfl rfl;have kA:=(Kz wr).alloc (.cells #[.int .i64 x1, .int .i64 x2] 101);have ZA:=Hz (Z.out.same kA);have QA:=Hz (kA.ak HQ.out (fun h=>h));clear kA Z HQ d0 d1 hgl;generalize wr.alloc (.cells #[.int .i64 x1, .int .i64 x2] 101)=wA at *;generalize wr.heap.size=eb at *;have b0:=ZA.out.B.cell 0;have bl:=ZA.out.B.lt;have e0:=HEB.out.cell 0;have e1:=HEB.out.cell 1;have el:=HEB.out.lt;simp only [Lz,List.getElem?_cons_succ] at b0 e0 e1;refine ay (.free 0 (.free 1 (.free 3 (.free 7 (.pure 2 (.pure 4 (.pure 6 (.pure 8 (.run 5 (.run 9 (.swi [12] (.free 10 (.free 11 (.run 12 (.swi [] (.fin)))))))))))))))) [9,10,11,12] (fun w'=>w'.cell? ⟨b,0,none⟩=some (.pointer (some ⟨pc,0,none⟩))∧w'.cell? ⟨eb,0,none⟩=some (.int .i64 x1)∧w'.cell? ⟨eb,1,none⟩=some (.int .i64 x2)) (by kernel_rfl) (by kernel_rfl) ⟨b0,e0,e1⟩ ?_
            iterate 8 ((first | refine au rfl rfl fun K hK=>?_ | refine aq rfl rfl fun K hK=>?_ | refine aF rfl rfl fun K hK=>?_ | refine az rfl rfl fun K hK=>?_ | refine aE rfl rfl fun K hK=>?_);go_simp;refine hK _ ?_;clear hK K)
            have ZD:=Hz (ZA.out.same (Kz wA).drew);have QD:=Hz ((Kz wA).drew.ak QA.out (fun h=>h));refine aM rfl rfl (fun K hK=>?_);unfold aC;go_simp;refine (lQ x1 ZD.out.J (fun hm=>by have:=DMX.out.1 hm;have:=HN.out;rw [FL.out];omega) (by rw [FL.out];omega)).mono ?_;rintro e w16 ⟨rfl,rfl⟩;refine hK _ _ (fun h=>h) ?_;clear hK K;refine aJ rfl rfl rfl (fun K hK=>?_);unfold aC;go_simp;refine (lQ x2 ZD.out.J (fun hm=>by have:=DMX.out.2 hm;have:=HN.out;rw [FL.out];omega) (by rw [FL.out];omega)).mono ?_;rintro e w16 ⟨rfl,rfl⟩;refine hK _ _ ?_;clear hK K b0 bl e0 e1 el HEB;refine aH (fun _=>True) trivial ?_;have hlm:(m:Int)<WT.length:=by omega
            iterate 2 ((first | refine au rfl rfl fun K hK=>?_ | refine aq rfl rfl fun K hK=>?_);go_simp;refine hK _ ?_;clear hK K)
            refine aJ rfl rfl rfl (fun K hK=>?_);refine cr 101 (.tmp 181) (.tmp 180) rfl rfl ge oe WT.length qc6 m (aA (ez (ct f) WT m)) 101 (.int .i64 (cx f x1)) (.int .i64 (cx f x2)) rfl rfl (by have hs:=ZD.out.S.hw;rw [gd] at hs;exact hs) hlt2 (by kernel_rfl) rfl rfl ?_;intro w17 hs3 hk3 hz3;refine hK _ _ ?_;clear hK K;refine aH (fun _=>True) trivial (aB ?_);have ES:=Hz (iV (ez (ct f) WT m) m (cx f x1,cx f x2));obtain ⟨cge,hbge⟩:∃ c,ah wA.drew ge c 101:=by
             have hs:=ZD.out.S.hw;obtain ⟨_,c,hb⟩:=hs.own (k:=ge) rfl;exact ⟨c,hb⟩
            have hne:∀ {bb:Nat} {c:List Value} {U:TypeId},ah wA.drew bb c U→U≠101→¬ bb=ge:=fun hb hU=>hb.ne hbge hU;have hs3':Sl w17 101 2 (.slice (some ⟨ge,oe,none⟩) WT.length qc6) (ez (ct f) WT (m+1)).length (aA (ez (ct f) WT (m+1))):=by
             rw [gd,←STEP.out]
             show Sl w17 _ 2 _ _ (aA ((ez (ct f) WT m).set m (cx f x1,cx f x2)))
             rw [ES.out];exact hs3
            have Z17:=Hz (ZD.out.side HOWN.out hbge hk3 ⟨hk3.ak ZD.out.S.hp (hne ZD.out.S.hp (by decide)),ZD.out.S.hr.ae hk3 (fun bb hb e=>ZD.out.S.ap bb ⟨hb,e ▸ rfl⟩),hs3',ZD.out.S.ap⟩);have Q17:=Hz (hk3.ak QD.out (hne QD.out (by decide)));clear hs3 hk3 hz3 ES hbge hne hs3' ZA QA ZD QD;go_wp2_with fail;go_roundw
            case rel=>exact ⟨m+1,hlt2,by go_num,Z17.out,Q17.out⟩
            case measure=>simp [intOf];omega
           ·obtain rfl:m=WT.length:=by omega
            rw [pB] at Z;go_wp2_with fail;go_roundw
            case rel=>exact ⟨2,by go_num, .inr (.inr ⟨rfl,Z.out⟩),HQ.out⟩
            case measure=>decide
         ·have Z:=Hz hZ;clear hZ q0 q1 ql HQ;rw [show ((2:Nat):Int)=2 from rfl];obtain ⟨wd,rfl⟩:∃ x:World,x=wr:=⟨wr,rfl⟩;have v0:=Z.out.V.cell 0;have vl:=Z.out.V.lt;obtain ⟨-,-,p2,-,pl,pf⟩:=Z.out.cells;simp only [Lz] at v0;have Z3:=Hz Z.out.take;clear Z;go_upto_region 40 with fail
          clear v0 vl p2 pl pf;generalize wd.setCell ⟨h.p,2,none⟩ (.pointer (some ⟨sp,0,none⟩))=we at *;have hll:=LLN.out;go_wp2_with fail;go_loopw [190] (fun u wr=>∃ k:Nat,k≤L.length∧u=.int .i64 k∧JZ w h O wr sp pc lb tb sv6 ev6 ((L.take k).foldl (bA f) B0') O.cd (O.rt.map (cx f)) st f b vb2 sp (.slice ro6 RG.length rc6) (.slice qo6 WT.length qc6) (RG.map (ct f)) (WT.map (ct f)) lo lc L) (fun u _=>L.length-(intOf u).toNat)
          case atStart=>exact ⟨0,Nat.zero_le _,rfl,Z3.out⟩
          case round=>
           clear Z3;obtain ⟨k,hk,rfl,hZ⟩:=hrel;have Z:=Hz hZ;clear hZ;by_cases hlt:k<L.length
           ·obtain ⟨_,_,e',rd,-,-⟩:=Z.out.L.rd;cases e';obtain ⟨gl,ol,rfl,d0⟩:=rd.int k hlt;have hgl:=(Z.out.L.own (k:=gl) rfl).1;obtain ⟨aok,sJ,i0,i1,y0,y1⟩:=HSL.out k hlt _ _ rfl rfl;have FT:=Hz (qC (g:=bA f) B0' hlt);have IN2:=HIN2.out (L.getD k 0) (by rw [Ld,Le hlt];exact List.getElem_mem _);obtain ⟨Ak,hAk⟩:∃ A,(L.take k).foldl (bA f) B0'=A:=⟨_,rfl⟩;rw [hAk] at Z aok sJ i1 y1 FT;clear hAk rd;generalize L.getD k 0=i at *;obtain ⟨i,rfl⟩:=Int.eq_ofNat_of_zero_le i0;unfold dW at y0 y1;rw [Int.toNat_natCast] at y0 y1;have FTE:=Hz (show bA f Ak (i:Int)={ Ak with ws:=lay Ak.ws (f.getD i 0).toNat ((Ak.ws.drop i).take (1+(Ak.aj (i:Int)).2.1).toNat) } by unfold bA;rw [Int.toNat_natCast]);have t0:=Z.out.J.toCell (i:=i) (by have:=LV.out;have:=FL.out;omega);generalize f.getD i 0=y at *;obtain ⟨y,rfl⟩:=Int.eq_ofNat_of_zero_le y0;rw [Int.toNat_natCast] at FTE;have HTG:=Hz (gz i wr Z.out.J.ha);have hb:=Ak.aU i;obtain ⟨⟨kk,nn,cd9⟩,hT9⟩:∃ t,Ak.aj (i:Int)=t:=⟨_,rfl⟩;rw [hT9] at HTG hb i1 y1 FTE;dsimp only at HTG hb i1 y1 FTE;clear hT9;obtain ⟨m,rfl⟩:=Int.eq_ofNat_of_zero_le hb.1;have hw9:IntKind.i64.wrap (1+(m:Int))=((1+m:Nat):Int):=by rw [IntWalk.i64_in _ (by omega)];omega
            have hw8:IntKind.i64.wrap (1+(m:Int))=1+(m:Int):=IntWalk.i64_in _ (by omega);have hty:((1:Int)+(m:Int)).toNat=1+m:=by omega
            rw [hty] at FTE;have MV:=Hz (show ∀ wx,bE wx h.pa h.g Ak→Calls Tryz.prog 80 #[.pointer (some ⟨h.pa,0,none⟩), .int .i64 y, .int .i64 i, .int .i64 (1+(m:Int))] wx fun e w'=>e=.returned (.tuple #[])∧a5 wx h.pa h.g w' (Ak.move y i (1+m)) from fun wx hx=>by
             have:=AQ y i (1+m) wx hx (by omega) (by omega) (by omega) (by omega);rw [show ((1+m:Nat):Int)=1+(m:Int) by omega] at this
             exact this)
            have MVE:=Hz (show Ak.move y i (1+m)=bA f Ak (i:Int) from FTE.out.symm);have c2:=Z.out.J.cells.2.2.1;have cl:=Z.out.J.hc.lt;have tl:=Z.out.J.ht.lt;rw [FL.out] at c2;dsimp only at c2 t0;have b0:=Z.out.B.cell 0;have bl:=Z.out.B.lt;simp only [Lz] at b0;have p0:=Z.out.cells.1;have pl:=Z.out.cells.2.2.2.2.1;have hin:(i:Int)<n:=by have:=LV.out;omega
            clear IN2 aok hw9 hty i0 i1 y0 y1 sJ hb;go_wp2_with fail;refine HTG.out.mono ?_;rintro e w18 ⟨rfl,rfl⟩;go_wp2_with fail;refine ay (.free 0 (.free 1 (.free 2 (.free 8 (.free 11 (.free 12 (.free 13 (.pure 3 (.pure 4 (.free 5 (.free 6 (.pure 7 (.free 9 (.pure 10 (.run 14 (.swi [] (.fin))))))))))))))))) [14] (fun w'=>w'.cell? ⟨h.p,0,none⟩=some (.pointer (some ⟨h.pa,0,none⟩))∧w'.cell? ⟨b,0,none⟩=some (.pointer (some ⟨pc,0,none⟩))∧w'.cell? ⟨pc,2,none⟩=some (.slice (some ⟨tb,0,none⟩) n n)∧w'.cell? ⟨tb,i,none⟩=some (.int .i64 y)) (by kernel_rfl) (by kernel_rfl) ⟨p0,b0,c2,t0⟩ ?_
            iterate 14 ((first | refine au rfl rfl fun K hK=>?_ | refine aq rfl rfl fun K hK=>?_ | refine aF rfl rfl fun K hK=>?_ | refine az rfl rfl fun K hK=>?_ | refine aE rfl rfl fun K hK=>?_);go_simp;refine hK _ ?_;clear hK K)
            refine aJ rfl rfl rfl (fun K hK=>?_);unfold aC;go_simp;refine (MV.out _ (Z.out.same (Kz wr).drew).J.ha).mono ?_;rintro e w19 ⟨rfl,t⟩;rw [MVE.out] at t;have Z2:=Hz ((Z.out.same (Kz wr).drew).bZ t);refine hK _ _ ?_;clear hK K t p0 pl b0 bl c2 cl tl t0 d0 hgl MV MVE HTG FTE Z;refine aH (fun _=>True) trivial (aB ?_);go_wp2_with fail;go_roundw
            case rel=>exact ⟨k+1,hlt,by go_num,by rw [FT.out];exact Z2.out⟩
            case measure=>simp [intOf];omega
           ·obtain rfl:k=L.length:=by omega
            rw [List.take_length,←HSD.out] at Z;obtain ⟨na,hna⟩:=Int.eq_ofNat_of_zero_le ab0;have E2:=Hz (show (dL O).2=⟨((jm O).cut na).clear,List.replicate O.cd.length false,O.rt.map (cx f),RG.map (ct f),WT.map (ct f)⟩ by
             rw [HE.out,hna]
             show Wo.mk _ _ _ _ _=_
             rw [Int.toNat_natCast,List.map_const'])
            have E1:=Hz (show (dL O).1=0 by rw [HE.out]);have hok2:=OK2.out;have hnur:=HNUR.out;rw [E2.out] at hok2 hnur;have HCN:=Hz (show (jm O).nur+na≤(jm O).ws.length from hok2.ha.h3);have HOK2:=Hz hok2;have HNR:=Hz hnur;clear hok2 hnur hlt hk HE OK2 HNUR HSD HSL;rw [hna];clear hna ab0 ab1;have p0:=Z.out.cells.1;have pl:=Z.out.cells.2.2.2.2.1;go_wp2_with fail;refine (AM na _ Z.out.J.ha HCN.out).mono ?_;rintro e w20 ⟨rfl,t⟩;have Z4:=Hz (Z.out.bZ t);clear t p0 pl Z;have p0:=Z4.out.cells.1;have pl:=Z4.out.cells.2.2.2.2.1;go_wp2_with fail;refine (r8 _ Z4.out.J.ha).mono ?_;rintro e w21 ⟨rfl,t⟩;have Z5:=Hz (Z4.out.bZ t);clear t p0 pl Z4;have p1:=Z5.out.cells.2.1;have pl:=Z5.out.cells.2.2.2.2.1;go_wp2_with fail;refine (uu h.pc h.cb O.ar.nur O.cd w21 Z5.out.hc).mono ?_;rintro e w22 ⟨rfl,hc,hk⟩;have Z6:=Hz (Z5.out.cards CBL.out hc hk);clear hc hk p1 pl Z5;go_wp2_with fail;go_ret;refine ⟨by rw [E1.out];rfl,?_⟩;rw [E2.out];exact Z6.out.done HNR.out HOK2.out
end
end
end Go.Proofs.YtjifdalflepcoacGreat
