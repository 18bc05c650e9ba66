/-
  Parts of the proof, merged: what the functions do, and plain laws.
-/
import Derived.Test.YtjifdalflepcoadGreatTRPP6
import Derived.Test.YtjifdalflepcoadGreatTRPP7
set_option maxHeartbeats 16000000
set_option maxRecDepth 100000
set_option linter.unusedVariables false
set_option linter.unusedSimpArgs false
namespace Go.Proofs.YtjifdalflepcoadGreat
section
open Go.RowKit
theorem rJ {α:Type} {g:α->Int->α} {l:List Int} {k:Nat} (a:α) (h:k<l.length):(l.take (k+1)).foldl g a=g ((l.take k).foldl g a) (l.getD k 0):=by
 rw [<-List.take_append_getElem h,List.foldl_append,Ld,Le h];rfl
def eU {α:Type} (g:α->α) (l:List α) (k:Nat):List α:=(l.take k).map g ++ l.drop k
theorem gJ {α:Type} (g:α->α) (l:List α) (k:Nat):(eU g l k).length=l.length:=by
 unfold eU;rw [Zq,Zp,Zx,List.length_drop];omega
theorem oZ {α:Type} (g:α->α) (l:List α):eU g l 0=l:=by simp [eU]
theorem qy {α:Type} (g:α->α) (l:List α):eU g l l.length=l.map g:=by simp [eU]
theorem qz {α:Type} (g:α->α) {l:List α} {k:Nat} (d:α) (h:k<l.length):(eU g l k).getD k d=l.getD k d:=by
 unfold eU;have hl:((l.take k).map g).length=k:=by rw [Zp,Zx];omega
 rw [Ld,List.getElem?_append_right (by omega),hl,Nat.sub_self,List.getElem?_drop,Nat.add_zero,Ld]
theorem o0 {α:Type} (g:α->α) {l:List α} {k:Nat} (d:α) (h:k<l.length):(eU g l k).set k (g (l.getD k d))=eU g l (k+1):=by
 unfold eU;have hl:((l.take k).map g).length=k:=by rw [Zp,Zx];omega
 rw [List.set_append_right _ _ (by omega),hl,Nat.sub_self,List.drop_eq_getElem_cons h,Zu,List.take_add_one,Le h,List.map_append,List.append_assoc,Ld,Le h]
 rfl
def kE (w0:World) (h:WH) (F:Nat->Prop):Prop:=∀ k,F k->(k=h.p\/k=h.pa\/k=h.g)\/w0.heap.size<=k
def WH.Dk (h:WH) (k:Nat):Prop:=k=h.pc\/k=h.cb\/aG h.ps h.rv h.wv k\/aq h.ro k
section
variable {w0 w w':World} {h:WH} {O:Wo} {F:Nat->Prop}
theorem bh.Dl (H:bh w0 h O) {k:Nat} (hk:h.Dk k):k<w0.heap.size/\k≠h.p/\k≠h.pa/\k≠h.g:=by
 have ne:∀ {l:List Value} {T:TypeId},ak w0 k l T->T≠75->T≠162->T≠2->k<w0.heap.size/\k≠h.p/\k≠h.pa/\k≠h.g:=λhb h1 h2 h3=>⟨hb.lt,hb.ne H.hp h1,hb.ne H.ha.hp h2,hb.ne H.ha.hg h3⟩;rcases hk with rfl | rfl | hk | hk
 ·exact ne H.hc.hp (by decide) (by decide) (by decide)
 ·exact ne H.hc.hq (by decide) (by decide) (by decide)
 ·obtain ⟨_,U,h',hU⟩:=H.hs.cM hk;rcases hU with rfl | rfl
  ·exact ne h' (by decide) (by decide) (by decide)
  ·exact ne h' (by decide) (by decide) (by decide)
 ·obtain ⟨hl,l,hb⟩:=H.hr.own hk;exact ⟨hl,hb.ne H.hp (by decide),hb.ne H.ha.hp (by decide),λe=>H.ap (e ▸ hk)⟩
theorem bh.nT (H:bh w0 h O) (hF:kE w0 h F) {k:Nat} (hk:h.Dk k):¬ F k:=λhf=>by
 have:=H.Dl hk;have:=hF k hf;omega
theorem kE.mono {G:Nat->Prop} (hF:kE w0 h F) (hg:∀ k,G k->F k\/w0.heap.size<=k):kE w0 h G:=λk hk=>by
 rcases hg k hk with h1 | h1
 ·exact hF k h1
 ·exact .inr h1
theorem kE.or {G:Nat->Prop} (hF:kE w0 h F) (hG:kE w0 h G):kE w0 h (λk=>F k\/G k):=λk hk=>hk.elim (hF k) (hG k)
structure JM (w0:World) (h:WH) (O:Wo) (w:World) (pc lb tb:Nat) (sv ev:Value) (A:Ar) (rt:List Int) (s:Gs) (f:List Int):Prop where
 J:cA w ⟨h.p,h.pa,h.g,h.pc,h.ps,h.ro,pc,lb,tb⟩ sv ev A s f
 hc:cU w h.pc h.cb O.ar.nur O.cd
 hs:a7 w h.ps h.rv h.wv O.rg O.wt
 hr:Sl w 2 1 h.ro rt.length (rt.map (Value.int .i64))
 K:aa h.Own w0 w
 own:kE w0 h (JH.Own ⟨h.p,h.pa,h.g,h.pc,h.ps,h.ro,pc,lb,tb⟩ sv ev)
variable {pc lb tb:Nat} {sv ev sv' ev':Value} {A A':Ar} {rt:List Int} {s s':Gs} {f f':List Int}
theorem JM.ab (M:JM w0 h O w pc lb tb sv ev A rt s f) (H:bh w0 h O) (k:aa F w w') (hF:kE w0 h F) (J':cA w' ⟨h.p,h.pa,h.g,h.pc,h.ps,h.ro,pc,lb,tb⟩ sv' ev' A' s' f') (own':kE w0 h (JH.Own ⟨h.p,h.pa,h.g,h.pc,h.ps,h.ro,pc,lb,tb⟩ sv' ev')) :
  JM w0 h O w' pc lb tb sv' ev' A' rt s' f':=by
 refine ⟨J',M.hc.ab k (H.nT hF (.inl rfl)) (H.nT hF (.inr (.inl rfl))),M.hs.ab k (λb hb=>H.nT hF (.inr (.inr (.inl hb)))),M.hr.ab k (λb hb=>H.nT hF (.inr (.inr (.inr hb)))),M.K.then k (λk hk=>?_),own'⟩;rcases hF k hk with (h1 | h1 | h1) | h1
 ·exact .inl (.inl h1)
 ·exact .inl (.inr (.inl (.inl h1)))
 ·exact .inl (.inr (.inl (.inr h1)))
 ·exact .inr h1
theorem JM.same (M:JM w0 h O w pc lb tb sv ev A rt s f) (H:bh w0 h O) (k:aa (λ_=>False) w w'):JM w0 h O w' pc lb tb sv ev A rt s f:=
 M.ab H k (λ_ h=>h.elim) (M.J.same k) M.own
theorem JM.EB (M:JM w0 h O w pc lb tb sv ev A rt s f) (H:bh w0 h O) (t:mL w ⟨h.p,h.pa,h.g,h.pc,h.ps,h.ro,pc,lb,tb⟩ sv ev A' s' f' w') :
  ∃ sv',JM w0 h O w' pc lb tb sv' ev A' rt s' f':=by
 obtain ⟨sv',J',k,o⟩:=t;exact ⟨sv',M.ab H k M.own J' (M.own.mono (λk hk=>(o k hk).imp id (λh=>Za M.K.size h)))⟩
theorem JM.cells (M:JM w0 h O w pc lb tb sv ev A rt s f):w.cell? ⟨h.p,0,none⟩=some (.pointer (some ⟨h.pa,0,none⟩))/\w.cell? ⟨h.p,1,none⟩=some (.pointer (some ⟨h.pc,0,none⟩))/\w.cell? ⟨h.p,2,none⟩=some (.pointer (some ⟨h.ps,0,none⟩))/\w.cell? ⟨h.p,3,none⟩=some h.ro/\h.p<w.heap.size:=
 ⟨M.J.hp.cell 0,M.J.hp.cell 1,M.J.hp.cell 2,M.J.hp.cell 3,M.J.hp.lt⟩
theorem JM.gz (M:JM w0 h O w pc lb tb sv ev A rt s f) (h12:rt.length=12):∃ g o cap,h.ro=.slice (some ⟨g,o,none⟩) 12 cap/\g<w.heap.size/\(∀ k,w.frozen? ⟨g,k,none⟩=false)/\∀ k,k<rt.length->w.cell? ⟨g,o+k,none⟩=some (.int .i64 (rt.getD k 0)):=by
 obtain ⟨ao,cap,e,hrd,-,-⟩:=M.hr.rd;obtain ⟨g,o,rfl,hg,hc⟩:=hrd (by intro e;have:=congrArg List.length e;rw [Zp,h12] at this;cases this);have hown:aq h.ro g:=by rw [e];rfl
 obtain ⟨-,cur,hb⟩:=M.hr.own hown;refine ⟨g,o,cap,by rw [e,h12],hg,λk=>hb.free k,λk hk=>?_⟩;rw [hc k (by simpa using hk)];simp [List.getD,hk]
theorem JM.var (M:JM w0 h O w pc lb tb sv ev A rt s f) {b:Nat} {l:List Value} {T:TypeId} (hb:ak w b l T) (hT:T=138\/T=72):¬ JH.Own ⟨h.p,h.pa,h.g,h.pc,h.ps,h.ro,pc,lb,tb⟩ sv ev b:=λhk=>by
 obtain ⟨_,U,h',hU⟩:=M.J.bE hk;refine hb.ne h' ?_ rfl;rcases hT with rfl | rfl <;> rcases hU with rfl | rfl | rfl | rfl | rfl | rfl <;> decide
structure JZ (w0:World) (h:WH) (O:Wo) (w:World) (ps pc lb tb:Nat) (sv ev:Value) (A:Ar) (cd:List Bool) (rt:List Int) (s:Gs) (f:List Int) (b vb sp:Nat) (rv qv:Value) (rg wt:List (Int × Int)) (lo:Option Addr) (lc:Nat) (L:List Int):Prop where
 J:cA w ⟨h.p,h.pa,h.g,h.pc,ps,h.ro,pc,lb,tb⟩ sv ev A s f
 hc:cU w h.pc h.cb O.ar.nur cd
 hr:Sl w 2 1 h.ro rt.length (rt.map (Value.int .i64))
 K:aa h.Own w0 w
 S:a7 w sp rv qv rg wt
 so:kE w0 h (aG sp rv qv)
 B:ak w b [.pointer (some ⟨pc,0,none⟩)] 138
 V:ak w vb [.pointer (some ⟨sp,0,none⟩)] 72
 L:Sl w 3 1 (.slice lo L.length lc) L.length (L.map (Value.int .i64))
 ap:¬ aq h.ro h.g
section
variable {ps b vb sp:Nat} {rv qv:Value} {cd:List Bool} {rg wt:List (Int × Int)} {lo:Option Addr} {lc:Nat} {L:List Int}
theorem JZ.ab (Z:JZ w0 h O w ps pc lb tb sv ev A cd rt s f b vb sp rv qv rg wt lo lc L) (k:aa F w w') (hF:kE w0 h F) (hK:∀ k,F k->h.Own k\/w0.heap.size<=k) (J':cA w' ⟨h.p,h.pa,h.g,h.pc,ps,h.ro,pc,lb,tb⟩ sv ev A' s f)
  (ty:∀ {k c} {U:TypeId},ak w k c U->(U=171\/U=4\/U=2/\k≠h.g\/U=84\/U=119\/U=138\/U=72\/U=3)->¬ F k) :
  JZ w0 h O w' ps pc lb tb sv ev A' cd rt s f b vb sp rv qv rg wt lo lc L:=by
 refine ⟨J',Z.hc.ab k (ty Z.hc.hp (.inl rfl)) (ty Z.hc.hq (.inr (.inl rfl))),Z.hr.ab k (λb hb=>?_),Z.K.then k (λk hk=>hK k hk),Z.S.ab k (λb hb=>?_),Z.so,k.au Z.B (ty Z.B (.inr (.inr (.inr (.inr (.inr (.inl rfl))))))),k.au Z.V (ty Z.V (.inr (.inr (.inr (.inr (.inr (.inr (.inl rfl)))))))),Z.L.ab k (λb hb=>?_),Z.ap⟩
 ·obtain ⟨_,l,hb'⟩:=Z.hr.own hb;exact ty hb' (.inr (.inr (.inl ⟨rfl,λe=>Z.ap (e ▸ hb)⟩)))
 ·obtain ⟨_,U,h',hU⟩:=Z.S.cM hb;rcases hU with rfl | rfl
  ·exact ty h' (.inr (.inr (.inr (.inl rfl))))
  ·exact ty h' (.inr (.inr (.inr (.inr (.inl rfl)))))
 ·obtain ⟨_,l,hb'⟩:=Z.L.own hb;exact ty hb' (.inr (.inr (.inr (.inr (.inr (.inr (.inr rfl)))))))
theorem JZ.same (Z:JZ w0 h O w ps pc lb tb sv ev A cd rt s f b vb sp rv qv rg wt lo lc L) (k:aa (λ_=>False) w w'):JZ w0 h O w' ps pc lb tb sv ev A cd rt s f b vb sp rv qv rg wt lo lc L:=
 Z.ab k (λ_ h=>h.elim) (λ_ h=>h.elim) (Z.J.same k) (λ_ _ h=>h)
theorem JZ.bZ (Z:JZ w0 h O w ps pc lb tb sv ev A cd rt s f b vb sp rv qv rg wt lo lc L) (t:aU w h.pa h.g w' A'):JZ w0 h O w' ps pc lb tb sv ev A' cd rt s f b vb sp rv qv rg wt lo lc L:=by
 refine Z.ab t.k (λk hk=>.inl (.inr hk)) (λk hk=>.inl (.inr (.inl hk))) (Z.J.bZ t) (λ{k c U} hb hU e=>?_);rcases e with e | e
 ·refine hb.ne Z.J.ha.hp ?_ e;rcases hU with rfl | rfl | ⟨rfl,_⟩ | rfl | rfl | rfl | rfl | rfl <;> decide
 ·rcases hU with rfl | rfl | ⟨rfl,hg⟩ | rfl | rfl | rfl | rfl | rfl
  ·exact hb.ne Z.J.ha.hg (by decide) e
  ·exact hb.ne Z.J.ha.hg (by decide) e
  ·exact hg e
  ·exact hb.ne Z.J.ha.hg (by decide) e
  ·exact hb.ne Z.J.ha.hg (by decide) e
  ·exact hb.ne Z.J.ha.hg (by decide) e
  ·exact hb.ne Z.J.ha.hg (by decide) e
  ·exact hb.ne Z.J.ha.hg (by decide) e
theorem JZ.gz (Z:JZ w0 h O w ps pc lb tb sv ev A cd rt s f b vb sp rv qv rg wt lo lc L) (h12:rt.length=12):∃ g o cap,h.ro=.slice (some ⟨g,o,none⟩) 12 cap/\g<w.heap.size/\(∀ k,w.frozen? ⟨g,k,none⟩=false)/\∀ k,k<rt.length->w.cell? ⟨g,o+k,none⟩=some (.int .i64 (rt.getD k 0)):=by
 obtain ⟨ao,cap,e,hrd,-,-⟩:=Z.hr.rd;obtain ⟨g,o,rfl,hg,hc⟩:=hrd (by intro e;have:=congrArg List.length e;rw [Zp,h12] at this;cases this);have hown:aq h.ro g:=by rw [e];rfl
 obtain ⟨-,cur,hb⟩:=Z.hr.own hown;refine ⟨g,o,cap,by rw [e,h12],hg,λk=>hb.free k,λk hk=>?_⟩;rw [hc k (by simpa using hk)];simp [List.getD,hk]
theorem JZ.root (Z:JZ w0 h O w ps pc lb tb sv ev A cd rt s f b vb sp rv qv rg wt lo lc L) {g o cap k:Nat} {x:Int} (e:h.ro=.slice (some ⟨g,o,none⟩) rt.length cap) (hk:k<rt.length) :
  JZ w0 h O (w.setCell ⟨g,o+k,none⟩ (.int .i64 x)) ps pc lb tb sv ev A cd (rt.set k x) s f b vb sp rv qv rg wt lo lc L:=by
 have hown:aq h.ro g:=by rw [e];rfl
 obtain ⟨_,l,hb⟩:=Z.hr.own hown;have kk:aa (·=g) w (w.setCell ⟨g,o+k,none⟩ (.int .i64 x)):=(aa.refl (·=g) w).setCell (p:=⟨g,o+k,none⟩) (.inl rfl) _;have ne:∀ {b:Nat} {c:List Value} {T:TypeId},ak w b c T->T≠2->¬ b=g:=λhb' h1=>hb'.ne hb h1;have gg:h.g≠g:=λe=>Z.ap (e ▸ hown);have sl:∀ {v:Value} {n:Nat} {xs:List Value},Sl w 3 1 v n xs->∀ b,aq v b->¬ b=g:=λhs b hb'=>by obtain ⟨_,l',h'⟩:=hs.own hb';exact ne h' (by decide)
 have J':cA (w.setCell ⟨g,o+k,none⟩ (.int .i64 x)) ⟨h.p,h.pa,h.g,h.pc,ps,h.ro,pc,lb,tb⟩ sv ev A s f:=by
  refine ⟨kk.au Z.J.hp (ne Z.J.hp (by decide)),Z.J.ha.ab kk (ne Z.J.ha.hp (by decide)) gg,kk.au Z.J.hc (ne Z.J.hc (by decide)),kk.au Z.J.hl (ne Z.J.hl (by decide)),kk.au Z.J.ht (ne Z.J.ht (by decide)),Z.J.hs.ab kk (sl Z.J.hs),Z.J.he.ab kk (sl Z.J.he),Z.J.ap,Z.J.at_⟩
 have hs:=Z.hr;rw [e] at hs;have hset:=hs.set (j:=k) (u:=.int .i64 x) (by omega);refine ⟨J',Z.hc.ab kk (ne Z.hc.hp (by decide)) (ne Z.hc.hq (by decide)),by rw [e,List.length_set,List.map_set];exact hset,Z.K.trans (kk.mono (λk _ hk=>by rw [hk];exact .inr (.inr (.inr (.inr hown))))),Z.S.ab kk (λb hb'=>?_),Z.so,kk.au Z.B (ne Z.B (by decide)),kk.au Z.V (ne Z.V (by decide)),Z.L.ab kk (sl Z.L),Z.ap⟩;obtain ⟨_,U,h',hU⟩:=Z.S.cM hb';exact ne h' (by rcases hU with rfl | rfl <;> decide)
theorem JZ.side {rg' wt':List (Int × Int)} {g:Nat} (Z:JZ w0 h O w ps pc lb tb sv ev A cd rt s f b vb sp rv qv rg wt lo lc L) (hg:aG sp rv qv g) {cg:List Value} (hbg:ak w g cg 119) (kk:aa (·=g) w w') (S':a7 w' sp rv qv rg' wt') :
  JZ w0 h O w' ps pc lb tb sv ev A cd rt s f b vb sp rv qv rg' wt' lo lc L:=by
 have ne:∀ {b:Nat} {c:List Value} {T:TypeId},ak w b c T->T≠119->¬ b=g:=λhb' h1=>hb'.ne hbg h1;have sl:∀ {v:Value} {n:Nat} {xs:List Value} {T:TypeId},Sl w T 1 v n xs->T≠119->∀ b,aq v b->¬ b=g:=λhs hT b hb'=>by obtain ⟨_,l',h'⟩:=hs.own hb';exact ne h' hT
 refine ⟨Z.J.ab kk (λb hb e=>?_),Z.hc.ab kk (ne Z.hc.hp (by decide)) (ne Z.hc.hq (by decide)),Z.hr.ab kk (sl Z.hr (by decide)),Z.K.then kk (λk hk=>?_),S',Z.so,kk.au Z.B (ne Z.B (by decide)),kk.au Z.V (ne Z.V (by decide)),Z.L.ab kk (sl Z.L (by decide)),Z.ap⟩
 ·exact Z.J.cQ Z.S hb (e ▸ hg)
 ·rw [hk];rcases Z.so g hg with (h1 | h1 | h1) | h1
  ·exact .inl (.inl h1)
  ·exact .inl (.inr (.inl (.inl h1)))
  ·exact .inl (.inr (.inl (.inr h1)))
  ·exact .inr h1
theorem JZ.take (Z:JZ w0 h O w ps pc lb tb sv ev A cd rt s f b vb sp rv qv rg wt lo lc L):JZ w0 h O (w.setCell ⟨h.p,2,none⟩ (.pointer (some ⟨sp,0,none⟩))) sp pc lb tb sv ev A cd rt s f b vb sp rv qv rg wt lo lc L:=by
 have kk:aa (·=h.p) w (w.setCell ⟨h.p,2,none⟩ (.pointer (some ⟨sp,0,none⟩))):=(aa.refl (·=h.p) w).setCell (p:=⟨h.p,2,none⟩) (.inl rfl) _;have ne:∀ {b:Nat} {c:List Value} {T:TypeId},ak w b c T->T≠75->¬ b=h.p:=λhb' h1=>hb'.ne Z.J.hp h1;have sl:∀ {v:Value} {n:Nat} {xs:List Value} {T:TypeId},Sl w T 1 v n xs->T≠75->∀ b,aq v b->¬ b=h.p:=λhs hT b hb'=>by obtain ⟨_,l',h'⟩:=hs.own hb';exact ne h' hT
 have hp:ak (w.setCell ⟨h.p,2,none⟩ (.pointer (some ⟨sp,0,none⟩))) h.p [.pointer (some ⟨h.pa,0,none⟩), .pointer (some ⟨h.pc,0,none⟩), .pointer (some ⟨sp,0,none⟩),h.ro] 75:=by simpa using Z.J.hp.aE 2 (.pointer (some ⟨sp,0,none⟩))
 refine ⟨⟨hp,Z.J.ha.ab kk (ne Z.J.ha.hp (by decide)) (ne Z.J.ha.hg (by decide)),kk.au Z.J.hc (ne Z.J.hc (by decide)),kk.au Z.J.hl (ne Z.J.hl (by decide)),kk.au Z.J.ht (ne Z.J.ht (by decide)),Z.J.hs.ab kk (sl Z.J.hs (by decide)),Z.J.he.ab kk (sl Z.J.he (by decide)),Z.J.ap,Z.J.at_⟩,
  Z.hc.ab kk (ne Z.hc.hp (by decide)) (ne Z.hc.hq (by decide)),Z.hr.ab kk (sl Z.hr (by decide)),Z.K.trans (kk.mono (λk _ hk=>.inl hk)),Z.S.ab kk (λb hb'=>?_),Z.so,kk.au Z.B (ne Z.B (by decide)),kk.au Z.V (ne Z.V (by decide)),Z.L.ab kk (sl Z.L (by decide)),Z.ap⟩
 obtain ⟨_,U,h',hU⟩:=Z.S.cM hb';exact ne h' (by rcases hU with rfl | rfl <;> decide)
theorem JZ.cards {cd':List Bool} (Z:JZ w0 h O w ps pc lb tb sv ev A cd rt s f b vb sp rv qv rg wt lo lc L) (hcb:h.cb≠lb) (t:cU w' h.pc h.cb O.ar.nur cd') (kk:aa (·=h.cb) w w'):JZ w0 h O w' ps pc lb tb sv ev A cd' rt s f b vb sp rv qv rg wt lo lc L:=by
 have ne:∀ {b:Nat} {c:List Value} {T:TypeId},ak w b c T->T≠4->¬ b=h.cb:=λhb' h1=>hb'.ne Z.hc.hq h1;have sl:∀ {v:Value} {n:Nat} {xs:List Value} {T:TypeId},Sl w T 1 v n xs->T≠4->∀ b,aq v b->¬ b=h.cb:=λhs hT b hb'=>by obtain ⟨_,l',h'⟩:=hs.own hb';exact ne h' hT
 refine ⟨⟨kk.au Z.J.hp (ne Z.J.hp (by decide)),Z.J.ha.ab kk (ne Z.J.ha.hp (by decide)) (ne Z.J.ha.hg (by decide)),kk.au Z.J.hc (ne Z.J.hc (by decide)),kk.au Z.J.hl (Ne.symm hcb),kk.au Z.J.ht (ne Z.J.ht (by decide)),Z.J.hs.ab kk (sl Z.J.hs (by decide)),Z.J.he.ab kk (sl Z.J.he (by decide)),Z.J.ap,Z.J.at_⟩,
  t,Z.hr.ab kk (sl Z.hr (by decide)),Z.K.trans (kk.mono (λk _ hk=>.inr (.inr (.inl (.inr hk))))),Z.S.ab kk (λb hb'=>?_),Z.so,kk.au Z.B (ne Z.B (by decide)),kk.au Z.V (ne Z.V (by decide)),Z.L.ab kk (sl Z.L (by decide)),Z.ap⟩
 obtain ⟨_,U,h',hU⟩:=Z.S.cM hb';exact ne h' (by rcases hU with rfl | rfl <;> decide)
theorem JZ.done (Z:JZ w0 h O w sp pc lb tb sv ev A cd rt s f b vb sp rv qv rg wt lo lc L) (hn:O.ar.nur=A.nur) (hok:(Wo.mk A cd rt rg wt).ok):gd w0 h w ⟨A,cd,rt,rg,wt⟩:=by
 refine ⟨⟨h.p,h.pa,h.g,h.pc,h.cb,sp,rv,qv,h.ro⟩,⟨Z.J.hp,Z.J.ha,by dsimp only;rw [<-hn];exact Z.hc,Z.S,Z.hr,Z.ap,hok⟩,rfl,Z.K,?_⟩;rintro k (hk | hk | hk | hk | hk)
 ·exact .inl (.inl hk)
 ·exact .inl (.inr (.inl hk))
 ·exact .inl (.inr (.inr (.inl hk)))
 ·rcases Z.so k hk with (h1 | h1 | h1) | h1
  ·exact .inl (.inl h1)
  ·exact .inl (.inr (.inl (.inl h1)))
  ·exact .inl (.inr (.inl (.inr h1)))
  ·exact .inr h1
 ·exact .inl (.inr (.inr (.inr (.inr hk))))
theorem JZ.cells (Z:JZ w0 h O w ps pc lb tb sv ev A cd rt s f b vb sp rv qv rg wt lo lc L):w.cell? ⟨h.p,0,none⟩=some (.pointer (some ⟨h.pa,0,none⟩))/\w.cell? ⟨h.p,1,none⟩=some (.pointer (some ⟨h.pc,0,none⟩))/\w.cell? ⟨h.p,2,none⟩=some (.pointer (some ⟨ps,0,none⟩))/\w.cell? ⟨h.p,3,none⟩=some h.ro/\h.p<w.heap.size/\w.frozen? ⟨h.p,2,none⟩=false:=
 ⟨Z.J.hp.cell 0,Z.J.hp.cell 1,Z.J.hp.cell 2,Z.J.hp.cell 3,Z.J.hp.lt,Z.J.hp.free 2⟩
end
end
end
section
open Go.RowKit
section
variable {w w':World} {O O':Wo} {W W':Wd}
theorem Wo.ok.ai {O:Wo} (h:O.ok) {x y:Int} (hx:bm x) (hy:bm y) (hq:¬ 24<=O.rg.length+O.wt.length):Wo.ok { O with rg:=O.rg ++ [(x,y)],wt:=O.wt }:=by
 refine ⟨h.ha,h.h12,h.hR,λe he=>?_,h.hw,by simp;omega,h.hc⟩;rcases Zk.1 he with h1 | h1
 ·exact h.hg e h1
 ·simp at h1;subst h1;exact ⟨hx,hy⟩
end
end
section
open Go.RowKit
theorem aI.lens {O:Wo} {W:Wd} {φ:Int->Int} (R:aI O W φ):O.view.1.length=12/\O.view.2.length<=1300/\∀ n ∈ O.view.2,n.2.length<=100:=by
 rw [R.view];exact (Wd.seen R.hw).lens R.hw
theorem jZ.rep {w:World} {lo:Nat} {v:Value} {O:Wo} {W:Wd} {φ:Int->Int} (H:jZ w lo v O.view) (R:aI O W φ):iS w v O.view:=by
 obtain ⟨h1,h2,h3⟩:=R.lens;exact H.r (by omega) (by omega) (λn hn=>Za (h3 n hn) (by decide))
section
variable {w w':World}
end
end
end Go.Proofs.YtjifdalflepcoadGreat
