/-
  Parts of the proof, merged: what the functions do, and plain laws.
-/
import Derived.Test.YtjifdalflepcoabMDesP6
import Derived.Test.YtjifdalflepcoabMDesP0
import Derived.Test.YtjifdalflepcoabMDesP1
import Derived.Test.YtjifdalflepcoabMDesP2
namespace Go.Proofs.Ytjifdalflepcoab
open Go.RowKit
set_option linter.unusedVariables false
set_option linter.unusedSimpArgs false
section
variable {w w' : World} {g : RVH} {h : RW} {W : Wd} {rv mv nv : Value} {F : Nat → Prop} {s : VS}
theorem Keeps.cellAt {S : Nat → Prop} {w w' : World} (k : Keeps S w w') {b : Nat} (hb : b < w.heap.size) (hn : ¬ S b) (i : Nat) : w'.cell? ⟨b,i,none⟩ = w.cell? ⟨b,i,none⟩ :=
 World.cell?_of_block (w := w) (a := ⟨b,i,none⟩) (k.block b hb hn)
theorem RvAt.pushMet {x : Int} {wr wa w2 : World} {v' : Value} (V : RvAt wr g h W rv mv nv F s) (ka : Keeps (fun _ => False) wr wa) (hs : Sl w2 3 1 v' (s.1.length + 1) (s.1.map (Value.int .i64) ++ [.int .i64 x])) (hk : Keeps (ownB mv) wa w2)
  (ho : ∀ k,ownB v' k → ownB mv k ∨ wa.heap.size ≤ k) (h0 : 0 ≤ x ∧ x ≤ 1000000) : RvTo wr g h W rv mv nv F (s.1 ++ [x],s.2) (w2.setCell ⟨g.mb,0,none⟩ v') := by
 have k1 : Keeps (ownB mv) wr w2 := (ka.mono (fun _ _ h => h.elim)).trans hk
 have nm : ∀ {b : Nat} {c : List Value} {T : TypeId},Blk wr b c T → T ≠ 3 → ¬ ownB mv b := fun hb hT e => by obtain ⟨_,c',hc'⟩ := V.M.own e; exact hb.ne hc' hT rfl
 have hm2 := k1.blk V.hm (nm V.hm (by decide))
 have set := (Keeps.refl (· = g.mb) w2).setCell (p := ⟨g.mb,0,none⟩) (.inl rfl) v'
 have kk : Keeps (fun k => ownB mv k ∨ k = g.mb) wr (w2.setCell ⟨g.mb,0,none⟩ v') := (k1.mono (fun _ _ h => .inl h)).then set (fun b hb => .inl (.inr hb))
 have nb : ∀ {b : Nat} {c : List Value} {T : TypeId},Blk wr b c T → T ≠ 3 → T ≠ 50 → ¬ (ownB mv b ∨ b = g.mb) := fun hb h1 h2 e => by
  rcases e with e | e
  ·exact nm hb h1 e
  ·exact hb.ne V.hm h2 e
 refine ⟨v',nv,F,⟨V.H.keep kk (fun b hb => ?_),by simpa using hm2.setSame 0 v',kk.blk V.hw (nb V.hw (by decide) (by decide)),kk.blk V.hv (nb V.hv (by decide) (by decide)),kk.blk V.hf (nb V.hf (by decide) (by decide)), ?_,V.N.keep kk (fun b hb _ => ?_) (fun b hb => ?_),fun b hb => ?_,fun i hi => ?_⟩,kk.mono (fun b _ hb => ?_),fun k hk' => (ho k hk').imp id (fun h => Nat.le_trans ka.size h),fun k hk' => .inl hk',fun k hk' => .inl hk'⟩
 ·obtain ⟨_,c,T,hc,hT⟩ := V.H.own_type hb
  rcases hT with rfl | rfl | rfl | rfl <;> exact nb hc (by decide) (by decide)
 ·rw [List.length_append,List.map_append]
  exact hs.keep set (fun b hb e => by obtain ⟨_,c,hc⟩ := hs.own hb; exact hc.ne hm2 (by decide) e)
 ·obtain ⟨_,c,hc⟩ := V.hF b hb; exact nb hc (by decide) (by decide)
 ·obtain ⟨_,c,hc⟩ := V.N.own hb; exact nb hc (by decide) (by decide)
 ·obtain ⟨a,c,hc⟩ := V.hF b hb
  exact ⟨Nat.lt_of_lt_of_le a kk.size,c,kk.blk hc (nb hc (by decide) (by decide))⟩
 ·rcases List.mem_append.1 hi with h1 | h1
  ·exact V.bd i h1
  ·simp at h1; subst h1; exact h0
 ·rcases hb with hb | hb
  ·exact .inr (.inr (.inl hb))
  ·exact .inl hb
theorem RvAt.pushNode {kd : Int} {wr wa w2 : World} {v' : Value} (V : RvAt wr g h W rv mv nv F s) (ka : Keeps (fun _ => False) wr wa) (cs : List Value) (hcs : RowsC 2 (NodeRow wr F) s.2 cs) (hs : Sl w2 83 2 v' (s.2.length + 1) (cs ++ [.int .i64 kd, .slice none 0 0])) (hk : Keeps (ownB nv) wa w2)
  (ho : ∀ k,ownB v' k → ownB nv k ∨ wa.heap.size ≤ k) : RvTo wr g h W rv mv nv F (s.1,s.2 ++ [(kd,[])]) (w2.setCell ⟨g.vb,1,none⟩ v') := by
 have k1 : Keeps (ownB nv) wr w2 := (ka.mono (fun _ _ h => h.elim)).trans hk
 have nm : ∀ {b : Nat} {c : List Value} {T : TypeId},Blk wr b c T → T ≠ 83 → ¬ ownB nv b := fun hb hT e => by obtain ⟨_,c',hc'⟩ := V.N.own e; exact hb.ne hc' hT rfl
 have hv2 := k1.blk V.hv (nm V.hv (by decide))
 have set := (Keeps.refl (· = g.vb) w2).setCell (p := ⟨g.vb,1,none⟩) (.inl rfl) v'
 have kk : Keeps (fun k => ownB nv k ∨ k = g.vb) wr (w2.setCell ⟨g.vb,1,none⟩ v') := (k1.mono (fun _ _ h => .inl h)).then set (fun b hb => .inl (.inr hb))
 have nb : ∀ {b : Nat} {c : List Value} {T : TypeId},Blk wr b c T → T ≠ 83 → T ≠ 72 → ¬ (ownB nv b ∨ b = g.vb) := fun hb h1 h2 e => by
  rcases e with e | e
  ·exact nm hb h1 e
  ·exact hb.ne V.hv h2 e
 refine ⟨mv,v',F,⟨V.H.keep kk (fun b hb => ?_),kk.blk V.hm (nb V.hm (by decide) (by decide)),kk.blk V.hw (nb V.hw (by decide) (by decide)),by simpa using hv2.setSame 1 v',kk.blk V.hf (nb V.hf (by decide) (by decide)),V.M.keep kk (fun b hb => ?_),⟨_,by rw [List.length_append]; exact hs.keep set (fun b hb e => by obtain ⟨_,c,hc⟩ := hs.own hb; exact hc.ne hv2 (by decide) e), ?_⟩,fun b hb => ?_,V.bd⟩,kk.mono (fun b _ hb => ?_),fun k hk' => .inl hk',fun k hk' => (ho k hk').imp id (fun h => Nat.le_trans ka.size h),fun k hk' => .inl hk'⟩
 ·obtain ⟨_,c,T,hc,hT⟩ := V.H.own_type hb
  rcases hT with rfl | rfl | rfl | rfl <;> exact nb hc (by decide) (by decide)
 ·obtain ⟨_,c,hc⟩ := V.M.own hb; exact nb hc (by decide) (by decide)
 ·refine RowsC.app (hcs.mono (fun a _ r hr => hr.keep kk (fun b hb _ => ?_))) rfl ⟨none,0,rfl,Rd.nil _ _,(fun a ha => by cases ha),Nat.zero_le _⟩
  obtain ⟨_,c,hc⟩ := V.hF b hb; exact nb hc (by decide) (by decide)
 ·obtain ⟨a,c,hc⟩ := V.hF b hb
  exact ⟨Nat.lt_of_lt_of_le a kk.size,c,kk.blk hc (nb hc (by decide) (by decide))⟩
 ·rcases hb with hb | hb
  ·exact .inr (.inr (.inr hb))
  ·exact .inr (.inl hb)
structure InR (w1 : World) (g : RVH) (h : RW) (W : Wd) (rv mv nv : Value) (F : Nat → Prop) (xb rb tb : Nat) (tc xc rc : List Value) (ao : Option Addr) (fs : List Vl) (s : VS) (lv : Value) (l : List Vl) (wr : World) (mv' nv' : Value) (F' : Nat → Prop) : Prop where
 V : RvAt wr g h W rv mv' nv' F' s
 K : Keeps (RvFp g mv nv) w1 wr
 o0 : ∀ k,ownB mv' k → ownB mv k ∨ w1.heap.size ≤ k
 o1 : ∀ k,ownB nv' k → ownB nv k ∨ w1.heap.size ≤ k
 o2 : ∀ k,F' k → F k ∨ w1.heap.size ≤ k
 L : Sl wr 78 2 lv l.length (entV l)
 o3 : ∀ k,ownB lv k → w1.heap.size ≤ k ∧ ¬ F' k
 T : Blk wr tb tc 161
 X : Blk wr xb xc 78
 R : Blk wr rb rc 78
 xl : xb < w1.heap.size
 rl : rb < w1.heap.size
 tl : ¬ h.Own tb
 ol : ∀ k,h.Own k → k < w1.heap.size
 wl : g.wb < w1.heap.size
 fl : g.fb < w1.heap.size
 D : Rd wr ao (entV fs)
 dF : ∀ a,ao = some a → h.Own a.block
section
variable {ao : Option Addr} {fs : List Vl} {w1 wr w2 wa : World} {xb rb tb : Nat} {tc xc rc : List Value} {lv lv2 mv' nv' : Value} {l : List Vl} {F' : Nat → Prop} {s2 : VS} {v : Vl}
theorem InR.lv_ne (I : InR w1 g h W rv mv nv F xb rb tb tc xc rc ao fs s lv l wr mv' nv' F') {k : Nat} (hk : ownB lv k) : ¬ RvFp g mv' nv' k := by
 obtain ⟨_,c,hc⟩ := I.L.own hk
 exact I.V.fp_ne hc (by decide) (by decide) (by decide) (by decide)
theorem InR.toldE {mv2 nv2 : Value} {F2 : Nat → Prop} (I : InR w1 g h W rv mv nv F xb rb tb tc xc rc ao fs s lv l wr mv' nv' F') (V2 : RvAt w2 g h W rv mv2 nv2 F2 s2) (k2 : Keeps (RvFp g mv' nv') wr w2) (p0 : ∀ k,ownB mv2 k → ownB mv' k ∨ wr.heap.size ≤ k) (p1 : ∀ k,ownB nv2 k → ownB nv' k ∨ wr.heap.size ≤ k) (p2 : ∀ k,F2 k → F' k ∨ wr.heap.size ≤ k) : InR w1 g h W rv mv nv F xb rb tb tc xc rc ao fs s2 lv l w2 mv2 nv2 F2 := by
 refine ⟨V2,I.K.then k2 (fun j hj => RvFp.step I.o0 I.o1 hj),fun j hj => ?_,fun j hj => ?_,fun j hj => ?_,I.L.keep k2 (fun j hj => I.lv_ne hj),fun j hj => ⟨(I.o3 j hj).1,fun hf => ?_⟩,k2.blk I.T (I.V.fp_ne I.T (by decide) (by decide) (by decide) (by decide)),k2.blk I.X (I.V.fp_ne I.X (by decide) (by decide) (by decide) (by decide)),k2.blk I.R (I.V.fp_ne I.R (by decide) (by decide) (by decide) (by decide)),I.xl,I.rl,I.tl,I.ol,I.wl,I.fl,I.D.keep k2 (fun a e _ => I.V.world_ne (I.dF a e)),I.dF⟩
 ·rcases p0 j hj with h | h
  ·exact I.o0 j h
  ·exact .inr (Nat.le_trans I.K.size h)
 ·rcases p1 j hj with h | h
  ·exact I.o1 j h
  ·exact .inr (Nat.le_trans I.K.size h)
 ·rcases p2 j hj with h | h
  ·exact I.o2 j h
  ·exact .inr (Nat.le_trans I.K.size h)
 ·rcases p2 j hf with h | h
  ·exact (I.o3 j hj).2 h
  ·have := (I.L.own hj).1; omega
theorem InR.other {b : Nat} (I : InR w1 g h W rv mv nv F xb rb tb tc xc rc ao fs s lv l wr mv' nv' F') (k : Keeps (· = b) wr w2) (hb : ∃ c,Blk wr b c 78) (h0 : w1.heap.size ≤ b) (h1 : ¬ F' b) (h2 : ¬ ownB lv b) : InR w1 g h W rv mv nv F xb rb tb tc xc rc ao fs s lv l w2 mv' nv' F' := by
 obtain ⟨c,hc⟩ := hb
 have ho : ¬ h.Own b := fun e => by have := I.ol b e; omega
 have fp := I.V.fp_ne hc (by decide) (by decide) (by decide) (by decide)
 exact ⟨I.V.other k fp ho h1 (fun e => by have := I.wl; omega) (fun e => by have := I.fl; omega),I.K.then k (fun j hj => .inr (by rw [hj]; exact h0)),I.o0,I.o1,I.o2,I.L.keep k (fun j hj e => h2 (e ▸ hj)),I.o3,k.blk I.T (fun e => hc.ne I.T (by decide) e.symm),k.blk I.X (fun e => by have := I.xl; omega),k.blk I.R (fun e => by have := I.rl; omega),I.xl,I.rl,I.tl,I.ol,I.wl,I.fl,
  I.D.keep k (fun a e _ hl => ho (hl ▸ I.dF a e)),I.dF⟩
theorem InR.app (I : InR w1 g h W rv mv nv F xb rb tb tc xc rc ao fs s lv l wr mv' nv' F') (ka : Keeps (fun _ => False) wr wa)
  (hs : Sl w2 78 2 lv2 (l.length + 1) (entV l ++ [.int .i64 v.1, .int .i64 v.2])) (hk : Keeps (ownB lv) wa w2) (ho : ∀ k,ownB lv2 k → ownB lv k ∨ wa.heap.size ≤ k) : InR w1 g h W rv mv nv F xb rb tb tc xc rc ao fs s lv2 (l ++ [v]) w2 mv' nv' F' := by
 have k2 := (ka.mono (T := ownB lv) (fun _ _ h => h.elim)).trans hk
 refine ⟨I.V.keep k2 (fun j hj hl => I.lv_ne hl hj) (fun j hj hl => by have := I.ol j hj; have := (I.o3 j hl).1; omega) (fun j hj hl => (I.o3 j hl).2 hj) (fun hl => by have := (I.o3 _ hl).1; have := I.wl; omega) (fun hl => by have := (I.o3 _ hl).1; have := I.fl; omega),I.K.then k2 (fun j hj => .inr (I.o3 j hj).1),I.o0,I.o1,I.o2, ?_,fun j hj => ?_,
  k2.blk I.T (fun hl => by obtain ⟨_,c,hc⟩ := I.L.own hl; exact hc.ne I.T (by decide) rfl),k2.blk I.X (fun hl => by have := (I.o3 _ hl).1; have := I.xl; omega),k2.blk I.R (fun hl => by have := (I.o3 _ hl).1; have := I.rl; omega),I.xl,I.rl,I.tl,I.ol,I.wl,I.fl,I.D.keep k2 (fun a e _ hl => by have := I.ol _ (I.dF a e); have := (I.o3 _ hl).1; omega),I.dF⟩
 ·have e : entV (l ++ [v]) = entV l ++ [.int .i64 v.1, .int .i64 v.2] := by simp [entV]
  rw [e,List.length_append]; exact hs
 ·rcases ho j hj with h1 | h1
  ·exact I.o3 j h1
  ·have h2 := ka.size; have h3 := I.K.size
   refine ⟨by omega,fun hf => ?_⟩
   have := (I.V.hF j hf).1; omega
theorem InR.same (I : InR w1 g h W rv mv nv F xb rb tb tc xc rc ao fs s lv l wr mv' nv' F') (k : Keeps (fun _ => False) wr w2) : InR w1 g h W rv mv nv F xb rb tb tc xc rc ao fs s lv l w2 mv' nv' F' :=
 ⟨I.V.same k,I.K.trans (k.mono (fun _ _ h => h.elim)),I.o0,I.o1,I.o2,I.L.keep k (fun _ _ h => h),I.o3,k.blk I.T (fun h => h),k.blk I.X (fun h => h),k.blk I.R (fun h => h),I.xl,I.rl,I.tl,I.ol,I.wl,I.fl,I.D.keep k (fun _ _ _ h => h),I.dF⟩
theorem InR.done {kd : Int} {n gn o cap lc : Nat} {ao2 : Option Addr} (hlv : lv = .slice ao2 l.length lc) (I : InR w1 g h W rv mv nv F xb rb tb tc xc rc ao fs s lv l wr mv' nv' F')
  (hnv : nv' = .slice (some ⟨gn,o,none⟩) s.2.length cap) (hn : s.2[n]? = some (kd,[])) : RvTo w1 g h W rv mv nv F (s.1,s.2.set n (kd,l)) (wr.setCell ⟨gn,o + n * 2 + 1,none⟩ lv) ∧ Blk (wr.setCell ⟨gn,o + n * 2 + 1,none⟩ lv) rb rc 78 := by
 subst hnv hlv
 have hlt : n < s.2.length := (List.getElem?_eq_some_iff.1 hn).1
 have hgo : ownB (.slice (some ⟨gn,o,none⟩) s.2.length cap) gn := rfl
 have setk := (Keeps.refl (· = gn) wr).setCell (p := ⟨gn,o + n * 2 + 1,none⟩) (.inl rfl) (.slice ao2 l.length lc)
 have K2 : Keeps (RvFp g mv nv) w1 (wr.setCell ⟨gn,o + n * 2 + 1,none⟩ (.slice ao2 l.length lc)) := I.K.setCell (p := ⟨gn,o + n * 2 + 1,none⟩) (by
  rcases I.o1 gn hgo with h1 | h1
  ·exact .inl (.inr (.inr (.inr h1)))
  ·exact .inr h1) _
 obtain ⟨cs,hs,hr⟩ := I.V.N
 obtain ⟨_,gc,hgc⟩ := hs.own hgo
 have gne : ∀ {b : Nat} {c : List Value} {T : TypeId},Blk wr b c T → T ≠ 83 → ¬ b = gn := fun hb hT e => hb.ne hgc hT e
 obtain ⟨ao',cap',e1,hrd,hcm,hnc⟩ := I.L.rd
 cases e1
 refine ⟨⟨mv', .slice (some ⟨gn,o,none⟩) s.2.length cap,fun k => F' k ∨ ownB (.slice ao2 l.length lc) k,⟨I.V.H.keep setk (fun b hb => ?_),setk.blk I.V.hm (gne I.V.hm (by decide)),setk.blk I.V.hw (gne I.V.hw (by decide)),setk.blk I.V.hv (gne I.V.hv (by decide)),setk.blk I.V.hf (gne I.V.hf (by decide)),I.V.M.keep setk (fun b hb => ?_), ?_,fun j hj => ?_,I.V.bd⟩,K2,I.o0,I.o1,fun j hj => ?_⟩,setk.blk I.R (gne I.R (by decide))⟩
 ·obtain ⟨_,c,T,hc,hT⟩ := I.V.H.own_type hb
  rcases hT with rfl | rfl | rfl | rfl <;> exact gne hc (by decide)
 ·obtain ⟨_,c,hc⟩ := I.V.M.own hb; exact gne hc (by decide)
 ·have hsl : (s.2.set n (kd,l)).length = s.2.length := by simp
  refine ⟨cs.set (n * 2 + 1) (.slice ao2 l.length lc), ?_, ?_⟩
  ·rw [hsl]
   exact hs.set (j := n * 2 + 1) (by omega)
  ·have hr' : RowsC 2 (NodeRow (wr.setCell ⟨gn,o + n * 2 + 1,none⟩ (.slice ao2 l.length lc)) (fun k => F' k ∨ ownB (.slice ao2 l.length lc) k)) s.2 cs :=
    hr.mono (fun a _ r h1 => (h1.keep setk (fun j hj _ => by obtain ⟨_,c,hc⟩ := I.V.hF j hj; exact gne hc (by decide))).more (fun j hj => .inl hj))
   refine RowsC.setCell hlt (by decide) hr' (fun r h2 h3 => ?_)
   have e2 : s.2[n] = (kd,[]) := by rw [List.getElem?_eq_getElem hlt] at hn; exact Option.some.inj hn
   rw [e2] at h3
   obtain ⟨_,_,rfl, -⟩ := h3
   refine ⟨ao2,lc,rfl,hrd.keep setk (fun a ha _ e => ?_),fun a ha => .inr ?_,hcm⟩
   ·subst ha; obtain ⟨_,c,hc⟩ := I.L.own (k := a.block) rfl; exact gne hc (by decide) e
   ·subst ha; rfl
 ·rcases hj with hj | hj
  ·obtain ⟨a,c,hc⟩ := I.V.hF j hj
   exact ⟨Nat.lt_of_lt_of_le a setk.size,c,setk.blk hc (gne hc (by decide))⟩
  ·obtain ⟨a,c,hc⟩ := I.L.own hj
   exact ⟨Nat.lt_of_lt_of_le a setk.size,c,setk.blk hc (gne hc (by decide))⟩
 ·rcases hj with hj | hj
  ·exact I.o2 j hj
  ·exact .inr (I.o3 j hj).1
end
def cntW (l : List (Int × Int)) (g : Int) (p : Nat) : Nat := (waitAt (l.take p) g).length
theorem cntW_zero (l : List (Int × Int)) (g : Int) : cntW l g 0 = 0 := rfl
theorem cntW_all (l : List (Int × Int)) (g : Int) : cntW l g l.length = (waitAt l g).length := by unfold cntW; rw [List.take_length]
theorem cntW_step {l : List (Int × Int)} {g : Int} {p : Nat} (hp : p < l.length) : cntW l g (p + 1) = cntW l g p + if (l.getD p (0,0)).1 = g then 1 else 0 := by
 unfold cntW waitAt
 rw [List.take_add_one,List.getD_eq_getElem?_getD,List.getElem?_eq_getElem hp]
 simp only [Option.toList_some,Option.getD_some,List.filter_append,List.map_append,List.length_append,List.length_map,List.filter_cons,List.filter_nil]
 by_cases h : l[p].1 = g
 ·simp [h]
 ·simp [h]
theorem cntW_at {l : List (Int × Int)} {g : Int} {p : Nat} (hp : p < l.length) (h : (l.getD p (0,0)).1 = g) : (waitAt l g)[cntW l g p]? = some (l.getD p (0,0)).2 := by
 have e : l = l.take p ++ l[p] :: l.drop (p + 1) := by rw [← List.drop_eq_getElem_cons hp,List.take_append_drop]
 have h1 : (l.getD p (0,0)) = l[p] := by rw [List.getD_eq_getElem?_getD,List.getElem?_eq_getElem hp]; rfl
 rw [h1] at h ⊢
 have h2 : waitAt l g = waitAt (l.take p) g ++ l[p].2 :: waitAt (l.drop (p + 1)) g := by
  conv => lhs; rw [e]
  unfold waitAt
  rw [List.filter_append,List.filter_cons,if_pos (by simpa using h),List.map_append,List.map_cons]
 rw [h2]
 unfold cntW
 rw [List.getElem?_append_right (Nat.le_refl _),Nat.sub_self]
 rfl
theorem cntW_le {l : List (Int × Int)} {g : Int} (p : Nat) : cntW l g p ≤ l.length := by
 unfold cntW waitAt
 rw [List.length_map]
 exact Nat.le_trans (List.length_filter_le _ _) (by rw [List.length_take]; omega)
theorem WorldAt.waitCell {w0 : World} {wo : Option Addr} {len wc p : Nat} (H : WorldAt w0 h W) (hp : p < W.wait.length) (e : h.wv = .slice wo len wc) :
  ∃ gw ow,wo = some ⟨gw,ow,none⟩ ∧ h.Own gw ∧ ∀ w',WorldAt w' h W → gw < w'.heap.size ∧ w'.cell? ⟨gw,ow + p * 2,none⟩ = some (.int .i64 (W.wait.getD p (0,0)).1) ∧ w'.cell? ⟨gw,ow + p * 2 + 1,none⟩ = some (.int .i64 (W.wait.getD p (0,0)).2) := by
 obtain ⟨_,_,e',rd, -, -⟩ := H.hw.rd
 rw [e] at e'; cases e'
 obtain ⟨gw,ow,rfl, -, -, -⟩ := rd.val p hp
 refine ⟨gw,ow,rfl, .inr (.inr (.inr (.inr (.inl (by rw [e]; rfl))))),fun w' H' => ?_⟩
 obtain ⟨_,_,e2,rd2, -, -⟩ := H'.hw.rd
 rw [e] at e2; cases e2
 obtain ⟨g',o',e3,hl,d0,d1⟩ := rd2.val p hp
 cases e3
 exact ⟨hl,d0,d1⟩
theorem NSG_un {G : Gr} {U : List Int} (I : InU G U) {n : Nat} {x : Int} {s : VS} (hx : x ∈ U) (j : Nat) (h : unM U (s.1 ++ [x]) ≤ n) (hc : (s.1 ++ [x]).length + unM U (s.1 ++ [x]) ≤ 5000) :
  unM U (NS G n x s j).2.1 ≤ n ∧ (NS G n x s j).2.1.length + unM U (NS G n x s j).2.1 ≤ 5000 := by
 unfold NS
 obtain ⟨m,hm⟩ := fldM_pre (valM_pre G n) ((G x).2.take j) (s.1 ++ [x],s.2 ++ [((G x).1,[])])
 have h1 := unM_app U (s.1 ++ [x]) m
 have h2 := fldM_count (f := valM G n) (U := U) (valM_count I n) ((G x).2.take j) (s.1 ++ [x],s.2 ++ [((G x).1,[])]) (fun v hv => I.shut x hx v (List.mem_of_mem_take hv))
 rw [hm] at h2 ⊢
 dsimp only at h2 ⊢
 exact ⟨by omega,by omega⟩
theorem NSG_len (G : Gr) (n : Nat) (x : Int) (s : VS) (j : Nat) (hl : s.2.length = s.1.length) : (NS G n x s j).2.2.length = (NS G n x s j).2.1.length := by
 unfold NS
 exact fldM_nodes (valM_nodes G n) _ _ (by simp [hl])
def RvOk (g : RVH) (h : RW) (W : Wd) (rv : Value) (n : Nat) : Prop := ∀ (v : Vl) (mv nv : Value) (F : Nat → Prop) (s : VS) (w : World),RvAt w g h W rv mv nv F s → (v.1 = 3 → v.2 ∈ W.all) → unM W.all s.1 ≤ n → s.1.length + unM W.all s.1 ≤ 5000 → s.2.length = s.1.length →
 Calls Try.prog 108 #[.agg #[.int .i64 v.1, .int .i64 v.2], .pointer (some ⟨g.mb,0,none⟩), .pointer (some ⟨g.wb,0,none⟩), .pointer (some ⟨g.vb,0,none⟩), .pointer (some ⟨g.fb,0,none⟩)] w (RvRet w g h W rv mv nv F (valM W.gr n v s))
set_option maxHeartbeats 16000000 in
set_option maxRecDepth 100000 in
theorem rvalue_new (n : Nat) (ih : RvOk g h W rv n) (v2 : Int) (V : RvAt w g h W rv mv nv F s) (hx : v2 ∈ W.all) (hm : ¬ v2 ∈ s.1) (hu : unM W.all s.1 ≤ n + 1) (hc : s.1.length + unM W.all s.1 ≤ 5000) (hl : s.2.length = s.1.length) (hT : W.T.length ≤ 100000) :
  Calls Try.prog 108 #[.agg #[.int .i64 3, .int .i64 v2], .pointer (some ⟨g.mb,0,none⟩), .pointer (some ⟨g.wb,0,none⟩), .pointer (some ⟨g.vb,0,none⟩), .pointer (some ⟨g.fb,0,none⟩)] w (RvRet w g h W rv mv nv F (valM W.gr (n + 1) (3,v2) s)) := by
 have HNEW := Lib.hid (valM_new W.gr n (v := (3,v2)) (s := s) rfl hm)
 have HV := Lib.hid V; have HM := Lib.hid hm; have HIH := Lib.hid ih
 have hlv := Wd.mem_all.1 hx
 have HLV := Lib.hid hlv; have HX := Lib.hid hx
 have hp := unM_push hx hm
 have HU := Lib.hid (show unM W.all (s.1 ++ [v2]) ≤ n by omega)
 have HC := Lib.hid (show (s.1 ++ [v2]).length + unM W.all (s.1 ++ [v2]) ≤ 5000 by rw [List.length_append]; simp; omega)
 have hsl : s.1.length ≤ 5000 := by omega
 have HSL := Lib.hid hsl
 obtain ⟨ii,hi,hz0,hz1,hz2⟩ := info_parts1 info_int
 have Ii := Lib.hid hi; have Iz0 := Lib.hid hz0; have Iz1 := Lib.hid hz1; have Iz2 := Lib.hid hz2; clear hi hz0 hz1 hz2
 obtain ⟨ni,hi,hz0,hz1,hz2⟩ := info_parts1 info_node
 have Ni := Lib.hid hi; have Nz0 := Lib.hid hz0; have Nz1 := Lib.hid hz1; have Nz2 := Lib.hid hz2; clear hi hz0 hz1 hz2
 obtain ⟨vi,hi,hz0,hz1,hz2⟩ := info_parts1 info_val
 have Vi := Lib.hid hi; have Vz0 := Lib.hid hz0; have Vz1 := Lib.hid hz1; have Vz2 := Lib.hid hz2; clear hi hz0 hz1 hz2
 have HLL := Lib.hid hl
 clear V hm hsl hlv hx hp hu hc ih hl
 go_enter Try.func108,Try.ntmps108
 go_upto_region 1 with (fail)
 have ka := (Keeps.refl (fun _ => False) w).alloc (.cells #[.int .i64 (3), .int .i64 v2] 78)
 have xb1 : Blk (w.alloc (.cells #[.int .i64 (3), .int .i64 v2] 78)) w.heap.size [.int .i64 (3), .int .i64 v2] 78 := Blk.newAt _ rfl rfl
 have sz1 : (w.alloc (.cells #[.int .i64 (3), .int .i64 v2] 78)).heap.size = w.heap.size + 1 := by simp
 have K1 := Lib.hid (ka.alloc (.cells #[.int .i64 0, .int .i64 0] 78))
 have XB := Lib.hid (xb1.alloc (.cells #[.int .i64 0, .int .i64 0] 78))
 have RB := Lib.hid (show Blk ((w.alloc (.cells #[.int .i64 (3), .int .i64 v2] 78)).alloc (.cells #[.int .i64 0, .int .i64 0] 78)) (w.heap.size + 1) [.int .i64 0, .int .i64 0] 78 from Blk.newAt _ sz1.symm rfl)
 have V1 := Lib.hid (HV.out.same K1.out)
 have RNF : Hid (¬ F (w.heap.size + 1)) := fun hf => by have := (HV.out.hF _ hf).1; omega
 have RNO : Hid (¬ h.Own (w.heap.size + 1)) := fun hf => by have := (HV.out.H.own_type hf).1; omega
 have XNO : Hid (¬ h.Own w.heap.size) := fun hf => by have := (HV.out.H.own_type hf).1; omega
 have XNF : Hid (¬ F w.heap.size) := fun hf => by have := (HV.out.hF _ hf).1; omega
 clear ka xb1 sz1
 generalize (w.alloc (.cells #[.int .i64 (3), .int .i64 v2] 78)).alloc (.cells #[.int .i64 0, .int .i64 0] 78) = w1 at *
 generalize hxb : w.heap.size = xb at XB RB RNF RNO XNO XNF ⊢
 have HXB := Lib.hid hxb
 clear hxb
 generalize hrb : xb + 1 = rb at RB RNF RNO ⊢
 have HRX := Lib.hid hrb
 clear hrb
 have HRB := Lib.hid (show w.heap.size ≤ rb by have := HXB.out; have := HRX.out; omega)
 have b0 := XB.out.cell 0; have b1 := XB.out.cell 1; have bl := XB.out.lt
 simp only [List.getElem?_cons_zero,List.getElem?_cons_succ] at b0 b1
 have c0 := V1.out.hm.cell 0; have cl := V1.out.hm.lt
 simp only [List.getElem?_cons_zero] at c0
 obtain ⟨mo,mc,emv, -,hml, -⟩ := V1.out.M.rd
 have EMV := Lib.hid emv
 rw [emv] at c0
 have hsl := HSL.out
 clear emv hml
 go_wp2_with fail
 go_loopw [7] (fun i wr => ∃ k : Nat,k ≤ s.1.length ∧ i = .int .i64 k ∧ Keeps (fun _ => False) w1 wr ∧ ∀ j,j < k → s.1.getD j 0 ≠ v2) (fun i _ => s.1.length - (intOf i).toNat)
 case atStart => exact ⟨0,Nat.zero_le _,rfl,Keeps.refl _ _,fun j hj => by omega⟩
 case round =>
  clear c0 cl b0 b1 bl
  obtain ⟨k,hk,rfl,hK,hN⟩ := hrel
  have KR := Lib.hid hK
  clear hK hN
  have VR := Lib.hid (V1.out.same KR.out); have XR := Lib.hid (KR.out.blk XB.out (fun h => h)); have RR := Lib.hid (KR.out.blk RB.out (fun h => h))
  have b0 := XR.out.cell 0; have b1 := XR.out.cell 1; have bl := XR.out.lt; have c0 := VR.out.hm.cell 0; have cl := VR.out.hm.lt
  simp only [List.getElem?_cons_zero,List.getElem?_cons_succ] at b0 b1 c0
  rw [EMV.out] at c0
  by_cases hlt : k < s.1.length
  ·obtain ⟨_,_,e',rd, -, -⟩ := VR.out.M.rd
   rw [EMV.out] at e'
   cases e'
   obtain ⟨gm,om,rfl,d0⟩ := rd.int k hlt
   have hgm := ((VR.out.M).own (k := gm) (by rw [EMV.out]; rfl)).1
   have hne : s.1.getD k 0 ≠ v2 := fun e => HM.out (by rw [← e,List.getD_eq_getElem?_getD,List.getElem?_eq_getElem hlt]; exact List.getElem_mem hlt)
   generalize s.1.getD k 0 = y at *
   have hd : (y == v2) = false := by simpa using hne
   clear rd hne
   go_wp2_with fail
   refine wp_region_ro (.free 1 (.free 4 (.pure 0 (.free 2 (.pure 3 (.pure 5 (.free 6 (.fin)))))))) [] (fun w' => w'.cell? ⟨g.mb,0,none⟩ = some (.slice (some ⟨gm,om,none⟩) s.1.length mc) ∧ w'.cell? ⟨gm,om + k,none⟩ = some (.int .i64 y) ∧ w'.cell? ⟨xb,1,none⟩ = some (.int .i64 v2)) (by kernel_rfl) (by kernel_rfl) ⟨c0,d0,b1⟩ ?_
   iterate 7 first | (refine wpRO_free rfl rfl _ (fun w' => by go_simp; exact Gives.mk _ _) (fun K hK => ?_); go_simp; refine hK _ ?_; clear hK K) | (refine wpRO_skipF rfl rfl (fun K hK => ?_); go_simp; refine hK _ ?_; clear hK K) | (refine wpRO_pure rfl rfl _ (fun w' hG => by obtain ⟨c0,d0,b1⟩ := hG; exact gives_agg2 rfl (by decide +kernel) rfl (by assumption) (by assumption)) (fun K hK => ?_); go_simp; refine hK _ ?_; clear hK K) | (refine wpRO_pure rfl rfl _ (fun w' hG => by obtain ⟨c0,d0,b1⟩ := hG; go_simp; exact Gives.mk _ _) (fun K hK => ?_); go_simp; refine hK _ ?_; clear hK K) | (refine wpRO_skip rfl rfl (fun K hK => ?_); go_simp; refine hK _ ?_; clear hK K)
   refine wpRO_fin ?_
   clear b0 b1 bl c0 cl d0 hgm
   go_wp2_with fail
   go_roundw
   case rel => exact ⟨k + 1,hlt,by go_num,KR.out.drew,fun j hj e => HM.out (by rw [← e,List.getD_eq_getElem?_getD,List.getElem?_eq_getElem (by omega)]; exact List.getElem_mem _)⟩
   case measure => simp [intOf]; omega
  ·obtain rfl : k = s.1.length := by omega
   have f0 := VR.out.hm.free 0
   have HSL2 := Lib.hid (show Sl wr 3 1 (.slice mo s.1.length mc) s.1.length (s.1.map (Value.int .i64)) by have := VR.out.M; rw [EMV.out] at this; exact this)
   go_wp2_with (at_builtin; refine wpList_app rfl (.tmp 36) (.tmp 39) 50 rfl 3 ii (.int .i64 0) 1 8 Try.underlying50 Ii.out Iz0.out Iz1.out Iz2.out rfl (by decide) _ s.1.length (s.1.map (Value.int .i64)) rfl (HSL2.out.keep ((Keeps.refl (fun _ => False) wr).alloc _) (fun _ _ h => h)) ⟨wr.heap.size,0,none⟩ 1 1 [.int .i64 v2] rfl rfl (news_at wr 3 _) (by intro u hu; simp at hu; subst hu; rfl) (by have := HSL.out; unfold maxLen; omega) (by have := HSL.out; omega) ?_)
   intro v2' w2 hs2 hk2 ho2
   have ka := (Keeps.refl (fun _ => False) wr).alloc (.cells #[.int .i64 v2] 3)
   have HT3 := Lib.hid (VR.out.pushMet ka (by simpa using hs2) (by rw [EMV.out]; exact hk2) (by rw [EMV.out]; simpa using ho2) ⟨HLV.out.1,by have := HLV.out.2.1; omega⟩)
   have hm2 := hk2.blk (ka.blk VR.out.hm (fun h => h)) (fun e => by obtain ⟨_,c,hc⟩ := HSL2.out.own e; exact hc.ne VR.out.hm (by decide) rfl)
   obtain ⟨mo2,mc2,rfl, -, -, -⟩ := hs2.rd
   have x0 := hm2.cell 0; have xl := hm2.lt; have xf := hm2.free 0
   simp only [List.getElem?_cons_zero] at x0
   have b1' := (hk2.blk (ka.blk XR.out (fun h => h)) (fun e => by obtain ⟨_,c,hc⟩ := HSL2.out.own e; exact hc.ne XR.out (by decide) rfl)).cell 1
   clear hs2 hk2 ho2 ka hm2 c0 cl b0 b1 bl f0 b1'
   go_wp2_with fail
   clear x0 xl xf
   generalize w2.setCell ⟨g.mb,0,none⟩ (.slice mo2 (s.1.length + 1) mc2) = w3 at *
   obtain ⟨mv3,nv3,F3,V3',k3,p0,p1,p2⟩ := HT3.out
   have V3 := Lib.hid V3'
   have XB3 := Lib.hid (k3.blk XR.out (VR.out.fp_ne XR.out (by decide) (by decide) (by decide) (by decide)))
   have RB3 := Lib.hid (k3.blk RR.out (VR.out.fp_ne RR.out (by decide) (by decide) (by decide) (by decide)))
   have KT3 := Lib.hid ((KR.out.mono (T := RvFp g mv nv) (fun _ _ h => h.elim)).trans k3)
   have P0 := Lib.hid (show ∀ k,ownB mv3 k → ownB mv k ∨ w1.heap.size ≤ k from fun k hk => (p0 k hk).imp id (fun h => Nat.le_trans KR.out.size h))
   have P1 := Lib.hid (show ∀ k,ownB nv3 k → ownB nv k ∨ w1.heap.size ≤ k from fun k hk => (p1 k hk).imp id (fun h => Nat.le_trans KR.out.size h))
   have P2 := Lib.hid (show ∀ k,F3 k → F k ∨ w1.heap.size ≤ k from fun k hk => (p2 k hk).imp id (fun h => Nat.le_trans KR.out.size h))
   clear HT3 VR XR RR V3' k3 p0 p1 p2 HSL2
   obtain ⟨m,rfl, -⟩ : ∃ m : Nat,v2 = m ∧ True := ⟨v2.toNat,by have := HLV.out.1; omega,trivial⟩
   have hmT : m < W.T.length := by have := HLV.out.2.1; omega
   obtain ⟨no,nc,etv,N⟩ := V3.out.H.ht.nth
   obtain ⟨gt,ot,ao,fc,rfl,hogt,hgt,t0,t1,t2,t3,hrd,hoF,hml2⟩ := N m hmT
   have HTH := Lib.hid (show W.th (m : Int) = W.T.getD m Th.none by unfold Wd.th; rw [Int.toNat_natCast])
   generalize hth : W.T.getD m Th.none = th at *
   have HRD := Lib.hid hrd
   obtain ⟨kd,fs,old,dead⟩ := th
   dsimp only at t0 t1 t2 t3 HRD hml2
   have a0 := V3.out.hw.cell 0; have al := V3.out.hw.lt
   obtain ⟨e0, -, -, -, -, -⟩ := V3.out.H.cells
   have el := V3.out.H.hp.lt
   rw [etv] at e0
   have b1 := XB3.out.cell 1; have bl := XB3.out.lt
   simp only [List.getElem?_cons_zero,List.getElem?_cons_succ] at a0 b1
   have HAF := Lib.hid (show ∀ a,ao = some a → h.Own a.block from fun a e => .inr (.inr (.inr (.inr (.inr (hoF a e))))))
   clear N hth hrd hoF
   go_wp2_with fail
   refine wp_region_ro (.free 4 (.pure 0 (.free 1 (.free 2 (.pure 3 (.pure 5 (.free 6 (.pure 7 (.run 8 (.run 9 (.swi [] (.fin)))))))))))) [9] (fun w' => w'.cell? ⟨g.wb,0,none⟩ = some (.pointer (some ⟨h.p,0,none⟩)) ∧ w'.cell? ⟨h.p,0,none⟩ = some (.slice (some ⟨gt,ot,none⟩) W.T.length nc) ∧ w'.cell? ⟨xb,1,none⟩ = some (.int .i64 m) ∧ w'.cell? ⟨gt,ot + m * 4,none⟩ = some (.int .i64 kd) ∧ w'.cell? ⟨gt,ot + m * 4 + 1,none⟩ = some (.slice ao fs.length fc) ∧ w'.cell? ⟨gt,ot + m * 4 + 1 + 1,none⟩ = some (.bool old) ∧ w'.cell? ⟨gt,ot + m * 4 + 1 + 1 + 1,none⟩ = some (.bool dead)) (by kernel_rfl) (by kernel_rfl) ⟨a0,e0,b1,t0,t1,t2,t3⟩ ?_
   iterate 8 first | (refine wpRO_free rfl rfl _ (fun w' => by go_simp; exact Gives.mk _ _) (fun K hK => ?_); go_simp; refine hK _ ?_; clear hK K) | (refine wpRO_skipF rfl rfl (fun K hK => ?_); go_simp; refine hK _ ?_; clear hK K) | (refine wpRO_pure rfl rfl _ (fun w' hG => by obtain ⟨a0,e0,b1,t0,t1,t2,t3⟩ := hG; exact gives_agg (cs := [_,_,_,_]) rfl (by decide +kernel) rfl (rangeAt_cons (by assumption) (rangeAt_cons (by assumption) (rangeAt_cons (by assumption) (rangeAt_cons (by assumption) rangeAt_nil))))) (fun K hK => ?_); go_simp; refine hK _ ?_; clear hK K) | (refine wpRO_pure rfl rfl _ (fun w' hG => by obtain ⟨a0,e0,b1,t0,t1,t2,t3⟩ := hG; exact gives_agg2 rfl (by decide +kernel) rfl (by assumption) (by assumption)) (fun K hK => ?_); go_simp; refine hK _ ?_; clear hK K) | (refine wpRO_pure rfl rfl _ (fun w' hG => by obtain ⟨a0,e0,b1,t0,t1,t2,t3⟩ := hG; go_simp; exact Gives.mk _ _) (fun K hK => ?_); go_simp; refine hK _ ?_; clear hK K) | (refine wpRO_skip rfl rfl (fun K hK => ?_); go_simp; refine hK _ ?_; clear hK K)
   refine wpRO_run rfl rfl (fun K hK => ?_); unfold gRun; go_simp
   have kz : Keeps (fun _ => False) w3 (w3.alloc (.cells #[.int .i64 0, .slice none 0 0, .bool false, .bool false] 161)).drew := ((Keeps.refl (fun _ => False) w3).alloc _).drew
   have tz : Blk (w3.alloc (.cells #[.int .i64 0, .slice none 0 0, .bool false, .bool false] 161)).drew w3.heap.size [.int .i64 0, .slice none 0 0, .bool false, .bool false] 161 := (Blk.new w3 [.int .i64 0, .slice none 0 0, .bool false, .bool false] 161).drew
   refine hK _ _ (fun _ => ⟨(kz.cellAt al (fun h => h) _).trans a0,(kz.cellAt el (fun h => h) _).trans e0,(kz.cellAt bl (fun h => h) _).trans b1,(kz.cellAt hgt (fun h => h) _).trans t0,(kz.cellAt hgt (fun h => h) _).trans t1,(kz.cellAt hgt (fun h => h) _).trans t2,(kz.cellAt hgt (fun h => h) _).trans t3⟩) ?_
   clear hK K
   have KZ := Lib.hid kz; have TZ := Lib.hid tz
   have z0 := tz.cell 0; have z1 := tz.cell 1; have z2 := tz.cell 2; have z3 := tz.cell 3; have zl := tz.lt; have zf := tz.free 0; have zf1 := tz.free 1; have zf2 := tz.free 2; have zf3 := tz.free 3
   simp only [List.getElem?_cons_zero,List.getElem?_cons_succ] at z0 z1 z2 z3
   clear kz tz a0 e0 b1 t0 t1 t2 t3 al el bl hgt
   have HTN := Lib.hid (show w3.heap.size = w3.heap.size from rfl)
   refine wpRO_chg rfl rfl rfl (fun K hK => ?_); unfold gRun; go_simp
   refine hK _ _ ?_
   clear hK K TZ KZ z0 z1 z2 z3 zl zf zf1 zf2 zf3 HTN
   refine wpRO_swi (fun _ => True) trivial (wpRO_fin ?_)
   have kt : Keeps (fun _ => False) w3 (w3.alloc (.cells #[.int .i64 kd, .slice ao fs.length fc, .bool old, .bool dead] 161)).drew := ((Keeps.refl (fun _ => False) w3).alloc _).drew
   have htb : Blk (w3.alloc (.cells #[.int .i64 kd, .slice ao fs.length fc, .bool old, .bool dead] 161)).drew w3.heap.size [.int .i64 kd, .slice ao fs.length fc, .bool old, .bool dead] 161 := (Blk.new w3 [.int .i64 kd, .slice ao fs.length fc, .bool old, .bool dead] 161).drew
   have TB := Lib.hid htb; have V4 := Lib.hid (V3.out.same kt); have XB4 := Lib.hid (kt.blk XB3.out (fun h => h)); have RB4 := Lib.hid (kt.blk RB3.out (fun h => h))
   have KT4 := Lib.hid (KT3.out.trans (kt.mono (fun _ _ h => h.elim))); have HRD4 := Lib.hid (HRD.out.keep kt (fun _ _ _ h => h))
   have TNO := Lib.hid (show ¬ h.Own w3.heap.size from fun e => by have := (V3.out.H.own_type e).1; omega)
   have TLE := Lib.hid (show w1.heap.size ≤ w3.heap.size from KT3.out.size)
   clear kt htb V3 XB3 RB3 KT3 HRD
   generalize (w3.alloc (.cells #[.int .i64 kd, .slice ao fs.length fc, .bool old, .bool dead] 161)).drew = w4 at *
   generalize w3.heap.size = tb at *
   obtain ⟨cs,hns,hcs⟩ := V4.out.N
   obtain ⟨nno,nnc,rfl, -,hnm, -⟩ := hns.rd
   have HNS := Lib.hid hns; have HCS := Lib.hid hcs
   have hs5 : s.2.length ≤ 5000 := by have := HLL.out; have := HSL.out; omega
   have v1 := V4.out.hv.cell 1; have vl := V4.out.hv.lt; have vf := V4.out.hv.free 1
   have t0 := TB.out.cell 0; have tl := TB.out.lt
   simp only [List.getElem?_cons_zero,List.getElem?_cons_succ] at v1 t0
   clear hns hcs hnm
   go_wp2_with (at_builtin; refine wpList_app rfl (.tmp 50) (.tmp 54) 70 rfl 83 ni (.agg #[.int .i64 0, .slice none 0 0]) 2 32 Try.underlying70 Ni.out Nz0.out Nz1.out Nz2.out rfl (by decide) _ s.2.length cs rfl (HNS.out.keep ((Keeps.refl (fun _ => False) w4).alloc _) (fun _ _ h => h)) ⟨w4.heap.size,0,none⟩ 1 1 [.int .i64 kd, .slice none 0 0] rfl rfl (news_at w4 83 _) (by intro u hu; simp at hu; rcases hu with rfl | rfl <;> rfl) (by unfold maxLen; omega) (by omega) ?_)
   intro v5' w5 hs5' hk5 ho5
   have ka := (Keeps.refl (fun _ => False) w4).alloc (.cells #[.int .i64 kd, .slice none 0 0] 83)
   have HT6 := Lib.hid (V4.out.pushNode (kd := kd) ka cs HCS.out (by simpa using hs5') hk5 (by simpa using ho5))
   have hv5 := hk5.blk (ka.blk V4.out.hv (fun h => h)) (fun e => by obtain ⟨_,c,hc⟩ := HNS.out.own e; exact hc.ne V4.out.hv (by decide) rfl)
   obtain ⟨no5,nc5,rfl, -, -, -⟩ := hs5'.rd
   have x1 := hv5.cell 1; have xl := hv5.lt; have xf := hv5.free 1
   simp only [List.getElem?_cons_zero,List.getElem?_cons_succ] at x1
   clear hs5' hk5 ho5 ka hv5 v1 vl vf t0 tl
   go_wp2_with fail
   clear x1 xl xf
   have HI0 := Lib.hid (show ∃ mv' nv' F',InR w1 g h W rv mv nv F xb rb tb [.int .i64 kd, .slice ao fs.length fc, .bool old, .bool dead] [.int .i64 3, .int .i64 m] [.int .i64 0, .int .i64 0] ao fs (s.1 ++ [(m : Int)],s.2 ++ [(kd,[])]) (.slice none 0 0) [] (w5.setCell ⟨g.vb,1,none⟩ (.slice no5 (s.2.length + 1) nc5)) mv' nv' F' by
    obtain ⟨mv6,nv6,F6,V6,k6,q0,q1,q2⟩ := HT6.out
    have nf : ∀ {b : Nat} {c : List Value} {T : TypeId},Blk w4 b c T → T ≠ 50 → T ≠ 72 → T ≠ 3 → T ≠ 83 → _ := fun hb h1 h2 h3 h4 => V4.out.fp_ne hb h1 h2 h3 h4
    refine ⟨mv6,nv6,F6,V6,KT4.out.then k6 (fun j hj => RvFp.step P0.out P1.out hj),fun k hk => ?_,fun k hk => ?_,fun k hk => ?_,Sl.nil _ _ _,fun k hk => (nil_own hk).elim,k6.blk TB.out (nf TB.out (by decide) (by decide) (by decide) (by decide)),k6.blk XB4.out (nf XB4.out (by decide) (by decide) (by decide) (by decide)),k6.blk RB4.out (nf RB4.out (by decide) (by decide) (by decide) (by decide)),XB.out.lt,RB.out.lt,TNO.out,fun k hk => (V1.out.H.own_type hk).1,V1.out.hw.lt,V1.out.hf.lt,HRD4.out.keep k6 (fun a e _ => V4.out.world_ne (HAF.out a e)),HAF.out⟩
    ·rcases q0 k hk with h | h
     ·exact P0.out k h
     ·exact .inr (Nat.le_trans KT4.out.size h)
    ·rcases q1 k hk with h | h
     ·exact P1.out k h
     ·exact .inr (Nat.le_trans KT4.out.size h)
    ·rcases q2 k hk with h | h
     ·exact P2.out k h
     ·exact .inr (Nat.le_trans KT4.out.size h))
   clear HT6 V4 XB4 RB4 TB HNS HCS
   generalize w5.setCell ⟨g.vb,1,none⟩ (.slice no5 (s.2.length + 1) nc5) = w6 at *
   have hgr1 : (W.gr m).1 = kd := by show (W.th m).k = kd; rw [HTH.out]
   have HGR1 := Lib.hid hgr1
   have HGF := Lib.hid (show ∀ j : Nat,(hj : j < fs.length) → (W.gr m).2[j]? = some (fs.getD j (0,0)) from fun j hj => by
    unfold Wd.gr
    dsimp only
    rw [HTH.out,List.getElem?_append_left (by exact hj),List.getD_eq_getElem?_getD,List.getElem?_eq_getElem hj]; rfl)
   have HGL := Lib.hid (show (W.gr m).2.length = fs.length + if kd = 5 then (waitAt W.wait m).length else 0 by
    unfold Wd.gr
    dsimp only
    rw [HTH.out,List.length_append]
    dsimp only
    split <;> simp)
   have HFL := Lib.hid (show fs.length ≤ 12 by have := Wd.th_bound HV.out.H.ok HLV.out; rw [HTH.out] at this; exact this)
   have HI1 := Lib.hid (show ∃ mv' nv' F',InR w1 g h W rv mv nv F xb rb tb [.int .i64 kd, .slice ao fs.length fc, .bool old, .bool dead] [.int .i64 3, .int .i64 m] [.int .i64 0, .int .i64 0] ao fs (NS W.gr n m s 0).2 (.slice none 0 0) (NS W.gr n m s 0).1 w6 mv' nv' F' by rw [NS_zero,hgr1]; exact HI0.out)
   clear HI0 hgr1
   have HUN := Lib.hid (fun j => NSG_un (Wd.inU HV.out.H.ok) (n := n) (s := s) HX.out j HU.out HC.out)
   have HNL := Lib.hid (fun j => NSG_len W.gr n (m : Int) s j HLL.out)
   go_loopw [10,11] (fun lv i wr => ∃ (j : Nat) (mv' nv' : Value) (F' : Nat → Prop),j ≤ fs.length ∧ i = .int .i64 j ∧ InR w1 g h W rv mv nv F xb rb tb [.int .i64 kd, .slice ao fs.length fc, .bool old, .bool dead] [.int .i64 3, .int .i64 m] [.int .i64 0, .int .i64 0] ao fs (NS W.gr n m s j).2 lv (NS W.gr n m s j).1 wr mv' nv' F') (fun _ i _ => fs.length - (intOf i).toNat)
   case atStart =>
    obtain ⟨mv',nv',F',hI⟩ := HI1.out
    exact ⟨0,mv',nv',F',Nat.zero_le _,rfl,hI⟩
   case round =>
    clear HI1
    obtain ⟨j,mv7,nv7,F7,hj,rfl,hI⟩ := hrel
    have HI := Lib.hid hI
    have t1 := hI.T.cell 1; have t0 := hI.T.cell 0; have tl := hI.T.lt
    simp only [List.getElem?_cons_zero,List.getElem?_cons_succ] at t0 t1
    by_cases hlt : j < fs.length
    ·have HST := Lib.hid (NS_step W.gr n m s (HGF.out j hlt))
     have hjl := NS_len W.gr n m s (j := j) (by rw [HGL.out]; omega)
     have HJL := Lib.hid hjl
     obtain ⟨gf,of,rfl,hgf,d0,d1⟩ := hI.D.val j hlt
     have a0 := hI.V.hf.cell 0; have al := hI.V.hf.lt
     simp only [List.getElem?_cons_zero] at a0
     generalize hfv : fs.getD j (0,0) = fv at *
     have HFA := Lib.hid (show fv.1 = 3 → fv.2 ∈ W.all from fun h3 => Wd.mem_all.2 (Wd.okV_ref (hI.V.H.ok.tv m HLV.out fv (by rw [HTH.out, ← hfv]; dsimp only; rw [List.getD_eq_getElem?_getD,List.getElem?_eq_getElem hlt]; exact List.getElem_mem hlt)) h3))
     obtain ⟨f1,f2⟩ := fv
     dsimp only at d0 d1
     obtain ⟨lo,lc,rfl, -, -, -⟩ := hI.L.rd
     rw [hjl] at HI ⊢
     clear hI hjl
     unfold RVH.fn at a0
     go_wp2_with fail
     refine wp_region_ro (.free 1 (.free 3 (.pure 0 (.pure 2 (.free 4 (.pure 5 (.two 6 (.run 7 (.run 8 (.swi [] (.fin)))) 7 (.run 6 (.swi [8] (.run 8 (.swi [] (.fin)))))))))))) [8] (fun w' => w'.cell? ⟨g.fb,0,none⟩ = some (.func (.func 108) #[] #[.pointer (some ⟨g.mb,0,none⟩), .pointer (some ⟨g.wb,0,none⟩), .pointer (some ⟨g.vb,0,none⟩), .pointer (some ⟨g.fb,0,none⟩)]) ∧ w'.cell? ⟨tb,1,none⟩ = some (.slice (some ⟨gf,of,none⟩) fs.length fc) ∧ w'.cell? ⟨gf,of + j * 2,none⟩ = some (.int .i64 f1) ∧ w'.cell? ⟨gf,of + j * 2 + 1,none⟩ = some (.int .i64 f2)) (by kernel_rfl) (by kernel_rfl) ⟨a0,t1,d0,d1⟩ ?_
     iterate 6 first | (refine wpRO_free rfl rfl _ (fun w' => by go_simp; exact Gives.mk _ _) (fun K hK => ?_); go_simp; refine hK _ ?_; clear hK K) | (refine wpRO_skipF rfl rfl (fun K hK => ?_); go_simp; refine hK _ ?_; clear hK K) | (refine wpRO_pure rfl rfl _ (fun w' hG => by obtain ⟨a0,t1,d0,d1⟩ := hG; exact gives_agg2 rfl (by decide +kernel) rfl (by assumption) (by assumption)) (fun K hK => ?_); go_simp; refine hK _ ?_; clear hK K) | (refine wpRO_pure rfl rfl _ (fun w' hG => by obtain ⟨a0,t1,d0,d1⟩ := hG; go_simp; exact Gives.mk _ _) (fun K hK => ?_); go_simp; refine hK _ ?_; clear hK K) | (refine wpRO_skip rfl rfl (fun K hK => ?_); go_simp; refine hK _ ?_; clear hK K)
     refine wpRO_two rfl rfl rfl rfl (fun K hK => ?_) (fun K hK => ?_)
     ·unfold gRun; go_simp
      refine (HIH.out (f1,f2) mv7 nv7 F7 _ _ (HI.out.V.same ((Keeps.refl (fun _ => False) wr).drew)) (HFA.out) (HUN.out j).1 (HUN.out j).2 (HNL.out j)).mono ?_
      rintro e w8 ⟨rfl,mv8,nv8,F8,V8,k8,p0,p1,p2⟩
      have HI8 := Lib.hid ((HI.out.same ((Keeps.refl (fun _ => False) wr).drew)).toldE V8 k8 p0 p1 p2)
      obtain ⟨⟨⟨r1,r2⟩,sr⟩,hr⟩ : ∃ t,valM W.gr n (f1,f2) (NS W.gr n m s j).2 = t := ⟨_,rfl⟩
      rw [hr] at HI8 HST ⊢
      dsimp only at HI8 HST ⊢
      have hgf8 := Nat.lt_of_lt_of_le hgf k8.size
      have d8 := (k8.cellAt hgf (HI.out.V.world_ne (HI.out.dF _ rfl)) _).trans d0
      have d9 := (k8.cellAt hgf (HI.out.V.world_ne (HI.out.dF _ rfl)) _).trans d1
      refine hK _ _ (fun h => h) (fun _ _ => ⟨HI8.out.V.hf.cell 0,HI8.out.T.cell 1,d8,d9⟩) ?_
      clear hK K V8 k8 p0 p1 p2 hr a0 t1 d0 d1 hgf al tl t0 HI
      refine wpRO_run rfl rfl (fun K hK => ?_); unfold gRun; go_simp
      have kz : Keeps (fun _ => False) w8 (w8.alloc (.cells #[.int .i64 0, .int .i64 0] 78)).drew := ((Keeps.refl (fun _ => False) w8).alloc _).drew
      have tz : Blk (w8.alloc (.cells #[.int .i64 0, .int .i64 0] 78)).drew w8.heap.size [.int .i64 0, .int .i64 0] 78 := (Blk.new w8 [.int .i64 0, .int .i64 0] 78).drew
      have HI9 := Lib.hid (HI8.out.same kz)
      refine hK _ _ (fun _ => ⟨HI9.out.V.hf.cell 0,HI9.out.T.cell 1,(kz.cellAt hgf8 (fun h => h) _).trans d8,(kz.cellAt hgf8 (fun h => h) _).trans d9⟩) ?_
      clear hK K d8 d9 hgf8
      have z0 := tz.cell 0; have z1 := tz.cell 1; have zl := tz.lt; have zf := tz.free 0; have zf1 := tz.free 1
      simp only [List.getElem?_cons_zero,List.getElem?_cons_succ] at z0 z1
      clear kz tz
      refine wpRO_chg rfl rfl rfl (fun K hK => ?_); unfold gRun; go_simp
      refine hK _ _ ?_
      clear hK K z0 z1 zl zf zf1 HI9
      refine wpRO_swi (fun _ => True) trivial (wpRO_fin ?_)
      have kz : Keeps (fun _ => False) w8 (w8.alloc (.cells #[.int .i64 r1, .int .i64 r2] 78)) := ((Keeps.refl (fun _ => False) w8).alloc _)
      have tz : Blk (w8.alloc (.cells #[.int .i64 r1, .int .i64 r2] 78)) w8.heap.size [.int .i64 r1, .int .i64 r2] 78 := (Blk.new w8 [.int .i64 r1, .int .i64 r2] 78)
      have HI2 := Lib.hid (HI8.out.same kz)
      clear HI8 kz
      generalize w8.alloc (.cells #[.int .i64 r1, .int .i64 r2] 78) = w9 at *
      have HL2 := Lib.hid (show Sl w9 78 2 (.slice lo j lc) j (entV (NS W.gr n m s j).1) by have := HI2.out.L; rw [HJL.out] at this; exact this)
      have z0 := tz.cell 0; have z1 := tz.cell 1; have zl := tz.lt
      simp only [List.getElem?_cons_zero,List.getElem?_cons_succ] at z0 z1
      generalize w8.heap.size = tv at *
      clear tz
      go_wp2_with (at_builtin; refine wpList_app rfl (.tmp 71) (.tmp 73) 69 rfl 78 vi (.agg #[.int .i64 0, .int .i64 0]) 2 16 Try.underlying69 Vi.out Vz0.out Vz1.out Vz2.out rfl (by decide) _ j (entV (NS W.gr n m s j).1) rfl (HL2.out.keep ((Keeps.refl (fun _ => False) w9).alloc _) (fun _ _ h => h)) ⟨w9.heap.size,0,none⟩ 1 1 [.int .i64 r1, .int .i64 r2] rfl rfl (news_at w9 78 #[.int .i64 r1, .int .i64 r2]) (by intro u hu; simp at hu; rcases hu with rfl | rfl <;> rfl) (by have := HFL.out; unfold maxLen; omega) (by have := HFL.out; omega) ?_)
      intro v10 w10 hs10 hk10 ho10
      have HI10 := Lib.hid (HI2.out.app (v := (r1,r2)) ((Keeps.refl (fun _ => False) w9).alloc _) (by rw [HJL.out]; exact hs10) hk10 (by simpa using ho10))
      clear hs10 hk10 ho10 HL2 HI2 z0 z1 zl
      have hfl := HFL.out
      go_wp2_with fail
      go_roundw
      case rel => exact ⟨j + 1,_,_,_,by omega,by go_num,by rw [HST.out]; exact HI10.out⟩
      case measure => simp [intOf]; omega
     ·unfold gRun; go_simp
      have kz : Keeps (fun _ => False) wr (wr.alloc (.cells #[.int .i64 0, .int .i64 0] 78)).drew := ((Keeps.refl (fun _ => False) wr).alloc _).drew
      have tz : Blk (wr.alloc (.cells #[.int .i64 0, .int .i64 0] 78)).drew wr.heap.size [.int .i64 0, .int .i64 0] 78 := (Blk.new wr [.int .i64 0, .int .i64 0] 78).drew
      have HIA := Lib.hid (HI.out.same kz)
      have TF := Lib.hid (show ¬ F7 wr.heap.size from fun hf => by have := (HI.out.V.hF _ hf).1; omega)
      have TL := Lib.hid (show ¬ ownB (.slice lo j lc) wr.heap.size from fun hf => by have := (HI.out.L.own hf).1; omega)
      have T1 := Lib.hid (show w1.heap.size ≤ wr.heap.size from HI.out.K.size)
      have TZ := Lib.hid tz
      have d8 := (kz.cellAt hgf (fun h => h) _).trans d0; have d9 := (kz.cellAt hgf (fun h => h) _).trans d1
      have hgf8 := Nat.lt_of_lt_of_le hgf kz.size
      refine hK _ _ (fun h => h) (fun _ _ => ⟨HIA.out.V.hf.cell 0,HIA.out.T.cell 1,d8,d9⟩) ?_
      clear hK K kz tz HI hgf d0 d1 a0 t1 al tl t0
      generalize (wr.alloc (.cells #[.int .i64 0, .int .i64 0] 78)).drew = wa at *
      generalize wr.heap.size = zb at *
      refine wpRO_run rfl rfl (fun K hK => ?_); unfold gRun; go_simp
      refine (HIH.out (f1,f2) mv7 nv7 F7 _ _ HIA.out.V (HFA.out) (HUN.out j).1 (HUN.out j).2 (HNL.out j)).mono ?_
      rintro e w8 ⟨rfl,mv8,nv8,F8,V8,k8,p0,p1,p2⟩
      have HI8 := Lib.hid (HIA.out.toldE V8 k8 p0 p1 p2)
      obtain ⟨⟨⟨r1,r2⟩,sr⟩,hr⟩ : ∃ t,valM W.gr n (f1,f2) (NS W.gr n m s j).2 = t := ⟨_,rfl⟩
      rw [hr] at HI8 HST ⊢
      dsimp only at HI8 HST ⊢
      have TF8 := Lib.hid (show ¬ F8 zb from fun hf => by rcases p2 _ hf with h | h; exact TF.out h; exact absurd h (Nat.not_le.2 TZ.out.lt))
      have tz8 := k8.blk TZ.out (HIA.out.V.fp_ne TZ.out (by decide) (by decide) (by decide) (by decide))
      refine hK _ _ (fun _ => ⟨HI8.out.V.hf.cell 0,HI8.out.T.cell 1,(k8.cellAt hgf8 (HIA.out.V.world_ne (HIA.out.dF _ rfl)) _).trans d8,(k8.cellAt hgf8 (HIA.out.V.world_ne (HIA.out.dF _ rfl)) _).trans d9⟩) ?_
      clear hK K V8 k8 p0 p1 p2 hr d8 d9 hgf8 TZ TF HIA
      refine wpRO_swi (fun _ => True) trivial ?_
      have TZ := Lib.hid tz8
      have z0 := tz8.cell 0; have z1 := tz8.cell 1; have zl := tz8.lt; have zf := tz8.free 0; have zf1 := tz8.free 1
      simp only [List.getElem?_cons_zero,List.getElem?_cons_succ] at z0 z1
      clear tz8
      refine wpRO_chg rfl rfl rfl (fun K hK => ?_); unfold gRun; go_simp
      refine hK _ _ ?_
      clear hK K z0 z1 zl zf zf1
      refine wpRO_swi (fun _ => True) trivial (wpRO_fin ?_)
      have kz : Keeps (· = zb) w8 ((w8.setCell ⟨zb,0,none⟩ (.int .i64 r1)).setCell ⟨zb,1,none⟩ (.int .i64 r2)) := ((Keeps.refl (· = zb) w8).setCell (.inl rfl) _).setCell (.inl rfl) _
      have HI2 := Lib.hid (HI8.out.other kz ⟨_,TZ.out⟩ T1.out TF8.out TL.out)
      have tz : Blk ((w8.setCell ⟨zb,0,none⟩ (.int .i64 r1)).setCell ⟨zb,1,none⟩ (.int .i64 r2)) zb [.int .i64 r1, .int .i64 r2] 78 := (TZ.out.setSame 0 (.int .i64 r1)).setSame 1 (.int .i64 r2)
      clear HI8 kz TZ TF8 T1 TL
      generalize (w8.setCell ⟨zb,0,none⟩ (.int .i64 r1)).setCell ⟨zb,1,none⟩ (.int .i64 r2) = w9 at *
      have HL2 := Lib.hid (show Sl w9 78 2 (.slice lo j lc) j (entV (NS W.gr n m s j).1) by have := HI2.out.L; rw [HJL.out] at this; exact this)
      have z0 := tz.cell 0; have z1 := tz.cell 1; have zl := tz.lt
      simp only [List.getElem?_cons_zero,List.getElem?_cons_succ] at z0 z1
      generalize zb = tv at *
      clear tz
      go_wp2_with (at_builtin; refine wpList_app rfl (.tmp 71) (.tmp 73) 69 rfl 78 vi (.agg #[.int .i64 0, .int .i64 0]) 2 16 Try.underlying69 Vi.out Vz0.out Vz1.out Vz2.out rfl (by decide) _ j (entV (NS W.gr n m s j).1) rfl (HL2.out.keep ((Keeps.refl (fun _ => False) w9).alloc _) (fun _ _ h => h)) ⟨w9.heap.size,0,none⟩ 1 1 [.int .i64 r1, .int .i64 r2] rfl rfl (news_at w9 78 #[.int .i64 r1, .int .i64 r2]) (by intro u hu; simp at hu; rcases hu with rfl | rfl <;> rfl) (by have := HFL.out; unfold maxLen; omega) (by have := HFL.out; omega) ?_)
      intro v10 w10 hs10 hk10 ho10
      have HI10 := Lib.hid (HI2.out.app (v := (r1,r2)) ((Keeps.refl (fun _ => False) w9).alloc _) (by rw [HJL.out]; exact hs10) hk10 (by simpa using ho10))
      clear hs10 hk10 ho10 HL2 HI2 z0 z1 zl
      have hfl := HFL.out
      go_wp2_with fail
      go_roundw
      case rel => exact ⟨j + 1,_,_,_,by omega,by go_num,by rw [HST.out]; exact HI10.out⟩
      case measure => simp [intOf]; omega
    ·obtain rfl : j = fs.length := by omega
     clear hlt hj
     obtain ⟨wo,wc,ewv, -, -, -⟩ := hI.V.H.hw.rd
     have EWV := Lib.hid ewv
     have hwn : W.wait.length ≤ 24 := by have := hI.V.H.ok.hq; omega
     have HWN := Lib.hid hwn
     have e3 := hI.V.H.cells.2.2.2.1; have el := hI.V.H.hp.lt
     rw [ewv] at e3
     have a0 := hI.V.hw.cell 0; have al := hI.V.hw.lt
     simp only [List.getElem?_cons_zero] at a0
     have HGW := Lib.hid (show ∀ p,p < W.wait.length → kd = 5 → (W.wait.getD p (0,0)).1 = (m : Int) → (W.gr m).2[fs.length + cntW W.wait m p]? = some (3,(W.wait.getD p (0,0)).2) from fun p hp h5 he => by
      unfold Wd.gr
      dsimp only
      rw [HTH.out,List.getElem?_append_right (by dsimp only; omega)]
      dsimp only
      rw [Nat.add_sub_cancel_left,if_pos h5,List.getElem?_map,cntW_at hp he]
      rfl)
     have HKP := Lib.hid (fun q => NS_keep W.gr n (m : Int) s q HLL.out)
     have HFULL := Lib.hid (show ∀ p,(p = W.wait.length ∨ kd ≠ 5) → (kd ≠ 5 → p = 0) → NS W.gr n m s (fs.length + cntW W.wait m p) = fldM (valM W.gr n) (W.gr m).2 (s.1 ++ [(m : Int)],s.2 ++ [((W.gr m).1,[])]) from fun p h1 h2 => by
      unfold NS
      rw [List.take_of_length_le]
      rw [HGL.out]
      by_cases h5 : kd = 5
      ·rw [if_pos h5]
       rcases h1 with rfl | h1
       ·rw [cntW_all]; exact Nat.le_refl _
       ·exact absurd h5 h1
      ·rw [if_neg h5]; omega)
     clear hI
     go_wp2_with fail
     clear a0 al e3 el t0 tl t1
     go_loopw [10,13] (fun lv i wx => ∃ (p : Nat) (mv' nv' : Value) (F' : Nat → Prop),p ≤ W.wait.length ∧ (kd ≠ 5 → p = 0) ∧ i = .int .i64 p ∧ InR w1 g h W rv mv nv F xb rb tb [.int .i64 kd, .slice ao fs.length fc, .bool old, .bool dead] [.int .i64 3, .int .i64 m] [.int .i64 0, .int .i64 0] ao fs (NS W.gr n m s (fs.length + cntW W.wait m p)).2 lv (NS W.gr n m s (fs.length + cntW W.wait m p)).1 wx mv' nv' F') (fun _ i _ => W.wait.length - (intOf i).toNat)
     case atStart =>
      exact ⟨0,_,_,_,Nat.zero_le _,fun _ => rfl,rfl,by rw [cntW_zero,Nat.add_zero]; exact HI.out⟩
     case round =>
      clear HI
      obtain ⟨p,mv9,nv9,F9,hp,hp5,rfl,hI⟩ := hrel
      have HI := Lib.hid hI
      have t0 := hI.T.cell 0; have tl := hI.T.lt
      have e3 := hI.V.H.cells.2.2.2.1; have el := hI.V.H.hp.lt
      rw [EWV.out] at e3
      have a0 := hI.V.hw.cell 0; have al := hI.V.hw.lt
      simp only [List.getElem?_cons_zero] at a0 t0
      by_cases hlt : p < W.wait.length
      ·by_cases hk5 : kd = 5
       ·have hkb : (kd == 5) = true := by simpa using hk5
        have HK5 := Lib.hid hk5
        obtain ⟨gw,ow,hwo,hown,hcell⟩ := HI.out.V.H.waitCell hlt EWV.out
        subst hwo
        have HCW := Lib.hid hcell; have HOW := Lib.hid hown
        have HXW := Lib.hid (show (W.wait.getD p (0,0)).2 ∈ W.all from Wd.mem_all.2 (HI.out.V.H.ok.wv _ (by rw [List.getD_eq_getElem?_getD,List.getElem?_eq_getElem hlt]; exact List.getElem_mem hlt)).2.2)
        have HGP := Lib.hid (HGW.out p hlt hk5)
        have HSTP := Lib.hid (cntW_step (g := (m : Int)) hlt)
        obtain ⟨gwl,d0,d1⟩ := hcell _ HI.out.V.H
        have b1 := HI.out.X.cell 1; have bl := HI.out.X.lt
        simp only [List.getElem?_cons_zero,List.getElem?_cons_succ] at b1
        clear hI hcell hown hk5 hp5
        generalize W.wait.getD p (0,0) = ent at *
        obtain ⟨x1,x2⟩ := ent
        dsimp only at d0 d1 HXW HGP HSTP
        have hwn := HWN.out
        go_wp2_with fail
        refine wp_region_ro (.free 4 (.free 8 (.pure 0 (.free 1 (.free 2 (.pure 3 (.free 5 (.free 6 (.pure 7 (.pure 9 (.free 10 (.fin)))))))))))) [] (fun w' => w'.cell? ⟨g.wb,0,none⟩ = some (.pointer (some ⟨h.p,0,none⟩)) ∧ w'.cell? ⟨h.p,3,none⟩ = some (.slice (some ⟨gw,ow,none⟩) W.wait.length wc) ∧ w'.cell? ⟨gw,ow + p * 2,none⟩ = some (.int .i64 x1) ∧ w'.cell? ⟨xb,1,none⟩ = some (.int .i64 m)) (by kernel_rfl) (by kernel_rfl) ⟨a0,e3,d0,b1⟩ ?_
        iterate 11 first | (refine wpRO_free rfl rfl _ (fun w' => by go_simp; exact Gives.mk _ _) (fun K hK => ?_); go_simp; refine hK _ ?_; clear hK K) | (refine wpRO_skipF rfl rfl (fun K hK => ?_); go_simp; refine hK _ ?_; clear hK K) | (refine wpRO_pure rfl rfl _ (fun w' hG => by obtain ⟨a0,e3,d0,b1⟩ := hG; exact gives_agg2 rfl (by decide +kernel) rfl (by assumption) (by assumption)) (fun K hK => ?_); go_simp; refine hK _ ?_; clear hK K) | (refine wpRO_pure rfl rfl _ (fun w' hG => by obtain ⟨a0,e3,d0,b1⟩ := hG; go_simp; exact Gives.mk _ _) (fun K hK => ?_); go_simp; refine hK _ ?_; clear hK K) | (refine wpRO_skip rfl rfl (fun K hK => ?_); go_simp; refine hK _ ?_; clear hK K)
        refine wpRO_fin ?_
        have HI := Lib.hid (HI.out.same ((Keeps.refl (fun _ => False) wr).drew))
        clear a0 al e3 el t0 tl b1 bl gwl d0 d1
        by_cases he : x1 = m
        ·subst he
         have hgp := HGP.out rfl
         have hjl0 : fs.length + cntW W.wait m p < (W.gr m).2.length := (List.getElem?_eq_some_iff.1 hgp).1
         have HFL := Lib.hid (show fs.length + cntW W.wait m p ≤ 40 by have h1 := HFL.out; have h2 := cntW_le (l := W.wait) (g := (m : Int)) p; omega)
         obtain ⟨j,hj⟩ : ∃ j,fs.length + cntW W.wait m p = j := ⟨_,rfl⟩
         have HJQ := Lib.hid hj
         rw [hj] at HI HFL hgp hjl0
         clear hj
         have HST := Lib.hid (NS_step W.gr n m s hgp)
         have hjl := NS_len W.gr n m s (j := j) (by omega)
         have HJL := Lib.hid hjl
         obtain ⟨lo,lc,rfl, -, -, -⟩ := HI.out.L.rd
         rw [hjl] at HI ⊢
         clear hgp hjl0 hjl
         generalize wr.drew = wr at *
         have a0 := HI.out.V.hw.cell 0; have al := HI.out.V.hw.lt
         have e3 := HI.out.V.H.cells.2.2.2.1; have el := HI.out.V.H.hp.lt
         rw [EWV.out] at e3
         have c0 := HI.out.V.hf.cell 0; have cl := HI.out.V.hf.lt
         simp only [List.getElem?_cons_zero] at a0 c0
         obtain ⟨gwl, -,d1⟩ := HCW.out _ HI.out.V.H
         unfold RVH.fn at c0
         have hwn := HWN.out
         go_wp2_with fail
         refine wp_region_ro (.free 5 (.pure 0 (.pure 1 (.free 2 (.free 3 (.pure 4 (.free 6 (.free 7 (.pure 8 (.free 9 (.two 10 (.run 11 (.run 12 (.swi [] (.fin)))) 11 (.run 10 (.swi [12] (.run 12 (.swi [] (.fin)))))))))))))))) [12] (fun w' => w'.cell? ⟨g.fb,0,none⟩ = some (.func (.func 108) #[] #[.pointer (some ⟨g.mb,0,none⟩), .pointer (some ⟨g.wb,0,none⟩), .pointer (some ⟨g.vb,0,none⟩), .pointer (some ⟨g.fb,0,none⟩)]) ∧ w'.cell? ⟨g.wb,0,none⟩ = some (.pointer (some ⟨h.p,0,none⟩)) ∧ w'.cell? ⟨h.p,3,none⟩ = some (.slice (some ⟨gw,ow,none⟩) W.wait.length wc) ∧ w'.cell? ⟨gw,ow + p * 2 + 1,none⟩ = some (.int .i64 x2)) (by kernel_rfl) (by kernel_rfl) ⟨c0,a0,e3,d1⟩ ?_
         iterate 10 first | (refine wpRO_free rfl rfl _ (fun w' => by go_simp; exact Gives.mk _ _) (fun K hK => ?_); go_simp; refine hK _ ?_; clear hK K) | (refine wpRO_skipF rfl rfl (fun K hK => ?_); go_simp; refine hK _ ?_; clear hK K) | (refine wpRO_pure rfl rfl _ (fun w' hG => by obtain ⟨c0,a0,e3,d1⟩ := hG; exact gives_agg2 rfl (by decide +kernel) rfl (by assumption) (by assumption)) (fun K hK => ?_); go_simp; refine hK _ ?_; clear hK K) | (refine wpRO_pure rfl rfl _ (fun w' hG => by obtain ⟨c0,a0,e3,d1⟩ := hG; go_simp; exact Gives.mk _ _) (fun K hK => ?_); go_simp; refine hK _ ?_; clear hK K) | (refine wpRO_skip rfl rfl (fun K hK => ?_); go_simp; refine hK _ ?_; clear hK K)
         refine wpRO_two rfl rfl rfl rfl (fun K hK => ?_) (fun K hK => ?_)
         ·unfold gRun; go_simp
          refine (HIH.out (3,x2) mv9 nv9 F9 _ _ (HI.out.V.same ((Keeps.refl (fun _ => False) wr).drew)) (fun _ => HXW.out) (HUN.out j).1 (HUN.out j).2 (HNL.out j)).mono ?_
          rintro e w8 ⟨rfl,mv8,nv8,F8,V8,k8,p0,p1,p2⟩
          have HI8 := Lib.hid ((HI.out.same ((Keeps.refl (fun _ => False) wr).drew)).toldE V8 k8 p0 p1 p2)
          obtain ⟨⟨⟨r1,r2⟩,sr⟩,hr⟩ : ∃ t,valM W.gr n (3,x2) (NS W.gr n m s j).2 = t := ⟨_,rfl⟩
          rw [hr] at HI8 HST ⊢
          dsimp only at HI8 HST ⊢
          refine hK _ _ (fun h => h) (fun _ _ => ⟨HI8.out.V.hf.cell 0,HI8.out.V.hw.cell 0,by have := HI8.out.V.H.cells.2.2.2.1; rw [EWV.out] at this; exact this,(HCW.out _ HI8.out.V.H).2.2⟩) ?_
          clear hK K V8 k8 p0 p1 p2 hr a0 al e3 el c0 cl gwl d1 HI
          refine wpRO_run rfl rfl (fun K hK => ?_); unfold gRun; go_simp
          have kz : Keeps (fun _ => False) w8 (w8.alloc (.cells #[.int .i64 0, .int .i64 0] 78)).drew := ((Keeps.refl (fun _ => False) w8).alloc _).drew
          have tz : Blk (w8.alloc (.cells #[.int .i64 0, .int .i64 0] 78)).drew w8.heap.size [.int .i64 0, .int .i64 0] 78 := (Blk.new w8 [.int .i64 0, .int .i64 0] 78).drew
          have HI9 := Lib.hid (HI8.out.same kz)
          refine hK _ _ (fun _ => ⟨HI9.out.V.hf.cell 0,HI9.out.V.hw.cell 0,by have := HI9.out.V.H.cells.2.2.2.1; rw [EWV.out] at this; exact this,(HCW.out _ HI9.out.V.H).2.2⟩) ?_
          clear hK K
          have z0 := tz.cell 0; have z1 := tz.cell 1; have zl := tz.lt; have zf := tz.free 0; have zf1 := tz.free 1
          simp only [List.getElem?_cons_zero,List.getElem?_cons_succ] at z0 z1
          clear kz tz
          refine wpRO_chg rfl rfl rfl (fun K hK => ?_); unfold gRun; go_simp
          refine hK _ _ ?_
          clear hK K z0 z1 zl zf zf1 HI9
          refine wpRO_swi (fun _ => True) trivial (wpRO_fin ?_)
          have kz : Keeps (fun _ => False) w8 (w8.alloc (.cells #[.int .i64 r1, .int .i64 r2] 78)) := ((Keeps.refl (fun _ => False) w8).alloc _)
          have tz : Blk (w8.alloc (.cells #[.int .i64 r1, .int .i64 r2] 78)) w8.heap.size [.int .i64 r1, .int .i64 r2] 78 := (Blk.new w8 [.int .i64 r1, .int .i64 r2] 78)
          have HI2 := Lib.hid (HI8.out.same kz)
          clear HI8 kz
          generalize w8.alloc (.cells #[.int .i64 r1, .int .i64 r2] 78) = w9 at *
          have HL2 := Lib.hid (show Sl w9 78 2 (.slice lo j lc) j (entV (NS W.gr n m s j).1) by have := HI2.out.L; rw [HJL.out] at this; exact this)
          have z0 := tz.cell 0; have z1 := tz.cell 1; have zl := tz.lt
          simp only [List.getElem?_cons_zero,List.getElem?_cons_succ] at z0 z1
          generalize w8.heap.size = tv at *
          clear tz
          go_wp2_with (at_builtin; refine wpList_app rfl (.tmp 111) (.tmp 113) 69 rfl 78 vi (.agg #[.int .i64 0, .int .i64 0]) 2 16 Try.underlying69 Vi.out Vz0.out Vz1.out Vz2.out rfl (by decide) _ j (entV (NS W.gr n m s j).1) rfl (HL2.out.keep ((Keeps.refl (fun _ => False) w9).alloc _) (fun _ _ h => h)) ⟨w9.heap.size,0,none⟩ 1 1 [.int .i64 r1, .int .i64 r2] rfl rfl (news_at w9 78 #[.int .i64 r1, .int .i64 r2]) (by intro u hu; simp at hu; rcases hu with rfl | rfl <;> rfl) (by have := HFL.out; unfold maxLen; omega) (by have := HFL.out; omega) ?_)
          intro v10 w10 hs10 hk10 ho10
          have HI10 := Lib.hid (HI2.out.app (v := (r1,r2)) ((Keeps.refl (fun _ => False) w9).alloc _) (by rw [HJL.out]; exact hs10) hk10 (by simpa using ho10))
          clear hs10 hk10 ho10 HL2 HI2 z0 z1 zl
          have hfl := HFL.out
          have hwn := HWN.out
          go_wp2_with fail
          go_roundw
          case rel => exact ⟨p + 1,_,_,_,hlt,fun h => absurd HK5.out h,by go_num,by rw [HSTP.out,if_pos (by trivial), ← Nat.add_assoc,HJQ.out,HST.out]; exact HI10.out⟩
          case measure => simp [intOf]; omega
         ·unfold gRun; go_simp
          have kz : Keeps (fun _ => False) wr (wr.alloc (.cells #[.int .i64 0, .int .i64 0] 78)).drew := ((Keeps.refl (fun _ => False) wr).alloc _).drew
          have tz : Blk (wr.alloc (.cells #[.int .i64 0, .int .i64 0] 78)).drew wr.heap.size [.int .i64 0, .int .i64 0] 78 := (Blk.new wr [.int .i64 0, .int .i64 0] 78).drew
          have HIA := Lib.hid (HI.out.same kz)
          have TF := Lib.hid (show ¬ F9 wr.heap.size from fun hf => by have := (HI.out.V.hF _ hf).1; omega)
          have TL := Lib.hid (show ¬ ownB (.slice lo j lc) wr.heap.size from fun hf => by have := (HI.out.L.own hf).1; omega)
          have T1 := Lib.hid (show w1.heap.size ≤ wr.heap.size from HI.out.K.size)
          have TZ := Lib.hid tz
          refine hK _ _ (fun h => h) (fun _ _ => ⟨HIA.out.V.hf.cell 0,HIA.out.V.hw.cell 0,by have := HIA.out.V.H.cells.2.2.2.1; rw [EWV.out] at this; exact this,(HCW.out _ HIA.out.V.H).2.2⟩) ?_
          clear hK K kz tz HI a0 al e3 el c0 cl gwl d1
          generalize (wr.alloc (.cells #[.int .i64 0, .int .i64 0] 78)).drew = wa at *
          generalize wr.heap.size = zb at *
          refine wpRO_run rfl rfl (fun K hK => ?_); unfold gRun; go_simp
          refine (HIH.out (3,x2) mv9 nv9 F9 _ _ HIA.out.V (fun _ => HXW.out) (HUN.out j).1 (HUN.out j).2 (HNL.out j)).mono ?_
          rintro e w8 ⟨rfl,mv8,nv8,F8,V8,k8,p0,p1,p2⟩
          have HI8 := Lib.hid (HIA.out.toldE V8 k8 p0 p1 p2)
          obtain ⟨⟨⟨r1,r2⟩,sr⟩,hr⟩ : ∃ t,valM W.gr n (3,x2) (NS W.gr n m s j).2 = t := ⟨_,rfl⟩
          rw [hr] at HI8 HST ⊢
          dsimp only at HI8 HST ⊢
          have TF8 := Lib.hid (show ¬ F8 zb from fun hf => by rcases p2 _ hf with h | h; exact TF.out h; exact absurd h (Nat.not_le.2 TZ.out.lt))
          have tz8 := k8.blk TZ.out (HIA.out.V.fp_ne TZ.out (by decide) (by decide) (by decide) (by decide))
          refine hK _ _ (fun _ => ⟨HI8.out.V.hf.cell 0,HI8.out.V.hw.cell 0,by have := HI8.out.V.H.cells.2.2.2.1; rw [EWV.out] at this; exact this,(HCW.out _ HI8.out.V.H).2.2⟩) ?_
          clear hK K V8 k8 p0 p1 p2 hr TZ TF HIA
          refine wpRO_swi (fun _ => True) trivial ?_
          have TZ := Lib.hid tz8
          have z0 := tz8.cell 0; have z1 := tz8.cell 1; have zl := tz8.lt; have zf := tz8.free 0; have zf1 := tz8.free 1
          simp only [List.getElem?_cons_zero,List.getElem?_cons_succ] at z0 z1
          clear tz8
          refine wpRO_chg rfl rfl rfl (fun K hK => ?_); unfold gRun; go_simp
          refine hK _ _ ?_
          clear hK K z0 z1 zl zf zf1
          refine wpRO_swi (fun _ => True) trivial (wpRO_fin ?_)
          have kz : Keeps (· = zb) w8 ((w8.setCell ⟨zb,0,none⟩ (.int .i64 r1)).setCell ⟨zb,1,none⟩ (.int .i64 r2)) := ((Keeps.refl (· = zb) w8).setCell (.inl rfl) _).setCell (.inl rfl) _
          have HI2 := Lib.hid (HI8.out.other kz ⟨_,TZ.out⟩ T1.out TF8.out TL.out)
          have tz : Blk ((w8.setCell ⟨zb,0,none⟩ (.int .i64 r1)).setCell ⟨zb,1,none⟩ (.int .i64 r2)) zb [.int .i64 r1, .int .i64 r2] 78 := (TZ.out.setSame 0 (.int .i64 r1)).setSame 1 (.int .i64 r2)
          clear HI8 kz TZ TF8 T1 TL
          generalize (w8.setCell ⟨zb,0,none⟩ (.int .i64 r1)).setCell ⟨zb,1,none⟩ (.int .i64 r2) = w9 at *
          have HL2 := Lib.hid (show Sl w9 78 2 (.slice lo j lc) j (entV (NS W.gr n m s j).1) by have := HI2.out.L; rw [HJL.out] at this; exact this)
          have z0 := tz.cell 0; have z1 := tz.cell 1; have zl := tz.lt
          simp only [List.getElem?_cons_zero,List.getElem?_cons_succ] at z0 z1
          generalize zb = tv at *
          clear tz
          go_wp2_with (at_builtin; refine wpList_app rfl (.tmp 111) (.tmp 113) 69 rfl 78 vi (.agg #[.int .i64 0, .int .i64 0]) 2 16 Try.underlying69 Vi.out Vz0.out Vz1.out Vz2.out rfl (by decide) _ j (entV (NS W.gr n m s j).1) rfl (HL2.out.keep ((Keeps.refl (fun _ => False) w9).alloc _) (fun _ _ h => h)) ⟨w9.heap.size,0,none⟩ 1 1 [.int .i64 r1, .int .i64 r2] rfl rfl (news_at w9 78 #[.int .i64 r1, .int .i64 r2]) (by intro u hu; simp at hu; rcases hu with rfl | rfl <;> rfl) (by have := HFL.out; unfold maxLen; omega) (by have := HFL.out; omega) ?_)
          intro v10 w10 hs10 hk10 ho10
          have HI10 := Lib.hid (HI2.out.app (v := (r1,r2)) ((Keeps.refl (fun _ => False) w9).alloc _) (by rw [HJL.out]; exact hs10) hk10 (by simpa using ho10))
          clear hs10 hk10 ho10 HL2 HI2 z0 z1 zl
          have hfl := HFL.out
          have hwn := HWN.out
          go_wp2_with fail
          go_roundw
          case rel => exact ⟨p + 1,_,_,_,hlt,fun h => absurd HK5.out h,by go_num,by rw [HSTP.out,if_pos (by trivial), ← Nat.add_assoc,HJQ.out,HST.out]; exact HI10.out⟩
          case measure => simp [intOf]; omega
        ·have hd : (x1 == (m : Int)) = false := by simpa using he
         have HSTP := Lib.hid (show cntW W.wait m (p + 1) = cntW W.wait m p by rw [HSTP.out,if_neg he]; rfl)
         clear he
         go_wp2_with fail
         go_roundw
         case rel => exact ⟨p + 1,_,_,_,hlt,fun h => absurd HK5.out h,by go_num,by rw [HSTP.out]; exact HI.out⟩
         case measure => simp [intOf]; omega
       ·have hkb : (kd == 5) = false := by simpa using hk5
        obtain rfl : p = 0 := hp5 hk5
        have HEN := Lib.hid (HFULL.out 0 (.inr hk5) hp5)
        have HI9 := Lib.hid hI
        obtain ⟨cs9,hs9,hr9⟩ := hI.V.N
        have hkp := HKP.out (fs.length + cntW W.wait m 0)
        have hlt9 : s.1.length < (NS W.gr n m s (fs.length + cntW W.wait m 0)).2.2.length := (List.getElem?_eq_some_iff.1 hkp).1
        have HKP9 := Lib.hid hkp
        obtain ⟨g9,o9,cap9,cur,rfl,hb9,h91,h92,h93,h94⟩ := hs9.laid (by omega)
        have c1 := hI.V.hv.cell 1; have cl := hI.V.hv.lt
        have g1 := hb9.cell (o9 + s.1.length * 2 + 1); have gl := hb9.lt; have gf9 := hb9.free (o9 + s.1.length * 2 + 1)
        obtain ⟨u9,hu9⟩ : ∃ u,cur[o9 + s.1.length * 2 + 1]? = some u := ⟨_,List.getElem?_eq_getElem (by omega)⟩
        simp only [List.getElem?_cons_zero,List.getElem?_cons_succ] at c1
        rw [hu9] at g1
        obtain ⟨lo9,lc9,rfl, -, -, -⟩ := hI.L.rd
        have hs9m : (NS W.gr n m s (fs.length + cntW W.wait m 0)).2.2.length ≤ cap9 := h91
        clear hI hr9 hs9 hb9 h92 h93 h94 h91 hu9 hkp
        go_upto_region 25 with (fail)
        obtain ⟨hd1,rd9⟩ := HI9.out.done (kd := kd) (n := s.1.length) rfl rfl (by have hkp := HKP9.out; rw [HGR1.out] at hkp; exact hkp)
        have HD9 := Lib.hid hd1; have RD9 := Lib.hid rd9
        clear c1 cl g1 gl gf9 HI9 hd1 rd9
        generalize wr.setCell ⟨g9,o9 + s.1.length * 2 + 1,none⟩ _ = w9 at *
        have r0 := RD9.out.cell 0; have r1 := RD9.out.cell 1; have rl := RD9.out.lt; have f0 := RD9.out.free 0; have f1 := RD9.out.free 1
        simp only [List.getElem?_cons_zero,List.getElem?_cons_succ] at r0 r1
        go_wp2_with fail
        have hb3 := (RD9.out.setSame 0 (.int .i64 3)).setSame 1 (.int .i64 s.1.length)
        have x0' := hb3.cell 0; have x1' := hb3.cell 1
        simp only [List.set_cons_zero,List.set_cons_succ,List.getElem?_cons_zero,List.getElem?_cons_succ] at x0' x1'
        refine bodyPost_ret (v := .agg #[.int .i64 3, .int .i64 s.1.length]) (by simp [results,Try.results108,go_sem,x0',x1']) rfl ?_
        unfold RvRet
        rw [HNEW.out]
        dsimp only
        refine ⟨rfl, ?_⟩
        have set := ((Keeps.refl (· = rb) w9).setCell (p := ⟨rb,0,none⟩) (.inl rfl) (.int .i64 3)).setCell (p := ⟨rb,1,none⟩) (.inl rfl) (.int .i64 s.1.length)
        rw [← HEN.out,HGR1.out]
        exact RvTo.done K1.out HD9.out HRB.out RB.out.lt RNF.out RNO.out ⟨_,RD9.out⟩ set
      ·obtain rfl : p = W.wait.length := by omega
       have HEN := Lib.hid (HFULL.out W.wait.length (.inl rfl) hp5)
       have HI9 := Lib.hid hI
       obtain ⟨cs9,hs9,hr9⟩ := hI.V.N
       have hkp := HKP.out (fs.length + cntW W.wait m W.wait.length)
       have hlt9 : s.1.length < (NS W.gr n m s (fs.length + cntW W.wait m W.wait.length)).2.2.length := (List.getElem?_eq_some_iff.1 hkp).1
       have HKP9 := Lib.hid hkp
       obtain ⟨g9,o9,cap9,cur,rfl,hb9,h91,h92,h93,h94⟩ := hs9.laid (by omega)
       have c1 := hI.V.hv.cell 1; have cl := hI.V.hv.lt
       have g1 := hb9.cell (o9 + s.1.length * 2 + 1); have gl := hb9.lt; have gf9 := hb9.free (o9 + s.1.length * 2 + 1)
       obtain ⟨u9,hu9⟩ : ∃ u,cur[o9 + s.1.length * 2 + 1]? = some u := ⟨_,List.getElem?_eq_getElem (by omega)⟩
       simp only [List.getElem?_cons_zero,List.getElem?_cons_succ] at c1
       rw [hu9] at g1
       obtain ⟨lo9,lc9,rfl, -, -, -⟩ := hI.L.rd
       have hs9m : (NS W.gr n m s (fs.length + cntW W.wait m W.wait.length)).2.2.length ≤ cap9 := h91
       clear hI hr9 hs9 hb9 h92 h93 h94 h91 hu9 hkp
       go_upto_region 25 with (fail)
       obtain ⟨hd1,rd9⟩ := HI9.out.done (kd := kd) (n := s.1.length) rfl rfl (by have hkp := HKP9.out; rw [HGR1.out] at hkp; exact hkp)
       have HD9 := Lib.hid hd1; have RD9 := Lib.hid rd9
       clear c1 cl g1 gl gf9 HI9 hd1 rd9
       generalize wr.setCell ⟨g9,o9 + s.1.length * 2 + 1,none⟩ _ = w9 at *
       have r0 := RD9.out.cell 0; have r1 := RD9.out.cell 1; have rl := RD9.out.lt; have f0 := RD9.out.free 0; have f1 := RD9.out.free 1
       simp only [List.getElem?_cons_zero,List.getElem?_cons_succ] at r0 r1
       go_wp2_with fail
       have hb3 := (RD9.out.setSame 0 (.int .i64 3)).setSame 1 (.int .i64 s.1.length)
       have x0' := hb3.cell 0; have x1' := hb3.cell 1
       simp only [List.set_cons_zero,List.set_cons_succ,List.getElem?_cons_zero,List.getElem?_cons_succ] at x0' x1'
       refine bodyPost_ret (v := .agg #[.int .i64 3, .int .i64 s.1.length]) (by simp [results,Try.results108,go_sem,x0',x1']) rfl ?_
       unfold RvRet
       rw [HNEW.out]
       dsimp only
       refine ⟨rfl, ?_⟩
       have set := ((Keeps.refl (· = rb) w9).setCell (p := ⟨rb,0,none⟩) (.inl rfl) (.int .i64 3)).setCell (p := ⟨rb,1,none⟩) (.inl rfl) (.int .i64 s.1.length)
       rw [← HEN.out,HGR1.out]
       exact RvTo.done K1.out HD9.out HRB.out RB.out.lt RNF.out RNO.out ⟨_,RD9.out⟩ set
end
end Go.Proofs.Ytjifdalflepcoab
/-!
World.View: value,at every depth.
-/
namespace Go.Proofs.Ytjifdalflepcoab
theorem rvOk {g : RVH} {h : RW} {W : Wd} {rv : Value} (hT : W.T.length ≤ 100000) (n : Nat) : RvOk g h W rv n := by
 induction n with
 | zero =>
  intro v mv nv F s w V hx hu hc hl
  by_cases h3 : v.1 = 3
  ·obtain ⟨v1,v2⟩ := v
   dsimp only at h3 hx
   subst h3
   by_cases hm : v2 ∈ s.1
   ·exact rvalue_met v2 0 V hm (by omega)
   ·have := unM_push (hx rfl) hm
    omega
  ·exact rvalue_plain v 0 V h3
 | succ n ih =>
  intro v mv nv F s w V hx hu hc hl
  by_cases h3 : v.1 = 3
  ·obtain ⟨v1,v2⟩ := v
   dsimp only at h3 hx
   subst h3
   by_cases hm : v2 ∈ s.1
   ·exact rvalue_met v2 (n + 1) V hm (by omega)
   ·exact rvalue_new n ih v2 V (hx rfl) hm hu hc hl hT
  ·exact rvalue_plain v (n + 1) V h3
end Go.Proofs.Ytjifdalflepcoab
/-!
World.View,whole.
-/
namespace Go.Proofs.Ytjifdalflepcoab
open Go.RowKit
set_option linter.unusedVariables false
set_option linter.unusedSimpArgs false
section
variable {w : World} {g : RVH} {h : RW} {W : Wd} {tb : Nat}
structure TopR (w : World) (g : RVH) (h : RW) (W : Wd) (tb : Nat) (wr : World) (rv mv nv : Value) (F : Nat → Prop) (s : VS) (l : List Vl) : Prop where
 V : RvAt wr g h W rv mv nv F s
 K : Keeps (fun _ => False) w wr
 o0 : ∀ k,ownB mv k → w.heap.size ≤ k
 o1 : ∀ k,ownB nv k → w.heap.size ≤ k
 o2 : ∀ k,F k → w.heap.size ≤ k
 L : Sl wr 78 2 rv l.length (entV l)
 o3 : ∀ k,ownB rv k → w.heap.size ≤ k ∧ ¬ F k
 om : w.heap.size ≤ g.mb
 ov : w.heap.size ≤ g.vb
 ot : w.heap.size ≤ tb
 nt : tb ≠ g.vb
 ol : ∀ k,h.Own k → k < w.heap.size
 B : Blk wr tb [.slice none 0 0, .slice none 0 0] 72
variable {wr w2 : World} {rv mv nv : Value} {F : Nat → Prop} {s s2 : VS} {l : List Vl}
theorem TopR.rv_ne (I : TopR w g h W tb wr rv mv nv F s l) {k : Nat} (hk : ownB rv k) : ¬ RvFp g mv nv k := by
 obtain ⟨_,c,hc⟩ := I.L.own hk
 exact I.V.fp_ne hc (by decide) (by decide) (by decide) (by decide)
theorem TopR.tb_ne (I : TopR w g h W tb wr rv mv nv F s l) : ¬ RvFp g mv nv tb := fun e => by
 rcases e with e | e | e | e
 ·exact I.B.ne I.V.hm (by decide) e
 ·exact I.nt e
 ·obtain ⟨_,c,hc⟩ := I.V.M.own e; exact I.B.ne hc (by decide) rfl
 ·obtain ⟨_,c,hc⟩ := I.V.N.own e; exact I.B.ne hc (by decide) rfl
theorem TopR.told {mv2 nv2 : Value} {F2 : Nat → Prop} (I : TopR w g h W tb wr rv mv nv F s l) (V2 : RvAt w2 g h W rv mv2 nv2 F2 s2) (k2 : Keeps (RvFp g mv nv) wr w2) (p0 : ∀ k,ownB mv2 k → ownB mv k ∨ wr.heap.size ≤ k) (p1 : ∀ k,ownB nv2 k → ownB nv k ∨ wr.heap.size ≤ k) (p2 : ∀ k,F2 k → F k ∨ wr.heap.size ≤ k) :
  TopR w g h W tb w2 rv mv2 nv2 F2 s2 l := by
 have hz := I.K.size
 refine ⟨V2,I.K.then k2 (fun j hj => ?_),fun j hj => ?_,fun j hj => ?_,fun j hj => ?_,I.L.keep k2 (fun j hj => I.rv_ne hj),fun j hj => ⟨(I.o3 j hj).1,fun hf => ?_⟩,I.om,I.ov,I.ot,I.nt,I.ol,k2.blk I.B I.tb_ne⟩
 ·rcases hj with rfl | rfl | hj | hj
  ·exact .inr I.om
  ·exact .inr I.ov
  ·exact .inr (I.o0 j hj)
  ·exact .inr (I.o1 j hj)
 ·rcases p0 j hj with h | h
  ·exact I.o0 j h
  ·omega
 ·rcases p1 j hj with h | h
  ·exact I.o1 j h
  ·omega
 ·rcases p2 j hj with h | h
  ·exact I.o2 j h
  ·omega
 ·rcases p2 j hf with h | h
  ·exact (I.o3 j hj).2 h
  ·have := (I.L.own hj).1; omega
theorem TopR.same (I : TopR w g h W tb wr rv mv nv F s l) (k : Keeps (fun _ => False) wr w2) : TopR w g h W tb w2 rv mv nv F s l :=
 ⟨I.V.same k,I.K.trans k,I.o0,I.o1,I.o2,I.L.keep k (fun _ _ h => h),I.o3,I.om,I.ov,I.ot,I.nt,I.ol,k.blk I.B (fun h => h)⟩
theorem TopR.app {v : Vl} {v2 : Value} {wa : World} (I : TopR w g h W tb wr rv mv nv F s l) (ka : Keeps (fun _ => False) wr wa) (hs : Sl w2 78 2 v2 (l.length + 1) (entV l ++ [.int .i64 v.1, .int .i64 v.2])) (hk : Keeps (ownB rv) wa w2)
  (ho : ∀ k,ownB v2 k → ownB rv k ∨ wa.heap.size ≤ k) : TopR w g h W tb (w2.setCell ⟨g.vb,0,none⟩ v2) v2 mv nv F s (l ++ [v]) := by
 have k2 := (ka.mono (T := ownB rv) (fun _ _ h => h.elim)).trans hk
 have hz := ka.size; have hz2 := I.K.size
 have nr : ∀ {b : Nat} {c : List Value} {T : TypeId},Blk wr b c T → T ≠ 78 → ¬ ownB rv b := fun hb hT e => by obtain ⟨_,c',hc'⟩ := I.L.own e; exact hb.ne hc' hT rfl
 have hv2 := k2.blk I.V.hv (nr I.V.hv (by decide))
 have set := (Keeps.refl (· = g.vb) w2).setCell (p := ⟨g.vb,0,none⟩) (.inl rfl) v2
 have kk : Keeps (fun k => ownB rv k ∨ k = g.vb) wr (w2.setCell ⟨g.vb,0,none⟩ v2) := (k2.mono (fun _ _ h => .inl h)).then set (fun b hb => .inl (.inr hb))
 have nb : ∀ {b : Nat} {c : List Value} {T : TypeId},Blk wr b c T → T ≠ 78 → T ≠ 72 → ¬ (ownB rv b ∨ b = g.vb) := fun hb h1 h2 e => by
  rcases e with e | e
  ·exact nr hb h1 e
  ·exact hb.ne I.V.hv h2 e
 have nF : ∀ b,F b → ¬ (ownB rv b ∨ b = g.vb) := fun b hb e => by
  rcases e with e | e
  ·exact (I.o3 b e).2 hb
  ·obtain ⟨_,c,hc⟩ := I.V.hF b hb; exact hc.ne I.V.hv (by decide) e
 refine ⟨⟨I.V.H.keep kk (fun b hb e => ?_),kk.blk I.V.hm (nb I.V.hm (by decide) (by decide)),kk.blk I.V.hw (nb I.V.hw (by decide) (by decide)),by simpa using hv2.setSame 0 v2,kk.blk I.V.hf (nb I.V.hf (by decide) (by decide)),I.V.M.keep kk (fun b hb => ?_),I.V.N.keep kk (fun b hb _ => nF b hb) (fun b hb => ?_),fun b hb => ?_,I.V.bd⟩,I.K.then kk (fun j hj => ?_),I.o0,I.o1,I.o2, ?_,fun j hj => ?_,I.om,I.ov,I.ot,I.nt,I.ol,kk.blk I.B (fun e => ?_)⟩
 ·have h1 := I.ol b hb
  rcases e with e | e
  ·have := (I.o3 b e).1; omega
  ·have := I.ov; omega
 ·obtain ⟨_,c,hc⟩ := I.V.M.own hb; exact nb hc (by decide) (by decide)
 ·obtain ⟨_,c,hc⟩ := I.V.N.own hb; exact nb hc (by decide) (by decide)
 ·obtain ⟨a,c,hc⟩ := I.V.hF b hb
  exact ⟨Nat.lt_of_lt_of_le a kk.size,c,kk.blk hc (nF b hb)⟩
 ·rcases hj with hj | hj
  ·exact .inr (I.o3 j hj).1
  ·exact .inr (by rw [hj]; exact I.ov)
 ·have e : entV (l ++ [v]) = entV l ++ [.int .i64 v.1, .int .i64 v.2] := by simp [entV]
  rw [e,List.length_append]
  exact hs.keep set (fun b hb e => by obtain ⟨_,c,hc⟩ := hs.own hb; exact hc.ne hv2 (by decide) e)
 ·rcases ho j hj with h1 | h1
  ·exact I.o3 j h1
  ·exact ⟨by omega,fun hf => by have := (I.V.hF j hf).1; omega⟩
 ·rcases e with e | e
  ·exact nr I.B (by decide) e
  ·exact I.nt e
end
def TR (W : Wd) (k : Nat) : List Vl × VS := fldM (valM W.gr 5000) (W.roots.take k) ([],[])
theorem TR_step {W : Wd} {k : Nat} (h : k < W.roots.length) : TR W (k + 1) = ((TR W k).1 ++ [(valM W.gr 5000 (W.roots.getD k (0,0)) (TR W k).2).1],(valM W.gr 5000 (W.roots.getD k (0,0)) (TR W k).2).2) := by
 unfold TR
 have e : W.roots[k]? = some (W.roots.getD k (0,0)) := by rw [List.getElem?_eq_getElem h]; simp [List.getD,h]
 rw [List.take_add_one,e,Option.toList_some,fldM_app]
 rfl
theorem TR_len {W : Wd} {k : Nat} (h : k ≤ W.roots.length) : (TR W k).1.length = k := by
 unfold TR; rw [fldM_len,List.length_take]; omega
theorem TR_nodes {W : Wd} (k : Nat) : (TR W k).2.2.length = (TR W k).2.1.length := by
 unfold TR
 exact fldM_nodes (valM_nodes W.gr 5000) _ _ rfl
theorem TR_un {W : Wd} (h : W.ok) (k : Nat) : unM W.all (TR W k).2.1 ≤ 5000 ∧ (TR W k).2.1.length + unM W.all (TR W k).2.1 ≤ 5000 := by
 have I := Wd.inU h
 unfold TR
 have h1 := Wd.all_len h
 have h2 := unM_nil W.all
 have h3 := fldM_count (f := valM W.gr 5000) (U := W.all) (valM_count I 5000) (W.roots.take k) ([],[]) (fun v hv h3 => Wd.mem_all.2 (Wd.okV_ref (h.rv v (List.mem_of_mem_take hv)) h3))
 simp only [List.length_nil] at h3
 exact ⟨by omega,by omega⟩
end Go.Proofs.Ytjifdalflepcoab
/-!
World.View: the walk.
-/
namespace Go.Proofs.Ytjifdalflepcoab
open Go.RowKit
set_option linter.unusedVariables false
set_option linter.unusedSimpArgs false
@[go_sem] theorem run_store_closure {P : Program} {a : Addr} {m : Mode} {w : World} (f : Fn) (x y : Array Value) : (store a (.func f x y) m).run P w = stored P w a (.func f x y) m := run_store P w a _ m rfl
theorem TopR.other {w wr w2 : World} {g : RVH} {h : RW} {W : Wd} {tb : Nat} {rv mv nv : Value} {F : Nat → Prop} {s : VS} {l : List Vl} {b : Nat} (I : TopR w g h W tb wr rv mv nv F s l) (k : Keeps (· = b) wr w2) (hb : ∃ c,Blk wr b c 78) (h0 : w.heap.size ≤ b) (h1 : ¬ F b) (h2 : ¬ ownB rv b) :
  TopR w g h W tb w2 rv mv nv F s l := by
 obtain ⟨c,hc⟩ := hb
 have ho : ¬ h.Own b := fun e => by have := I.ol b e; omega
 have fp := I.V.fp_ne hc (by decide) (by decide) (by decide) (by decide)
 exact ⟨I.V.other k fp ho h1 (hc.ne I.V.hw (by decide)) (hc.ne I.V.hf (by decide)),I.K.then k (fun j hj => .inr (by rw [hj]; exact h0)),I.o0,I.o1,I.o2,I.L.keep k (fun j hj e => h2 (e ▸ hj)),I.o3,I.om,I.ov,I.ot,I.nt,I.ol,k.blk I.B (fun e => hc.ne I.B (by decide) e.symm)⟩
section
variable {h : RW} {W : Wd}
set_option maxHeartbeats 4000000 in
set_option maxRecDepth 100000 in
theorem WView_c (w : World) (H : WorldAt w h W) (hT : W.T.length ≤ 100000) :
  Calls Try.prog 64 #[.pointer (some ⟨h.p,0,none⟩)] w fun e w' => ViewRet w W.view e w' := by
 have HH := Lib.hid H; have HT := Lib.hid hT
 obtain ⟨vi,hi,hz0,hz1,hz2⟩ := info_parts1 info_val
 have Vi := Lib.hid hi; have Vz0 := Lib.hid hz0; have Vz1 := Lib.hid hz1; have Vz2 := Lib.hid hz2; clear hi hz0 hz1 hz2
 have h12 := H.ok.hr
 obtain ⟨ro,rc,hro, -, -, -⟩ := H.hr.rd
 have HRO := Lib.hid hro
 have HRR := Lib.hid H.hr
 clear H hT hro
 go_enter Try.func64,Try.ntmps64
 go_upto_region 4 with fail
 have HB : Hid (∃ w1,((((w.alloc (.cells #[.pointer (some ⟨h.p,0,none⟩)] 94)).alloc (.cells #[.slice none 0 0, .slice none 0 0] 72)).alloc (.cells #[.slice none 0 0, .slice none 0 0] 72)).alloc (.cells #[.slice none 0 0] 50)).alloc (.cells #[.nilFunc] 165) = w1 ∧ Keeps (fun _ => False) w w1 ∧ Blk w1 w.heap.size [.pointer (some ⟨h.p,0,none⟩)] 94 ∧ Blk w1 (w.heap.size + 1) [.slice none 0 0, .slice none 0 0] 72 ∧ Blk w1 (w.heap.size + 1 + 1) [.slice none 0 0, .slice none 0 0] 72 ∧ Blk w1 (w.heap.size + 1 + 1 + 1) [.slice none 0 0] 50 ∧ Blk w1 (w.heap.size + 1 + 1 + 1 + 1) [.nilFunc] 165) :=
  ⟨_,rfl,(((((Keeps.refl (fun _ => False) w).alloc _).alloc _).alloc _).alloc _).alloc _,((((Blk.newAt _ rfl rfl).alloc _).alloc _).alloc _).alloc _,(((Blk.newAt _ (by simp) rfl).alloc _).alloc _).alloc _,((Blk.newAt _ (by simp) rfl).alloc _).alloc _,(Blk.newAt _ (by simp) rfl).alloc _,Blk.newAt _ (by simp) rfl⟩
 obtain ⟨w1,hw1,k1,bw,bt,bv,bm,bf⟩ := HB.out
 rw [hw1]
 clear HB hw1
 have f0 := bf.cell 0; have fl := bf.lt; have ff := bf.free 0
 simp only [List.getElem?_cons_zero] at f0
 have H1 := Lib.hid (HH.out.same k1)
 have K1 := Lib.hid k1; have BW := Lib.hid bw; have BT := Lib.hid bt; have BV := Lib.hid bv; have BM := Lib.hid bm; have BF := Lib.hid bf
 clear k1 bw bt bv bm bf
 go_wp2_with fail
 clear f0 fl ff
 have set := (Keeps.refl (· = w.heap.size + 1 + 1 + 1 + 1) w1).setCell (p := ⟨w.heap.size + 1 + 1 + 1 + 1,0,none⟩) (.inl rfl) (RVH.fn ⟨w.heap.size + 1 + 1 + 1,w.heap.size,w.heap.size + 1 + 1,w.heap.size + 1 + 1 + 1 + 1⟩)
 have hol : ∀ k,h.Own k → k < w.heap.size := fun k hk => (HH.out.own_type hk).1
 have HOL := Lib.hid hol
 have BF2 := Lib.hid (BF.out.setSame 0 (RVH.fn ⟨w.heap.size + 1 + 1 + 1,w.heap.size,w.heap.size + 1 + 1,w.heap.size + 1 + 1 + 1 + 1⟩))
 have V2 : RvAt (w1.setCell ⟨w.heap.size + 1 + 1 + 1 + 1,0,none⟩ (RVH.fn ⟨w.heap.size + 1 + 1 + 1,w.heap.size,w.heap.size + 1 + 1,w.heap.size + 1 + 1 + 1 + 1⟩)) ⟨w.heap.size + 1 + 1 + 1,w.heap.size,w.heap.size + 1 + 1,w.heap.size + 1 + 1 + 1 + 1⟩ h W (.slice none 0 0) (.slice none 0 0) (.slice none 0 0) (fun _ => False) ([],[]) :=
  ⟨H1.out.keep set (fun b hb e => by have := hol b hb; omega),set.blk BM.out (by dsimp only; omega),set.blk BW.out (by dsimp only; omega),set.blk BV.out (by dsimp only; omega),BF2.out,Sl.nil _ _ _,NodesAt.nil _ _,fun _ h => h.elim,fun _ h => by cases h⟩
 have HI0 := Lib.hid (show TopR w ⟨w.heap.size + 1 + 1 + 1,w.heap.size,w.heap.size + 1 + 1,w.heap.size + 1 + 1 + 1 + 1⟩ h W (w.heap.size + 1) _ (.slice none 0 0) (.slice none 0 0) (.slice none 0 0) (fun _ => False) (TR W 0).2 (TR W 0).1 from
  ⟨V2,K1.out.setCell (p := ⟨w.heap.size + 1 + 1 + 1 + 1,0,none⟩) (.inr (show w.heap.size ≤ w.heap.size + 1 + 1 + 1 + 1 by omega)) _,fun _ h => (nil_own h).elim,fun _ h => (nil_own h).elim,fun _ h => h.elim,Sl.nil _ _ _,fun _ h => (nil_own h).elim,by dsimp only; omega,by dsimp only; omega,by omega,by dsimp only; omega,hol,set.blk BT.out (by omega)⟩)
 clear set hol V2 BF2 BF BM BV BT BW HOL K1 H1
 generalize hfb : w.heap.size + 1 + 1 + 1 + 1 = fb at *
 generalize hmb : w.heap.size + 1 + 1 + 1 = mb at *
 generalize hvb : w.heap.size + 1 + 1 = vb at *
 generalize htb : w.heap.size + 1 = tb at *
 generalize hwb : w.heap.size = wb at *
 clear hfb hmb hvb htb hwb
 unfold RVH.fn at HI0
 dsimp only at HI0
 generalize w1.setCell _ _ = w2 at *
 have HT' := Lib.hid (fun g rv => rvOk (g := g) (h := h) (W := W) (rv := rv) HT.out 5000)
 go_wp2_with fail
 go_loopw [6] (fun i wr => ∃ (k : Nat) (rv mv nv : Value) (F : Nat → Prop),k ≤ 12 ∧ i = .int .i64 k ∧ TopR w ⟨mb,wb,vb,fb⟩ h W tb wr rv mv nv F (TR W k).2 (TR W k).1) (fun i _ => 12 - (intOf i).toNat)
 case atStart => exact ⟨0,_,_,_,_,Nat.zero_le _,rfl,HI0.out⟩
 case round =>
  clear HI0
  obtain ⟨k,rv,mv,nv,F,hk,rfl,hI⟩ := hrel
  have HI := Lib.hid hI
  have hkl := TR_len (W := W) (k := k) (by rw [HH.out.ok.hr]; exact hk)
  have HKL := Lib.hid hkl
  by_cases hlt : k < 12
  ·have a0 := hI.V.hw.cell 0; have al := hI.V.hw.lt
   have e1 := hI.V.H.cells.2.1; have el := hI.V.H.hp.lt
   rw [HRO.out,h12] at e1
   have f0 := hI.V.hf.cell 0; have fl := hI.V.hf.lt
   unfold RVH.fn at f0
   simp only [List.getElem?_cons_zero] at a0 f0
   have HST := Lib.hid (TR_step (W := W) (k := k) (by rw [HH.out.ok.hr]; exact hlt))
   obtain ⟨gr,og,rc',erv,ggl,d0,d1⟩ := hI.V.H.root hlt
   rw [HRO.out] at erv
   cases erv
   have hm : W.roots.getD k (0,0) ∈ W.roots := by rw [List.getD_eq_getElem?_getD,List.getElem?_eq_getElem (by rw [HH.out.ok.hr]; exact hlt)]; exact List.getElem_mem _
   have HAL := Lib.hid (show (W.roots.getD k (0,0)).1 = 3 → (W.roots.getD k (0,0)).2 ∈ W.all from fun h3 => Wd.mem_all.2 (Wd.okV_ref (HH.out.ok.rv _ hm) h3))
   have hrt : W.rt (k : Int) = W.roots.getD k (0,0) := by unfold Wd.rt; rw [Int.toNat_natCast]
   rw [hrt] at d0 d1
   clear hrt hm
   generalize W.roots.getD k (0,0) = v at *
   obtain ⟨f1,f2⟩ := v
   dsimp only at d0 d1
   have OWN := Lib.hid (show h.Own gr from .inr (.inr (.inl (by rw [HRO.out]; rfl))))
   have UN := Lib.hid (TR_un HH.out.ok k); have NL := Lib.hid (TR_nodes (W := W) k)
   obtain ⟨lo,lc,rfl, -, -, -⟩ := hI.L.rd
   rw [hkl] at HI
   clear hI hkl
   go_wp2_with fail
   refine wp_region_ro (.free 5 (.pure 0 (.pure 1 (.free 2 (.free 3 (.pure 4 (.free 6 (.pure 7 (.two 8 (.run 9 (.run 10 (.swi [] (.fin)))) 9 (.run 8 (.swi [10] (.run 10 (.swi [] (.fin)))))))))))))) [10] (fun w' => w'.cell? ⟨fb,0,none⟩ = some (.func (.func 108) #[] #[.pointer (some ⟨mb,0,none⟩), .pointer (some ⟨wb,0,none⟩), .pointer (some ⟨vb,0,none⟩), .pointer (some ⟨fb,0,none⟩)]) ∧ w'.cell? ⟨wb,0,none⟩ = some (.pointer (some ⟨h.p,0,none⟩)) ∧ w'.cell? ⟨h.p,1,none⟩ = some (.slice (some ⟨gr,og,none⟩) 12 rc) ∧ w'.cell? ⟨gr,og + k * 2,none⟩ = some (.int .i64 f1) ∧ w'.cell? ⟨gr,og + k * 2 + 1,none⟩ = some (.int .i64 f2)) (by kernel_rfl) (by kernel_rfl) ⟨f0,a0,e1,d0,d1⟩ ?_
   iterate 8 first | (refine wpRO_free rfl rfl _ (fun w' => by go_simp; exact Gives.mk _ _) (fun K hK => ?_); go_simp; refine hK _ ?_; clear hK K) | (refine wpRO_skipF rfl rfl (fun K hK => ?_); go_simp; refine hK _ ?_; clear hK K) | (refine wpRO_pure rfl rfl _ (fun w' hG => by obtain ⟨f0,a0,e1,d0,d1⟩ := hG; exact gives_agg2 rfl (by decide +kernel) rfl (by assumption) (by assumption)) (fun K hK => ?_); go_simp; refine hK _ ?_; clear hK K) | (refine wpRO_pure rfl rfl _ (fun w' hG => by obtain ⟨f0,a0,e1,d0,d1⟩ := hG; go_simp; exact Gives.mk _ _) (fun K hK => ?_); go_simp; refine hK _ ?_; clear hK K) | (refine wpRO_skip rfl rfl (fun K hK => ?_); go_simp; refine hK _ ?_; clear hK K)
   refine wpRO_two rfl rfl rfl rfl (fun K hK => ?_) (fun K hK => ?_)
   ·unfold gRun; go_simp
    refine (HT'.out _ _ (f1,f2) mv nv F _ _ (HI.out.V.same ((Keeps.refl (fun _ => False) wr).drew)) HAL.out UN.out.1 UN.out.2 NL.out).mono ?_
    rintro e w8 ⟨rfl,mv8,nv8,F8,V8,k8,p0,p1,p2⟩
    have HI8 := Lib.hid ((HI.out.same ((Keeps.refl (fun _ => False) wr).drew)).told V8 k8 p0 p1 p2)
    obtain ⟨⟨⟨r1,r2⟩,sr⟩,hr⟩ : ∃ t,valM W.gr 5000 (f1,f2) (TR W k).2 = t := ⟨_,rfl⟩
    rw [hr] at HI8 HST ⊢
    dsimp only at HI8 HST ⊢
    have hgf8 := Nat.lt_of_lt_of_le ggl k8.size
    have d8 := (k8.cellAt ggl (HI.out.V.world_ne OWN.out) _).trans d0
    have d9 := (k8.cellAt ggl (HI.out.V.world_ne OWN.out) _).trans d1
    have e8 := HI8.out.V.H.cells.2.1
    rw [HRO.out,h12] at e8
    refine hK _ _ (fun h => h) (fun _ _ => ⟨HI8.out.V.hf.cell 0,HI8.out.V.hw.cell 0,e8,d8,d9⟩) ?_
    clear hK K V8 k8 p0 p1 p2 hr a0 e1 d0 d1 ggl al el f0 fl HI
    refine wpRO_run rfl rfl (fun K hK => ?_); unfold gRun; go_simp
    have kz : Keeps (fun _ => False) w8 (w8.alloc (.cells #[.int .i64 0, .int .i64 0] 78)).drew := ((Keeps.refl (fun _ => False) w8).alloc _).drew
    have tz : Blk (w8.alloc (.cells #[.int .i64 0, .int .i64 0] 78)).drew w8.heap.size [.int .i64 0, .int .i64 0] 78 := (Blk.new w8 [.int .i64 0, .int .i64 0] 78).drew
    have HI9 := Lib.hid (HI8.out.same kz)
    have e9 := HI9.out.V.H.cells.2.1
    rw [HRO.out,h12] at e9
    refine hK _ _ (fun _ => ⟨HI9.out.V.hf.cell 0,HI9.out.V.hw.cell 0,e9,(kz.cellAt hgf8 (fun h => h) _).trans d8,(kz.cellAt hgf8 (fun h => h) _).trans d9⟩) ?_
    clear hK K d8 d9 hgf8 e8 e9
    have z0 := tz.cell 0; have z1 := tz.cell 1; have zl := tz.lt; have zf := tz.free 0; have zf1 := tz.free 1
    simp only [List.getElem?_cons_zero,List.getElem?_cons_succ] at z0 z1
    clear kz tz
    refine wpRO_chg rfl rfl rfl (fun K hK => ?_); unfold gRun; go_simp
    refine hK _ _ ?_
    clear hK K z0 z1 zl zf zf1 HI9
    refine wpRO_swi (fun _ => True) trivial (wpRO_fin ?_)
    have kz : Keeps (fun _ => False) w8 (w8.alloc (.cells #[.int .i64 r1, .int .i64 r2] 78)) := ((Keeps.refl (fun _ => False) w8).alloc _)
    have tz : Blk (w8.alloc (.cells #[.int .i64 r1, .int .i64 r2] 78)) w8.heap.size [.int .i64 r1, .int .i64 r2] 78 := (Blk.new w8 [.int .i64 r1, .int .i64 r2] 78)
    have HI2 := Lib.hid (HI8.out.same kz)
    clear HI8 kz
    generalize w8.alloc (.cells #[.int .i64 r1, .int .i64 r2] 78) = w9 at *
    have HL2 := Lib.hid (show Sl w9 78 2 (.slice lo k lc) k (entV (TR W k).1) by have := HI2.out.L; rw [HKL.out] at this; exact this)
    have z0 := tz.cell 0; have z1 := tz.cell 1; have zl := tz.lt
    simp only [List.getElem?_cons_zero,List.getElem?_cons_succ] at z0 z1
    have c2 := HI2.out.V.hv.cell 0; have cl := HI2.out.V.hv.lt
    simp only [List.getElem?_cons_zero] at c2
    generalize w8.heap.size = tv at *
    clear tz
    go_wp2_with (at_builtin; refine wpList_app rfl (.tmp 28) (.tmp 30) 69 rfl 78 vi (.agg #[.int .i64 0, .int .i64 0]) 2 16 Try.underlying69 Vi.out Vz0.out Vz1.out Vz2.out rfl (by decide) _ k (entV (TR W k).1) rfl (HL2.out.keep ((Keeps.refl (fun _ => False) w9).alloc _) (fun _ _ h => h)) ⟨w9.heap.size,0,none⟩ 1 1 [.int .i64 r1, .int .i64 r2] rfl rfl (news_at w9 78 #[.int .i64 r1, .int .i64 r2]) (by intro u hu; simp at hu; rcases hu with rfl | rfl <;> rfl) (by unfold maxLen; omega) (by omega) ?_)
    intro v10 w10 hs10 hk10 ho10
    have HI10 := Lib.hid (HI2.out.app (v := (r1,r2)) ((Keeps.refl (fun _ => False) w9).alloc _) (by rw [HKL.out]; exact hs10) hk10 (by simpa using ho10))
    have hp3 := hk10.blk (((Keeps.refl (fun _ => False) w9).alloc _).blk HI2.out.V.hv (fun h => h)) (fun hv => by obtain ⟨_,c',hc⟩ := (HL2.out.keep ((Keeps.refl (fun _ => False) w9).alloc (.cells #[.int .i64 r1, .int .i64 r2] 78)) (fun _ _ h => h)).own hv; exact (((Keeps.refl (fun _ => False) w9).alloc _).blk HI2.out.V.hv (fun h => h)).ne hc (by decide) rfl)
    have x0 := hp3.cell 0; have xf := hp3.free 0; have xl := hp3.lt
    simp only [List.getElem?_cons_zero,List.getElem?_cons_succ] at x0
    obtain ⟨lo3,lc3,rfl, -, -, -⟩ := hs10.rd
    clear hs10 hk10 ho10 HL2 HI2 z0 z1 zl hp3 c2 cl
    go_wp2_with fail
    go_roundw
    case rel => exact ⟨k + 1,_,_,_,_,by omega,by go_num,by rw [HST.out]; exact HI10.out⟩
    case measure => simp [intOf]; omega
   ·unfold gRun; go_simp
    have kz : Keeps (fun _ => False) wr (wr.alloc (.cells #[.int .i64 0, .int .i64 0] 78)).drew := ((Keeps.refl (fun _ => False) wr).alloc _).drew
    have tz : Blk (wr.alloc (.cells #[.int .i64 0, .int .i64 0] 78)).drew wr.heap.size [.int .i64 0, .int .i64 0] 78 := (Blk.new wr [.int .i64 0, .int .i64 0] 78).drew
    have HIA := Lib.hid (HI.out.same kz)
    have TF := Lib.hid (show ¬ F wr.heap.size from fun hf => by have := (HI.out.V.hF _ hf).1; omega)
    have TL := Lib.hid (show ¬ ownB (.slice lo k lc) wr.heap.size from fun hf => by have := (HI.out.L.own hf).1; omega)
    have T1 := Lib.hid (show w.heap.size ≤ wr.heap.size from HI.out.K.size)
    have TZ := Lib.hid tz
    have d8 := (kz.cellAt ggl (fun h => h) _).trans d0; have d9 := (kz.cellAt ggl (fun h => h) _).trans d1
    have hgf8 := Nat.lt_of_lt_of_le ggl kz.size
    have e8 := HIA.out.V.H.cells.2.1
    rw [HRO.out,h12] at e8
    refine hK _ _ (fun h => h) (fun _ _ => ⟨HIA.out.V.hf.cell 0,HIA.out.V.hw.cell 0,e8,d8,d9⟩) ?_
    clear hK K kz tz HI ggl d0 d1 a0 e1 al el f0 fl e8
    generalize (wr.alloc (.cells #[.int .i64 0, .int .i64 0] 78)).drew = wa at *
    generalize wr.heap.size = zb at *
    refine wpRO_run rfl rfl (fun K hK => ?_); unfold gRun; go_simp
    refine (HT'.out _ _ (f1,f2) mv nv F _ _ HIA.out.V HAL.out UN.out.1 UN.out.2 NL.out).mono ?_
    rintro e w8 ⟨rfl,mv8,nv8,F8,V8,k8,p0,p1,p2⟩
    have HI8 := Lib.hid (HIA.out.told V8 k8 p0 p1 p2)
    obtain ⟨⟨⟨r1,r2⟩,sr⟩,hr⟩ : ∃ t,valM W.gr 5000 (f1,f2) (TR W k).2 = t := ⟨_,rfl⟩
    rw [hr] at HI8 HST ⊢
    dsimp only at HI8 HST ⊢
    have TF8 := Lib.hid (show ¬ F8 zb from fun hf => by rcases p2 _ hf with h | h; exact TF.out h; exact absurd h (Nat.not_le.2 TZ.out.lt))
    have tz8 := k8.blk TZ.out (HIA.out.V.fp_ne TZ.out (by decide) (by decide) (by decide) (by decide))
    have e8 := HI8.out.V.H.cells.2.1
    rw [HRO.out,h12] at e8
    refine hK _ _ (fun _ => ⟨HI8.out.V.hf.cell 0,HI8.out.V.hw.cell 0,e8,(k8.cellAt hgf8 (HIA.out.V.world_ne OWN.out) _).trans d8,(k8.cellAt hgf8 (HIA.out.V.world_ne OWN.out) _).trans d9⟩) ?_
    clear hK K V8 k8 p0 p1 p2 hr d8 d9 hgf8 TZ TF HIA e8
    refine wpRO_swi (fun _ => True) trivial ?_
    have TZ := Lib.hid tz8
    have z0 := tz8.cell 0; have z1 := tz8.cell 1; have zl := tz8.lt; have zf := tz8.free 0; have zf1 := tz8.free 1
    simp only [List.getElem?_cons_zero,List.getElem?_cons_succ] at z0 z1
    clear tz8
    refine wpRO_chg rfl rfl rfl (fun K hK => ?_); unfold gRun; go_simp
    refine hK _ _ ?_
    clear hK K z0 z1 zl zf zf1
    refine wpRO_swi (fun _ => True) trivial (wpRO_fin ?_)
    have kz : Keeps (· = zb) w8 ((w8.setCell ⟨zb,0,none⟩ (.int .i64 r1)).setCell ⟨zb,1,none⟩ (.int .i64 r2)) := ((Keeps.refl (· = zb) w8).setCell (.inl rfl) _).setCell (.inl rfl) _
    have HI2 := Lib.hid (HI8.out.other kz ⟨_,TZ.out⟩ T1.out TF8.out TL.out)
    have tz : Blk ((w8.setCell ⟨zb,0,none⟩ (.int .i64 r1)).setCell ⟨zb,1,none⟩ (.int .i64 r2)) zb [.int .i64 r1, .int .i64 r2] 78 := (TZ.out.setSame 0 (.int .i64 r1)).setSame 1 (.int .i64 r2)
    clear HI8 kz TZ TF8 T1 TL
    generalize (w8.setCell ⟨zb,0,none⟩ (.int .i64 r1)).setCell ⟨zb,1,none⟩ (.int .i64 r2) = w9 at *
    have HL2 := Lib.hid (show Sl w9 78 2 (.slice lo k lc) k (entV (TR W k).1) by have := HI2.out.L; rw [HKL.out] at this; exact this)
    have z0 := tz.cell 0; have z1 := tz.cell 1; have zl := tz.lt
    simp only [List.getElem?_cons_zero,List.getElem?_cons_succ] at z0 z1
    have c2 := HI2.out.V.hv.cell 0; have cl := HI2.out.V.hv.lt
    simp only [List.getElem?_cons_zero] at c2
    generalize zb = tv at *
    clear tz
    go_wp2_with (at_builtin; refine wpList_app rfl (.tmp 28) (.tmp 30) 69 rfl 78 vi (.agg #[.int .i64 0, .int .i64 0]) 2 16 Try.underlying69 Vi.out Vz0.out Vz1.out Vz2.out rfl (by decide) _ k (entV (TR W k).1) rfl (HL2.out.keep ((Keeps.refl (fun _ => False) w9).alloc _) (fun _ _ h => h)) ⟨w9.heap.size,0,none⟩ 1 1 [.int .i64 r1, .int .i64 r2] rfl rfl (news_at w9 78 #[.int .i64 r1, .int .i64 r2]) (by intro u hu; simp at hu; rcases hu with rfl | rfl <;> rfl) (by unfold maxLen; omega) (by omega) ?_)
    intro v10 w10 hs10 hk10 ho10
    have HI10 := Lib.hid (HI2.out.app (v := (r1,r2)) ((Keeps.refl (fun _ => False) w9).alloc _) (by rw [HKL.out]; exact hs10) hk10 (by simpa using ho10))
    have hp3 := hk10.blk (((Keeps.refl (fun _ => False) w9).alloc _).blk HI2.out.V.hv (fun h => h)) (fun hv => by obtain ⟨_,c',hc⟩ := (HL2.out.keep ((Keeps.refl (fun _ => False) w9).alloc (.cells #[.int .i64 r1, .int .i64 r2] 78)) (fun _ _ h => h)).own hv; exact (((Keeps.refl (fun _ => False) w9).alloc _).blk HI2.out.V.hv (fun h => h)).ne hc (by decide) rfl)
    have x0 := hp3.cell 0; have xf := hp3.free 0; have xl := hp3.lt
    simp only [List.getElem?_cons_zero,List.getElem?_cons_succ] at x0
    obtain ⟨lo3,lc3,rfl, -, -, -⟩ := hs10.rd
    clear hs10 hk10 ho10 HL2 HI2 z0 z1 zl hp3 c2 cl
    go_wp2_with fail
    go_roundw
    case rel => exact ⟨k + 1,_,_,_,_,by omega,by go_num,by rw [HST.out]; exact HI10.out⟩
    case measure => simp [intOf]; omega
  ·obtain rfl : k = 12 := by omega
   obtain ⟨lo,lc,rfl,hrr, -, -⟩ := hI.L.rd
   obtain ⟨cs,hns,hnr⟩ := hI.V.N
   obtain ⟨no,nc,rfl, -, -, -⟩ := hns.rd
   have c2 := hI.V.hv.cell 0; have c3 := hI.V.hv.cell 1; have cl := hI.V.hv.lt
   have b0 := hI.B.cell 0; have b1 := hI.B.cell 1; have bl := hI.B.lt; have f0 := hI.B.free 0; have f1 := hI.B.free 1
   simp only [List.getElem?_cons_zero,List.getElem?_cons_succ] at c2 c3 b0 b1
   have a0 := hI.V.hw.cell 0; have al := hI.V.hw.lt
   have e1 := hI.V.H.cells.2.1; have el := hI.V.H.hp.lt
   rw [HRO.out,h12] at e1
   simp only [List.getElem?_cons_zero] at a0
   have HVE := Lib.hid (show W.view = ((TR W 12).1,(TR W 12).2.2) by
    unfold Wd.view viewM TR deep
    rw [List.take_of_length_le (by rw [HH.out.ok.hr]; exact Nat.le_refl _)])
   clear hI hrr hns hnr hlt hk hkl
   go_wp2_with (refine wpList_agg2 rfl 72 (.tmp 3) rfl (by kernel_rfl) vb 0 rfl _ _ c2 c3 ?_)
   have hb3 := (HI.out.B.setSame 0 (.slice lo (TR W 12).1.length lc)).setSame 1 (.slice no (TR W 12).2.2.length nc)
   have x0 := hb3.cell 0; have x1 := hb3.cell 1
   simp only [List.set_cons_zero,List.set_cons_succ,List.getElem?_cons_zero,List.getElem?_cons_succ] at x0 x1
   refine bodyPost_ret (v := .agg #[.slice lo (TR W 12).1.length lc, .slice no (TR W 12).2.2.length nc]) (by simp [results,Try.results64,go_sem,x0,x1]) rfl ?_
   refine ⟨_,rfl, ?_,(HI.out.K.setCell (p := ⟨tb,0,none⟩) (.inr HI.out.ot) _).setCell (p := ⟨tb,1,none⟩) (.inr HI.out.ot) _⟩
   rw [HVE.out]
   have ke := ((Keeps.refl (· = tb) wr).setCell (p := ⟨tb,0,none⟩) (.inl rfl) (.slice lo (TR W 12).1.length lc)).setCell (p := ⟨tb,1,none⟩) (.inl rfl) (.slice no (TR W 12).2.2.length nc)
   refine ⟨lo,lc,no,nc,F,rfl,HI.out.L.keep ke (fun j hj e => ?_),HI.out.V.N.keep ke (fun j hj _ e => ?_) (fun j hj e => ?_),fun j hj => ?_⟩
   ·subst e; obtain ⟨_,c,hc⟩ := HI.out.L.own hj; exact hc.ne HI.out.B (by decide) rfl
   ·subst e; obtain ⟨_,c,hc⟩ := HI.out.V.hF _ hj; exact hc.ne HI.out.B (by decide) rfl
   ·subst e; obtain ⟨_,c,hc⟩ := HI.out.V.N.own hj; exact hc.ne HI.out.B (by decide) rfl
   ·have hks := ke.size
    rcases hj with hj | hj | hj
    ·exact ⟨HI.out.o2 j hj,by have := (HI.out.V.hF j hj).1; omega⟩
    ·exact ⟨(HI.out.o3 j hj).1,by have := (HI.out.L.own hj).1; omega⟩
    ·exact ⟨HI.out.o1 j hj,by have := (HI.out.V.N.own hj).1; omega⟩
end
end Go.Proofs.Ytjifdalflepcoab
namespace Go.Proofs.Ytjifdalflepcoab
open Go.RowKit
set_option linter.unusedVariables false
set_option linter.unusedSimpArgs false
section
variable {w w' : World} {h : BH} {O : Wo} {W : Wd} {φ : Int → Int}
set_option maxHeartbeats 8000000 in
set_option maxRecDepth 100000 in
theorem right_c (R : Rep O W φ) (B : BothAt w h O W) (hT : W.T.length ≤ 90000) :
  Calls Try.prog 78 #[.pointer (some ⟨h.p,0,none⟩)] w fun e w' => e = .returned (.bool true) ∧ Keeps (fun _ => False) w w' := by
 have HR := Lib.hid R; have HB := Lib.hid B; have HT := Lib.hid hT
 have c0 := B.hp.cell 0; have c1 := B.hp.cell 1; have pl := B.hp.lt
 simp only [List.getElem?_cons_zero,List.getElem?_cons_succ] at c0 c1
 have q0 := B.H.ptrs.1; have ql := B.H.hp.lt
 have EY := Lib.hid R.sy.symm; have EO := Lib.hid R.olds_eq.symm
 clear R B hT
 go_enter Try.func78,Try.ntmps78
 go_wp2_with fail
 refine (Used_c _ HB.out.H.ha).mono ?_
 rintro e w1 ⟨rfl,hk⟩
 have B1 := Lib.hid (HB.out.same hk); have K1 := Lib.hid hk
 clear hk c0 c1 pl q0 ql HB
 have c0 := B1.out.hp.cell 0; have c1 := B1.out.hp.cell 1; have pl := B1.out.hp.lt
 simp only [List.getElem?_cons_zero,List.getElem?_cons_succ] at c0 c1
 go_wp2_with fail
 refine (WUsed_c B1.out.R (by have := HT.out; omega)).mono ?_
 rintro e w2 ⟨rfl,hk⟩
 have B2 := Lib.hid (B1.out.same hk); have K2 := Lib.hid (K1.out.trans hk)
 clear hk c0 c1 pl B1 K1
 rw [EY.out,EO.out]
 have c0 := B2.out.hp.cell 0; have c1 := B2.out.hp.cell 1; have pl := B2.out.hp.lt
 simp only [List.getElem?_cons_zero,List.getElem?_cons_succ] at c0 c1
 generalize ((O.ar.yng : Nat) : Int) = ya at *
 generalize ((O.ar.grn - O.ar.nur : Nat) : Int) = ga at *
 have e1 : (ya == ya) = true := by simp
 have e2 : (ga == ga) = true := by simp
 go_wp2_with fail
 refine wp_region_ro (.free 0 (.free 1 (.free 2 (.free 3 (.free 4 (.free 5 (.free 6 (.free 7 (.free 8 (.free 9 (.free 10 (.free 11 (.free 14 (.free 15 (.free 16 (.pure 12 (.pure 17 (.run 13 (.run 18 (.swi [19,20,21] (.run 19 (.swi [] (.free 20 (.free 21 (.fin))))))))))))))))))))))))) [18,19,20,21] (fun w' => w'.cell? ⟨h.p,0,none⟩ = some (.pointer (some ⟨h.a.p,0,none⟩)) ∧ w'.cell? ⟨h.p,1,none⟩ = some (.pointer (some ⟨h.b.p,0,none⟩))) (by kernel_rfl) (by kernel_rfl) ⟨c0,c1⟩ ?_
 iterate 17 first | (refine wpRO_free rfl rfl _ (fun w' => by go_simp; exact Gives.mk _ _) (fun K hK => ?_); go_simp; refine hK _ ?_; clear hK K) | (refine wpRO_skipF rfl rfl (fun K hK => ?_); go_simp; refine hK _ ?_; clear hK K) | (refine wpRO_pure rfl rfl _ (fun w' hG => by obtain ⟨c0,c1⟩ := hG; exact gives_agg2 rfl (by decide +kernel) rfl (by assumption) (by assumption)) (fun K hK => ?_); go_simp; refine hK _ ?_; clear hK K) | (refine wpRO_pure rfl rfl _ (fun w' hG => by obtain ⟨c0,c1⟩ := hG; go_simp; exact Gives.mk _ _) (fun K hK => ?_); go_simp; refine hK _ ?_; clear hK K) | (refine wpRO_skip rfl rfl (fun K hK => ?_); go_simp; refine hK _ ?_; clear hK K)
 refine wpRO_run rfl rfl (fun K hK => ?_); unfold gRun; go_simp
 refine (View_c _ (B2.out.same ((Keeps.refl (fun _ => False) w2).drew)).H).mono ?_
 rintro e w3 ⟨v3,rfl,hv3,hk3⟩
 have kk := (Keeps.refl (fun _ => False) w2).drew.trans hk3
 have B3 := Lib.hid (B2.out.same kk); have K3 := Lib.hid (K2.out.trans kk)
 have V3 := Lib.hid hv3
 refine hK _ _ (fun _ => ⟨B3.out.hp.cell 0,B3.out.hp.cell 1⟩) ?_
 clear hK K hv3 hk3 kk c0 c1 pl B2 K2
 refine wpRO_run rfl rfl (fun K hK => ?_); unfold gRun; go_simp
 refine (WView_c _ B3.out.R (by have := HT.out; omega)).mono ?_
 rintro e w4 ⟨v4,rfl,hv4,hk4⟩
 have B4 := Lib.hid (B3.out.same hk4); have K4 := Lib.hid (K3.out.trans hk4)
 have V4 := Lib.hid (V3.out.keep hk4 (fun _ _ _ h => h)); have U4 := Lib.hid hv4
 refine hK _ _ (fun _ => ⟨B4.out.hp.cell 0,B4.out.hp.cell 1⟩) ?_
 clear hK K hv4 hk4 B3 K3 V3
 refine wpRO_swi (fun _ => True) trivial ?_
 refine wpRO_chg rfl rfl rfl (fun K hK => ?_); unfold gRun; go_simp
 refine (SameView_yes _ _ O.view _ (V4.out.rep HR.out) (by have := U4.out; rw [← HR.out.view] at this; exact this.rep HR.out)).mono ?_
 rintro e w5 ⟨rfl,hk5⟩
 have K5 := Lib.hid (K4.out.trans hk5)
 refine hK _ _ ?_
 clear hK K hk5 B4 K4 V4 U4
 refine wpRO_swi (fun _ => True) trivial ?_
 iterate 2 first | (refine wpRO_free rfl rfl _ (fun w' => by go_simp; exact Gives.mk _ _) (fun K hK => ?_); go_simp; refine hK _ ?_; clear hK K) | (refine wpRO_skipF rfl rfl (fun K hK => ?_); go_simp; refine hK _ ?_; clear hK K)
 refine wpRO_fin ?_
 go_wp2_with fail
 go_ret
 exact ⟨rfl,K5.out⟩
end
end Go.Proofs.Ytjifdalflepcoab
namespace Go.Proofs.Ytjifdalflepcoab
open Go.RowKit
theorem alloc_setCell (w : World) (o : Obj) (a : Addr) (v : Value) (h : a.block < w.heap.size) : (w.alloc o).setCell a v = (w.setCell a v).alloc o := by
 unfold World.setCell World.alloc
 congr 1
 apply Array.ext
 ·simp
 ·intro i h1 h2
  simp only [Array.getElem_modify,Array.getElem_push,Array.size_modify]
  simp only [Array.size_modify,Array.size_push] at h1
  by_cases e : a.block = i
  ·subst e
   simp [h]
  ·simp [e]
end Go.Proofs.Ytjifdalflepcoab
