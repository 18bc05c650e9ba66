/-
  side.Settle, the walk.
-/
import Derived.Test.YtjifdalflepcoaaSettle
namespace Go.Proofs.Ytjifdalflepcoaa
open Go.RowKit
set_option linter.unusedVariables false
set_option linter.unusedSimpArgs false
variable {τ : Type}

/-- What is registered behind Settle. -/
def newRegs (alive : τ → Int → Bool) (now : τ → Int → Int) (t : τ) (l : List It) : List (Int × Int) := (l.filter fun i => !i.2.1 && alive t i.1.1).map fun i => (now t i.1.1, now t i.1.2)

/-- What waits behind Settle. -/
def newWait (alive : τ → Int → Bool) (now : τ → Int → Int) (t : τ) (l : List (Int × Int)) : List (Int × Int) := (l.filter fun e => alive t e.1).map fun e => (now t e.1, now t e.2)

/-- What is gone over at first. -/
def itemsM (alive : τ → Int → Bool) (t : τ) (regs : List (Int × Int)) : List It := regs.map fun e => (e, !alive t e.2, false)

/-- Behind the passes. -/
def passM (alive : τ → Int → Bool) (keep : τ → List (Int × Int) → Int → τ × List (Int × Int) × Int) (t : τ) (regs wait : List (Int × Int)) : τ × List (Int × Int) × List It :=
  roundsM alive keep (regs.length + 1) t wait (itemsM alive t regs)

/-- Behind Settle. -/
def SettleTo {P : Program} {p : Nat} (L : Liv P p τ) (t : τ) (F : Nat → Prop) (rv wv : Value) (regs wait : List (Int × Int)) (w : World) (e : Ending) (w' : World) : Prop :=
  e = .returned (.tuple #[]) ∧ ∃ F' rv' wv', L.J w' (passM L.alive L.keep t regs wait).1 F' ∧
    SideAt w' p rv' wv' (newRegs L.alive L.now (passM L.alive L.keep t regs wait).1 (passM L.alive L.keep t regs wait).2.2) (newWait L.alive L.now (passM L.alive L.keep t regs wait).1 (passM L.alive L.keep t regs wait).2.1) ∧
    Apart F' p rv' wv' ∧ Keeps (fun b => F b ∨ SideFp p rv wv b) w w' ∧ (∀ b, F' b → F b ∨ w.heap.size ≤ b) ∧ (∀ b, SideFp p rv' wv' b → SideFp p rv wv b ∨ w.heap.size ≤ b)

/-- Between passes. -/
def MoreIn {P : Program} {p : Nat} (L : Liv P p τ) (w : World) (F : Nat → Prop) (rv wv : Value) (b0 b1 b2 : Nat) (t : τ) (regs wait : List (Int × Int)) (N : Nat) (wr : World) (more : Bool) (items : List It) : Prop :=
  ∃ n t' q' F' wv', Mid L w F rv wv b0 b1 b2 items q' t' F' wv' wr ∧ items.map (·.1) = regs ∧ q'.length + unN items ≤ N ∧ (more = true → unN items < n) ∧
    passM L.alive L.keep t regs wait = if more then roundsM L.alive L.keep n t' q' items else (t', q', items)

/-- While dead is made. -/
def deadL (alive : τ → Int → Bool) (t : τ) (regs : List (Int × Int)) (k : Nat) : List Value := ((regs.take k).map fun e => .bool (!alive t e.2)) ++ List.replicate (regs.length - k) (.bool false)

theorem deadL_set {alive : τ → Int → Bool} {t : τ} {regs : List (Int × Int)} {k : Nat} (h : k < regs.length) : deadL alive t regs (k + 1) = (deadL alive t regs k).set k (.bool (!alive t (regs.getD k (0, 0)).2)) := by
  unfold deadL
  rw [List.take_succ_eq_append_getElem h, List.map_append, List.set_append_right _ _ (by simp; omega)]
  have hr : List.replicate (regs.length - k) (Value.bool false) = .bool false :: List.replicate (regs.length - (k + 1)) (.bool false) := by
    rw [show regs.length - k = (regs.length - (k + 1)) + 1 by omega, List.replicate_succ]
  rw [hr]
  have hg : regs.getD k (0, 0) = regs[k] := by simp [List.getD, h]
  rw [hg]
  have h0 : k - (List.map (fun e => Value.bool (!alive t e.2)) (regs.take k)).length = 0 := by simp; omega
  rw [h0]
  simp

theorem deadL_length {alive : τ → Int → Bool} {t : τ} {regs : List (Int × Int)} {k : Nat} (h : k ≤ regs.length) : (deadL alive t regs k).length = regs.length := by
  unfold deadL; simp; omega

theorem deadL_full (alive : τ → Int → Bool) (t : τ) (regs : List (Int × Int)) : deadL alive t regs regs.length = (itemsM alive t regs).map fun i => .bool i.2.1 := by
  unfold deadL itemsM; simp

theorem itemsM_fst (alive : τ → Int → Bool) (t : τ) (regs : List (Int × Int)) : (itemsM alive t regs).map (·.1) = regs := by
  simp [itemsM, List.map_map, Function.comp_def]

theorem itemsM_un (alive : τ → Int → Bool) (t : τ) (regs : List (Int × Int)) : unN (itemsM alive t regs) = regs.length := by
  unfold itemsM unN; rw [List.filter_map, List.length_map]
  congr 1
  apply List.filter_eq_self.2
  intro a _; rfl

theorem itemsM_moved (alive : τ → Int → Bool) (t : τ) (regs : List (Int × Int)) : List.replicate regs.length (Value.bool false) = (itemsM alive t regs).map fun i => .bool i.2.2 := by
  unfold itemsM; rw [List.map_map]
  apply List.ext_getElem (by simp)
  intro i h1 h2
  simp

theorem MoreIn.start {P : Program} {p : Nat} {L : Liv P p τ} {w : World} {F : Nat → Prop} {rv wv : Value} {t : τ} {regs wait : List (Int × Int)} {wr wm : World}
    (hJ : L.J w t F) (h : SideAt w p rv wv regs wait) (hap : Apart F p rv wv) (hD1 : ∀ e ∈ regs, L.D t e.1 ∧ L.DK t e.2) (hD : ∀ e ∈ wait, L.D t e.1 ∧ L.D t e.2)
    (hk : Keeps (fun b => w.heap.size ≤ b) w wr) (h0 : Blk wr w.heap.size L.cells 51) (h1 : Blk wr (w.heap.size + 1) (deadL L.alive t regs regs.length) 4)
    (hkm : Keeps (fun _ => False) wr wm) (h2 : Blk wm wr.heap.size (List.replicate regs.length (.bool false)) 4) : MoreIn L w F rv wv w.heap.size (w.heap.size + 1) wr.heap.size t regs wait (wait.length + regs.length) wm true (itemsM L.alive t regs) := by
  have k2 : Keeps (fun b => w.heap.size ≤ b) w wm := hk.trans (hkm.mono fun _ _ h => h.elim)
  have l1 := h1.lt
  have hF : ∀ b, w.heap.size ≤ b → ¬ F b := fun b hb hf => by have := L.J_lt hJ hf; omega
  refine ⟨regs.length + 1, t, wait, F, wv, ⟨L.J_keep hJ k2 (fun b hb hw => hF b hw hb), ?_, hap, ?_, fun b hb => .inl hb, fun b hb => .inl hb, hkm.blk h0 (fun h => h), ?_, ?_, hF _ (Nat.le_refl _), hF _ (by omega), hF _ (by omega), Nat.le_refl _, by omega, by omega, by omega, hD, ?_⟩, itemsM_fst _ _ _, ?_, ?_, ?_⟩
  · rw [itemsM_fst]; exact h.keep k2 (fun b hb hw => by have := h.fp_lt hb; omega)
  · exact ⟨k2.os, k2.tape, k2.output, k2.size, fun b hb hn => k2.block b hb (by omega)⟩
  · rw [← deadL_full]; exact hkm.blk h1 (fun h => h)
  · rw [← itemsM_moved]; exact h2
  · intro i hi
    unfold itemsM at hi
    simp only [List.mem_map] at hi
    obtain ⟨e, he, rfl⟩ := hi
    exact hD1 e he
  · rw [itemsM_un]; exact Nat.le_refl _
  · intro _; rw [itemsM_un]; omega
  · rfl

theorem MoreIn.next {P : Program} {p : Nat} {L : Liv P p τ} {w : World} {F : Nat → Prop} {rv wv : Value} {b0 b1 b2 : Nat} {t : τ} {regs wait : List (Int × Int)} {N n : Nat} {t' : τ} {q' : List (Int × Int)} {items : List It} {w2 : World} {more : Bool}
    (hf : items.map (·.1) = regs) (hn : unN items < n) (he : passM L.alive L.keep t regs wait = roundsM L.alive L.keep n t' q' items) (hs : ScanIn L w F rv wv b0 b1 b2 t' q' items N w2 regs.length more) :
    ∃ done, MoreIn L w F rv wv b0 b1 b2 t regs wait N w2 more done ∧ unN done ≤ unN items ∧ (more = true → unN done < unN items) ∧ Blk w2 b2 (done.map fun i => .bool i.2.2) 4 := by
  obtain ⟨t2, q2, F2, v2, done, hd, hm, hN, hE⟩ := hs
  have hl : items.length = regs.length := by rw [← hf]; simp
  rw [← hl, List.drop_length, List.append_nil] at hm hN
  rw [← hl, List.drop_length] at hE
  simp only [scanM, List.append_nil, Bool.or_false] at hE
  obtain ⟨m, rfl⟩ : ∃ m, n = m + 1 := ⟨n - 1, by omega⟩
  have hu := scanM_un L.alive L.keep items t' q'
  have hfs := scanM_fst L.alive L.keep items t' q'
  rw [hE] at hu hfs
  simp only at hu hfs
  refine ⟨done, ⟨m, t2, q2, F2, v2, hm, ?_, hN, fun h => by have := hu.2 h; omega, ?_⟩, hu.1, hu.2, hm.h2⟩
  · have := congrArg (List.map (fun x : (Int × Int) × Bool => x.1)) hfs
    simp only [List.map_map] at this
    rw [← hf]
    exact this
  · rw [he]
    simp only [roundsM, hE]

/-- 1: true. -/
def bit (v : Value) : Nat := match v with | .bool true => 1 | _ => 0

theorem newRegs_step {alive : τ → Int → Bool} {now : τ → Int → Int} {t : τ} {l : List It} {k : Nat} (h : k < l.length) : newRegs alive now t (l.take (k + 1)) = newRegs alive now t (l.take k) ++ if (!l[k].2.1 && alive t l[k].1.1) = true then [(now t l[k].1.1, now t l[k].1.2)] else [] := by
  unfold newRegs
  rw [List.take_succ_eq_append_getElem h, List.filter_append, List.map_append]
  congr 1
  cases hc : (!l[k].2.1 && alive t l[k].1.1) <;> simp [List.filter_cons, hc]

theorem newRegs_le {alive : τ → Int → Bool} {now : τ → Int → Int} {t : τ} {l : List It} : (newRegs alive now t l).length ≤ l.length := by
  unfold newRegs; rw [List.length_map]; exact List.length_filter_le _ _

theorem newWait_step {alive : τ → Int → Bool} {now : τ → Int → Int} {t : τ} {l : List (Int × Int)} {k : Nat} (h : k < l.length) : newWait alive now t (l.take (k + 1)) = newWait alive now t (l.take k) ++ if alive t (l.getD k (0, 0)).1 = true then [(now t (l.getD k (0, 0)).1, now t (l.getD k (0, 0)).2)] else [] := by
  have hg : l.getD k (0, 0) = l[k] := by simp [List.getD, h]
  rw [hg]
  unfold newWait
  rw [List.take_succ_eq_append_getElem h, List.filter_append, List.map_append]
  congr 1
  cases hc : alive t l[k].1 <;> simp [List.filter_cons, hc]

theorem newWait_le {alive : τ → Int → Bool} {now : τ → Int → Int} {t : τ} {l : List (Int × Int)} : (newWait alive now t l).length ≤ l.length := by
  unfold newWait; rw [List.length_map]; exact List.length_filter_le _ _

/-- A list made anew. -/
def NewL (w wr : World) (v : Value) (l : List (Int × Int)) : Prop := Sl wr 40 2 v l.length (entV l) ∧ Keeps (fun _ => False) w wr ∧ ∀ b, ownB v b → w.heap.size ≤ b

theorem NewL.nil (w : World) : NewL w w (.slice none 0 0) [] := ⟨Sl.nil w 40 2, Keeps.refl _ _, by intro k hk; simp [ownB, Value.ownBlock] at hk⟩

theorem NewL.keep {w wr w2 : World} {v : Value} {l : List (Int × Int)} (h : NewL w wr v l) (k : Keeps (fun _ => False) wr w2) : NewL w w2 v l := ⟨h.1.keep k (fun _ _ h => h), h.2.1.trans k, h.2.2⟩

theorem NewL.app {w wr w1 w2 : World} {v v2 : Value} {l : List (Int × Int)} {e : Int × Int} (h : NewL w wr v l) (k1 : Keeps (fun _ => False) wr w1) (hs : Sl w2 40 2 v2 (l.length + 1) (entV l ++ [.int .i64 e.1, .int .i64 e.2])) (hk : Keeps (ownB v) w1 w2) (ho : ∀ b, ownB v2 b → ownB v b ∨ w1.heap.size ≤ b) : NewL w w2 v2 (l ++ [e]) := by
  refine ⟨by simpa [entV] using hs, (h.2.1.trans k1).then hk (fun b hb => .inr (h.2.2 b hb)), fun b hb => ?_⟩
  rcases ho b hb with h1 | h1
  · exact h.2.2 b h1
  · exact Nat.le_trans (Nat.le_trans h.2.1.size k1.size) h1

theorem SettleTo.done {P : Program} {p : Nat} {L : Liv P p τ} {w : World} {F : Nat → Prop} {rv wv : Value} {b0 b1 b2 : Nat} {t : τ} {regs wait : List (Int × Int)} {t' : τ} {q' : List (Int × Int)} {items : List It} {F' : Nat → Prop} {wv' : Value} {wr w1 w2 : World} {v1 v2 : Value}
    (he : passM L.alive L.keep t regs wait = (t', q', items)) (h : Mid L w F rv wv b0 b1 b2 items q' t' F' wv' wr) (n1 : NewL wr w1 v1 (newRegs L.alive L.now t' items)) (n2 : NewL w1 w2 v2 (newWait L.alive L.now t' q')) :
    SettleTo L t F rv wv regs wait w (.returned (.tuple #[])) ((w2.setCell ⟨p, 0, none⟩ v1).setCell ⟨p, 1, none⟩ v2) := by
  have hm2 := (h.keep n1.2.1).keep n2.2.1
  have kset := ((Keeps.refl (· = p) w2).setCell (p := ⟨p, 0, none⟩) (.inl rfl) v1).setCell (p := ⟨p, 1, none⟩) (.inl rfl) v2
  have hpl := h.hS.hp.lt
  have s1 := n1.2.1.size
  have s0 := h.hK.size
  have o1 : ¬ ownB v1 p := fun hb => by have := n1.2.2 p hb; omega
  have o2 : ¬ ownB v2 p := fun hb => by have := n2.2.2 p hb; omega
  unfold SettleTo
  rw [he]
  refine ⟨rfl, F', v1, v2, L.J_keep hm2.hJ kset (by rintro b hb rfl; exact h.hA b ⟨hb, .inl rfl⟩), ⟨by simpa using (hm2.hS.hp.setSame 0 v1).setSame 1 v2, (n1.1.keep n2.2.1 (fun _ _ h => h)).keep kset (by rintro b hb rfl; exact o1 hb), n2.1.keep kset (by rintro b hb rfl; exact o2 hb), ?_⟩, ?_,
    (hm2.hK.setCell (p := ⟨p, 0, none⟩) (.inl (.inr (.inl rfl))) v1).setCell (p := ⟨p, 1, none⟩) (.inl (.inr (.inl rfl))) v2, h.hF, ?_⟩
  · rintro b ⟨h1, h2⟩
    have := (n1.1.own h1).1
    have := n2.2.2 b h2
    omega
  · rintro b ⟨h1, h2 | h2 | h2⟩
    · exact h.hA b ⟨h1, .inl h2⟩
    · have := L.J_lt h.hJ h1
      have := n1.2.2 b h2
      omega
    · have := L.J_lt h.hJ h1
      have := n2.2.2 b h2
      omega
  · rintro b (h1 | h1 | h1)
    · exact .inl (.inl h1)
    · have := n1.2.2 b h1; exact .inr (by omega)
    · have := n2.2.2 b h1; exact .inr (by omega)

set_option maxHeartbeats 4000000 in
set_option maxRecDepth 100000 in
theorem Settle_c (p : Nat) (L : Liv Try.prog p τ) (t : τ) (F : Nat → Prop) (rv wv : Value) (regs wait : List (Int × Int)) (w : World)
    (hJ : L.J w t F) (h : SideAt w p rv wv regs wait) (hap : Apart F p rv wv) (hl1 : regs.length ≤ 100000) (hl2 : wait.length ≤ 100000) (hD1 : ∀ e ∈ regs, L.D t e.1 ∧ L.DK t e.2) (hD : ∀ e ∈ wait, L.D t e.1 ∧ L.D t e.2) :
    Calls Try.prog 28 #[.pointer (some ⟨p, 0, none⟩), L.val] w fun e w' => SettleTo L t F rv wv regs wait w e w' := by
  obtain ⟨ie, hie, hez0, hez1, hez2⟩ := info_parts info_entry
  have Hi := Lib.hid hie; have Hz0 := Lib.hid hez0; have Hz1 := Lib.hid hez1; have Hz2 := Lib.hid hez2; clear hie hez0 hez1 hez2
  obtain ⟨ib, hi, hz0, hz1, hz2⟩ := info_parts info_bool
  have hmk := fun (wx : World) (n : Nat) (h1 : n ≤ 9223372036854775807) (h2 : n ≤ 281474976710656) => run_make_one (P := Try.prog) wx 100 4 ib (.bool false) Try.underlying100 hi hz0 rfl hz1 n (by rw [hz2]; omega) h1
  have HM := Lib.hid hmk; clear hmk hi hz0 hz1 hz2
  have hk := fun (wx : World) => HM.out wx regs.length (by omega) (by omega)
  obtain ⟨ro, rc, rfl, hrd, _, _⟩ := h.hr.rd
  have c0 := h.hp.cell 0
  simp only [List.getElem?_cons_zero, List.getElem?_cons_succ] at c0
  have hpl := h.hp.lt
  have H := Lib.hid h; have HR := Lib.hid hrd
  have HJ := Lib.hid hJ; have HA := Lib.hid hap; have HD := Lib.hid hD; have HD1 := Lib.hid hD1
  clear h hrd hJ hap hD hD1
  have ea := L.ea; have ek := L.ek; have en := L.en
  generalize hbox : w.alloc (.cells #[.func (.func L.fa) L.a1 L.a2, .func (.func L.fk) L.k1 L.k2, .func (.func L.fn) L.n1 L.n2] 51) = wb
  have hkb : Keeps (fun _ => False) w wb := by rw [← hbox]; exact (Keeps.refl _ _).alloc _
  have hbb : Blk wb w.heap.size L.cells 51 := by rw [← hbox]; exact Blk.newAt _ rfl rfl
  have hszb : wb.heap.size = w.heap.size + 1 := by rw [← hbox]; simp
  have HKB := Lib.hid hkb; have HBB := Lib.hid hbb; have HSZ := Lib.hid hszb; have HBX := Lib.hid hbox
  clear hkb hbb hszb hbox
  generalize hwd : wb.alloc (.cells (Array.replicate regs.length (.bool false)) 4) = wd
  have hkd : Keeps (fun _ => False) wb wd := by rw [← hwd]; exact (Keeps.refl _ _).alloc _
  have hbd : Blk wd (w.heap.size + 1) (deadL L.alive t regs 0) 4 := by rw [← hwd]; exact Blk.newAt _ HSZ.out.symm (by simp [deadL])
  have HKD := Lib.hid hkd; have HBD := Lib.hid hbd; have HWD := Lib.hid hwd
  clear hkd hbd hwd
  unfold Liv.val
  go_enter Try.func28, Try.ntmps28
  go_wp2_with fail
  rw [HBX.out, HWD.out]
  go_loopw [29] (fun i wr => ∃ k : Nat, k ≤ regs.length ∧ i = .int .i64 k ∧ Blk wr (w.heap.size + 1) (deadL L.alive t regs k) 4 ∧ Keeps (· = w.heap.size + 1) wd wr) (fun i _ => regs.length - (intOf i).toNat)
  case atStart => exact ⟨0, Nat.zero_le _, rfl, HBD.out, Keeps.refl _ _⟩
  case round =>
    obtain ⟨k, hkl, rfl, hbl, hkr⟩ := hrel
    have HBL := Lib.hid hbl; have HKR := Lib.hid hkr
    have hkw : Keeps (fun b => w.heap.size ≤ b) w wr := ((HKB.out.trans HKD.out).mono fun _ _ h => h.elim).trans (hkr.mono (by rintro b _ rfl; omega))
    have hkn : ∀ b, b < w.heap.size → ¬ (w.heap.size ≤ b) := fun b h => by omega
    have HKW := Lib.hid hkw; have HKN := Lib.hid hkn
    clear hbl hkr hkw hkn
    by_cases hlt : k < regs.length
    · have hrd := HR.out.keep HKW.out (fun a _ h => HKN.out _ h)
      obtain ⟨g, o, rfl, hgl, d0, d1⟩ := hrd.ent k hlt
      have hvd0 := HD1.out (regs.getD k (0, 0)) (by simp [List.getD, hlt])
      have hvd := And.intro hvd0.1 (L.DK_D hvd0.2)
      clear hvd0
      have HDS := Lib.hid (deadL_set (alive := L.alive) (t := t) hlt)
      generalize regs.getD k (0, 0) = v at *
      have hbx : Blk wr w.heap.size L.cells 51 := HKR.out.blk (HKD.out.blk HBB.out (fun h => h)) (by omega)
      have HX := Lib.hid hbx; have HV := Lib.hid hvd
      have b0 := hbx.cell 0
      have bl := hbx.lt
      simp only [Liv.cells, List.getElem?_cons_zero] at b0
      clear hrd hvd hbx
      go_wp2_with fail
      have hk0 := (Keeps.refl (fun _ => False) wr).alloc (.cells #[Value.int IntKind.i64 v.fst, Value.int IntKind.i64 v.snd] 40)
      refine (L.alive_c _ t F v.2 (L.J_keep HJ.out (HKW.out.trans (hk0.mono fun _ _ h => h.elim)) (fun b h => HKN.out b (L.J_lt HJ.out h))) HV.out.2).mono ?_
      rintro e w1 ⟨rfl, hk1⟩
      have HB1 := Lib.hid (hk1.blk (hk0.blk HBL.out (fun h => h)) (fun h => h))
      have HK1 := Lib.hid (HKR.out.trans ((hk0.trans hk1).mono fun _ _ h => h.elim))
      clear hk0 hk1
      obtain ⟨old, q0⟩ : ∃ old, w1.cell? ⟨w.heap.size + 1, k, none⟩ = some old := ⟨_, by rw [HB1.out.cell, List.getElem?_eq_getElem (by rw [deadL_length (Nat.le_of_lt hlt)]; exact hlt)]⟩
      have qf := HB1.out.free k
      have ql := HB1.out.lt
      go_wp2_with fail
      go_roundw
      case rel => exact ⟨k + 1, by omega, by go_num, by rw [HDS.out]; exact HB1.out.setSame k _, HK1.out.setCell (p := ⟨w.heap.size + 1, k, none⟩) (.inl rfl) _⟩
      case measure => simp [intOf]; omega
    · obtain rfl : k = regs.length := by omega
      have p0 := (HKW.out.blk H.out.hp (HKN.out _ hpl)).cell 0
      have pl := (HKW.out.blk H.out.hp (HKN.out _ hpl)).lt
      simp only [List.getElem?_cons_zero] at p0
      have hbx : Blk wr w.heap.size L.cells 51 := HKR.out.blk (HKD.out.blk HBB.out (fun h => h)) (by omega)
      generalize hwm : wr.alloc (.cells (Array.replicate regs.length (.bool false)) 4) = wm
      have hst := MoreIn.start (wm := wm) HJ.out H.out HA.out HD1.out HD.out HKW.out hbx HBL.out (by rw [← hwm]; exact (Keeps.refl _ _).alloc _) (by rw [← hwm]; exact Blk.newAt _ rfl (by simp))
      have hr0 : w.heap.size + 2 ≤ wr.heap.size := HBL.out.lt
      have HST := Lib.hid hst; have HWM := Lib.hid hwm; have HR0 := Lib.hid hr0
      clear hst hwm hbx hr0
      go_wp2_with fail
      rw [HWM.out]
      generalize wr.heap.size = b2 at *
      go_loopw [8] (fun v wx => ∃ more items, v = .bool more ∧ MoreIn L w F (.slice ro regs.length rc) wv w.heap.size (w.heap.size + 1) b2 t regs wait (wait.length + regs.length) wx more items) (fun v wx => 2 * cntF wx b2 + bit v)
      case atStart => exact ⟨true, _, rfl, HST.out⟩
      case round =>
        obtain ⟨more, items, rfl, n, t', q', F', wv', hm, hf, hN, hun, he⟩ := hrel
        have GM := Lib.hid hm; have GF := Lib.hid hf; have GN := Lib.hid hN; have GU := Lib.hid hun; have GE := Lib.hid he
        have hsr := hm.hS
        rw [hf] at hsr
        have GS := Lib.hid hsr
        have x0 := hm.hS.hp.cell 0
        have xl := hm.hS.hp.lt
        simp only [List.getElem?_cons_zero] at x0
        have hbl := Nat.le_trans (Nat.le_refl _) hm.h2.lt
        have hcn := cntF_blk hm.h2
        have HCN := Lib.hid hcn
        clear hm hf hN hun he hsr hcn p0 pl c0 HST
        have p0 := x0
        clear x0
        cases more
        · have he := GE.out
          simp only [Bool.false_eq_true, if_false] at he
          have GE2 := Lib.hid he
          clear he GE
          go_wp2_with fail
          go_loopw [12, 106] (fun v i wx => ∃ (k : Nat), k ≤ regs.length ∧ i = .int .i64 k ∧ NewL wr wx v (newRegs L.alive L.now t' (items.take k))) (fun _ i _ => regs.length - (intOf i).toNat)
          case atStart => exact ⟨0, Nat.zero_le _, rfl, NewL.nil wr⟩
          case round =>
            obtain ⟨k, hk, rfl, hnl⟩ := hrel
            have KNL := Lib.hid hnl
            have hmk := GM.out.keep hnl.2.1
            have hil : items.length = regs.length := by rw [← GF.out]; simp
            clear hnl
            by_cases hlt : k < regs.length
            · have hki : k < items.length := by omega
              have hst := newRegs_step (alive := L.alive) (now := L.now) (t := t') hki
              have hvd0 := hmk.hr items[k] (List.getElem_mem hki)
              have hvd := And.intro hvd0.1 (L.DK_D hvd0.2)
              clear hvd0
              have hgk : items[k]? = some items[k] := List.getElem?_eq_getElem hki
              have hfs : regs.getD k (0, 0) = items[k].1 := by rw [← GF.out]; simp [List.getD, hki]
              have hsr := hmk.hS
              rw [GF.out] at hsr
              obtain ⟨_, _, e', hrd, _, _⟩ := hsr.hr.rd
              cases e'
              obtain ⟨g, o, rfl, hgl, d0, d1⟩ := hrd.ent k hlt
              rw [hfs] at d0 d1
              have f0 := hmk.h0.cell 0; have fl := hmk.h0.lt
              have r1 := hmk.h1.cell k; have r1l := hmk.h1.lt
              rw [List.getElem?_map, hgk] at r1
              simp only [Option.map_some] at r1
              simp only [Liv.cells, List.getElem?_cons_zero, List.getElem?_cons_succ] at f0
              have hle : (newRegs L.alive L.now t' (items.take k)).length ≤ 100000 := Nat.le_trans newRegs_le (Nat.le_trans (List.length_take_le _ _) (by omega))
              generalize items[k] = i at *
              obtain ⟨v, dd, mv⟩ := i
              have KM := Lib.hid hmk; have KST := Lib.hid hst; have KV := Lib.hid hvd
              have KLE := Lib.hid hle
              clear hmk hst hvd hgk hfs hsr hrd hle
              cases dd
              · go_wp2_with fail
                have hk0 := (Keeps.refl (fun _ => False) wr).alloc (.cells #[Value.int IntKind.i64 v.fst, Value.int IntKind.i64 v.snd] 40)
                refine (L.alive_c _ t' F' v.1 (L.J_keep KM.out.hJ hk0 (fun _ _ h => h)) KV.out.1).mono ?_
                rintro e w1 ⟨rfl, hk1⟩
                have KK1 := Lib.hid (hk0.trans hk1)
                have KE1 := Lib.hid (hk1.blk (Blk.newAt (w := wr) _ rfl rfl) (fun h => h))
                clear hk0 hk1
                cases ha : L.alive t' v.1
                · go_wp2_with fail
                  go_roundw
                  case rel => exact ⟨k + 1, by omega, by go_num, by rw [KST.out, ha]; simpa using KNL.out.keep KK1.out⟩
                  case measure => simp [intOf]; omega
                · have hm1 := KM.out.keep KK1.out
                  clear f0 fl r1 r1l d0 d1
                  have f2 := hm1.h0.cell 2
                  have e0 := KE1.out.cell 0; have e1 := KE1.out.cell 1
                  simp only [Liv.cells, List.getElem?_cons_zero, List.getElem?_cons_succ] at f2 e0 e1
                  clear hm1
                  go_wp2_with fail
                  refine wp_region_ord [(0, 0), (1, 0), (3, 0), (6, 0), (8, 0), (2, 0), (4, 0), (7, 0), (9, 0), (5, 1), (10, 1), (11, 0), (12, 1), (13, 1), (14, 0)] (fun w' => w'.cell? ⟨w.heap.size, 2, none⟩ = some (.func (.func L.fn) L.n1 L.n2) ∧ w'.cell? ⟨wr.heap.size, 0, none⟩ = some (.int .i64 v.1) ∧ w'.cell? ⟨wr.heap.size, 1, none⟩ = some (.int .i64 v.2)) (by kernel_rfl) (by kernel_rfl) ⟨f2, e0, e1⟩ ?_
                  iterate 9 (refine wpOrd_pure rfl rfl _ (fun w' hG => by obtain ⟨g0, g1, g2⟩ := hG; go_simp; exact Gives.mk _ _) (fun K hK => ?_); go_simp; refine hK _ ?_; clear hK K)
                  refine wpOrd_run rfl rfl (fun K hK => ?_); unfold gRun; go_simp
                  have kd1 : Keeps (fun _ => False) wr w1.drew := KK1.out.trans ((Keeps.refl _ w1).drew)
                  refine (L.now_c _ t' F' v.1 (KM.out.keep kd1).hJ KV.out.1).mono ?_
                  rintro e w2 ⟨rfl, hk2⟩
                  have kd2 := kd1.trans hk2
                  have be2 := hk2.blk (KE1.out.drew) (fun h => h)
                  refine hK _ _ ⟨(KM.out.keep kd2).h0.cell 2, be2.cell 0, be2.cell 1⟩ ?_
                  clear hK K
                  refine wpOrd_run rfl rfl (fun K hK => ?_); unfold gRun; go_simp
                  refine (L.now_c _ t' F' v.2 (KM.out.keep kd2).hJ KV.out.2).mono ?_
                  rintro e w3 ⟨rfl, hk3⟩
                  have kd3 := kd2.trans hk3
                  have be3 := hk3.blk be2 (fun h => h)
                  refine hK _ _ ⟨(KM.out.keep kd3).h0.cell 2, be3.cell 0, be3.cell 1⟩ ?_
                  clear hK K
                  have KD3 := Lib.hid kd3; have KB3 := Lib.hid be3
                  clear kd1 kd2 kd3 be2 be3 hk2 hk3 f2 e0 e1
                  iterate 1 (refine wpOrd_pure rfl rfl _ (fun w' hG => by obtain ⟨g0, g1, g2⟩ := hG; go_simp; exact Gives.mk _ _) (fun K hK => ?_); go_simp; refine hK _ ?_; clear hK K)
                  refine wpOrd_run rfl rfl (fun K hK => ?_); unfold gRun; go_simp; refine hK _ _ ?_ ?_
                  · have k := (Keeps.refl (fun _ => False) w3).alloc (.cells #[.int .i64 (L.now t' v.1), .int .i64 (L.now t' v.2)] 40)
                    exact ⟨(KM.out.keep (KD3.out.trans k)).h0.cell 2, (k.blk KB3.out (fun h => h)).cell 0, (k.blk KB3.out (fun h => h)).cell 1⟩
                  clear hK K
                  refine wpOrd_run rfl rfl (fun K hK => ?_)
                  have hle := KLE.out
                  refine gRun_app (.tmp 123) (.tmp 135) 31 rfl 40 ie (.agg #[.int .i64 0, .int .i64 0]) 2 16 Try.underlying31 Hi.out Hz0.out Hz1.out Hz2.out rfl (by decide) _ (newRegs L.alive L.now t' (items.take k)).length (entV (newRegs L.alive L.now t' (items.take k))) rfl ?ja ⟨w3.heap.size, 0, none⟩ 1 1 [.int .i64 (L.now t' v.1), .int .i64 (L.now t' v.2)] rfl rfl ?jb ?jc ?jd ?je ?jf
                  case ja => exact (KNL.out.keep (KD3.out.trans ((Keeps.refl (fun _ => False) w3).alloc _))).1
                  case jb => exact news_at w3 40 #[.int .i64 (L.now t' v.1), .int .i64 (L.now t' v.2)]
                  case jc => intro u hu; simp at hu; rcases hu with rfl | rfl <;> rfl
                  case jd => unfold maxLen; omega
                  case je => omega
                  case jf =>
                    intro v5 w5 hs5 hk5 ho5
                    have hka : Keeps (fun _ => False) w3 (w3.alloc (.cells #[.int .i64 (L.now t' v.1), .int .i64 (L.now t' v.2)] 40)) := (Keeps.refl (fun _ => False) w3).alloc _
                    have hnw := NewL.app (e := (L.now t' v.1, L.now t' v.2)) KNL.out (KD3.out.trans hka) hs5 hk5 ho5
                    have kd5 := KD3.out.trans hka
                    have KNW := Lib.hid hnw
                    have hm5 := KM.out.keep (w2 := w3.alloc (.cells #[.int .i64 (L.now t' v.1), .int .i64 (L.now t' v.2)] 40)) kd5
                    have be5 := hka.blk KB3.out (fun h => h)
                    have nb0 : ¬ ownB u12 w.heap.size := fun h => by
                      obtain ⟨_, cur, hc⟩ := KNL.out.1.own h
                      exact KM.out.h0.ne hc (by decide) rfl
                    have nb1 : ¬ ownB u12 wr.heap.size := fun h => by
                      have := (KNL.out.1.own h).1
                      omega
                    refine hK _ _ ⟨(hk5.blk hm5.h0 nb0).cell 2, (hk5.blk be5 nb1).cell 0, (hk5.blk be5 nb1).cell 1⟩ ?_
                    clear hK K hs5 hk5 ho5 hka hnw kd5 hm5 be5 nb0 nb1
                    iterate 1 (refine wpOrd_pure rfl rfl _ (fun w' hG => by obtain ⟨g0, g1, g2⟩ := hG; go_simp; exact Gives.mk _ _) (fun K hK => ?_); go_simp; refine hK _ ?_; clear hK K)
                    refine wpOrd_end ?_
                    go_wp2_with fail
                    go_roundw
                    case rel => exact ⟨k + 1, by omega, by go_num, by rw [KST.out, ha]; exact KNW.out⟩
                    case measure => simp [intOf]; omega
              · go_wp2_with fail
                go_roundw
                case rel => exact ⟨k + 1, by omega, by go_num, by rw [KST.out]; simpa using KNL.out.keep ((Keeps.refl _ _).alloc _)⟩
                case measure => simp [intOf]; omega
            · obtain rfl : k = regs.length := by omega
              have htk : items.take regs.length = items := by rw [← hil]; exact List.take_length
              have hnl := KNL.out
              rw [htk] at hnl
              obtain ⟨n1, c1, rfl, _, _, _⟩ := hnl.1.rd
              obtain ⟨wo, wc, rfl, _, _, _⟩ := hmk.hS.hw.rd
              have p1 := hmk.hS.hp.cell 1
              have pl1 := hmk.hS.hp.lt
              simp only [List.getElem?_cons_zero, List.getElem?_cons_succ] at p1
              have hql : q'.length ≤ 200000 := by have := GN.out; omega
              have KN1 := Lib.hid hnl; have KM0 := Lib.hid hmk
              clear hnl hmk htk KNL
              go_wp2_with fail
              go_loopw [13, 143] (fun v i wx => ∃ (k : Nat), k ≤ q'.length ∧ i = .int .i64 k ∧ NewL wr wx v (newWait L.alive L.now t' (q'.take k))) (fun _ i _ => q'.length - (intOf i).toNat)
              case atStart => exact ⟨0, Nat.zero_le _, rfl, NewL.nil wr⟩
              case round =>
                obtain ⟨k, hk, rfl, hnl⟩ := hrel
                have KNL := Lib.hid hnl
                have hmk := KM0.out.keep hnl.2.1
                clear hnl
                by_cases hlt : k < q'.length
                · have hst := newWait_step (alive := L.alive) (now := L.now) (t := t') hlt
                  have hvd := hmk.hq (q'.getD k (0, 0)) (by simp [List.getD, hlt])
                  obtain ⟨_, _, e', hrd, _, _⟩ := hmk.hS.hw.rd
                  cases e'
                  obtain ⟨g, o, rfl, hgl, d0, d1⟩ := hrd.ent k hlt
                  have f0 := hmk.h0.cell 0; have fl := hmk.h0.lt
                  simp only [Liv.cells, List.getElem?_cons_zero, List.getElem?_cons_succ] at f0
                  have hle : (newWait L.alive L.now t' (q'.take k)).length ≤ 200000 := Nat.le_trans newWait_le (Nat.le_trans (List.length_take_le _ _) (by omega))
                  generalize q'.getD k (0, 0) = v at *
                  have KM := Lib.hid hmk; have KST := Lib.hid hst; have KV := Lib.hid hvd
                  have KLE := Lib.hid hle
                  clear hmk hst hvd hrd hle
                  go_wp2_with fail
                  have hk0 := (Keeps.refl (fun _ => False) wr).alloc (.cells #[Value.int IntKind.i64 v.fst, Value.int IntKind.i64 v.snd] 40)
                  refine (L.alive_c _ t' F' v.1 (L.J_keep KM.out.hJ hk0 (fun _ _ h => h)) KV.out.1).mono ?_
                  rintro e w1 ⟨rfl, hk1⟩
                  have KK1 := Lib.hid (hk0.trans hk1)
                  have KE1 := Lib.hid (hk1.blk (Blk.newAt (w := wr) _ rfl rfl) (fun h => h))
                  clear hk0 hk1
                  cases ha : L.alive t' v.1
                  · go_wp2_with fail
                    go_roundw
                    case rel => exact ⟨k + 1, by omega, by go_num, by rw [KST.out, ha]; simpa using KNL.out.keep KK1.out⟩
                    case measure => simp [intOf]; omega
                  · have hm1 := KM.out.keep KK1.out
                    clear f0 fl d0 d1
                    have f2 := hm1.h0.cell 2
                    have e0 := KE1.out.cell 0; have e1 := KE1.out.cell 1
                    simp only [Liv.cells, List.getElem?_cons_zero, List.getElem?_cons_succ] at f2 e0 e1
                    clear hm1
                    go_wp2_with fail
                    refine wp_region_ord [(0, 0), (1, 0), (3, 0), (6, 0), (8, 0), (2, 0), (4, 0), (7, 0), (9, 0), (5, 1), (10, 1), (11, 0), (12, 1), (13, 1), (14, 0)] (fun w' => w'.cell? ⟨w.heap.size, 2, none⟩ = some (.func (.func L.fn) L.n1 L.n2) ∧ w'.cell? ⟨wr.heap.size, 0, none⟩ = some (.int .i64 v.1) ∧ w'.cell? ⟨wr.heap.size, 1, none⟩ = some (.int .i64 v.2)) (by kernel_rfl) (by kernel_rfl) ⟨f2, e0, e1⟩ ?_
                    iterate 9 (refine wpOrd_pure rfl rfl _ (fun w' hG => by obtain ⟨g0, g1, g2⟩ := hG; go_simp; exact Gives.mk _ _) (fun K hK => ?_); go_simp; refine hK _ ?_; clear hK K)
                    refine wpOrd_run rfl rfl (fun K hK => ?_); unfold gRun; go_simp
                    have kd1 : Keeps (fun _ => False) wr w1.drew := KK1.out.trans ((Keeps.refl _ w1).drew)
                    refine (L.now_c _ t' F' v.1 (KM.out.keep kd1).hJ KV.out.1).mono ?_
                    rintro e w2 ⟨rfl, hk2⟩
                    have kd2 := kd1.trans hk2
                    have be2 := hk2.blk (KE1.out.drew) (fun h => h)
                    refine hK _ _ ⟨(KM.out.keep kd2).h0.cell 2, be2.cell 0, be2.cell 1⟩ ?_
                    clear hK K
                    refine wpOrd_run rfl rfl (fun K hK => ?_); unfold gRun; go_simp
                    refine (L.now_c _ t' F' v.2 (KM.out.keep kd2).hJ KV.out.2).mono ?_
                    rintro e w3 ⟨rfl, hk3⟩
                    have kd3 := kd2.trans hk3
                    have be3 := hk3.blk be2 (fun h => h)
                    refine hK _ _ ⟨(KM.out.keep kd3).h0.cell 2, be3.cell 0, be3.cell 1⟩ ?_
                    clear hK K
                    have KD3 := Lib.hid kd3; have KB3 := Lib.hid be3
                    clear kd1 kd2 kd3 be2 be3 hk2 hk3 f2 e0 e1
                    iterate 1 (refine wpOrd_pure rfl rfl _ (fun w' hG => by obtain ⟨g0, g1, g2⟩ := hG; go_simp; exact Gives.mk _ _) (fun K hK => ?_); go_simp; refine hK _ ?_; clear hK K)
                    refine wpOrd_run rfl rfl (fun K hK => ?_); unfold gRun; go_simp; refine hK _ _ ?_ ?_
                    · have k := (Keeps.refl (fun _ => False) w3).alloc (.cells #[.int .i64 (L.now t' v.1), .int .i64 (L.now t' v.2)] 40)
                      exact ⟨(KM.out.keep (KD3.out.trans k)).h0.cell 2, (k.blk KB3.out (fun h => h)).cell 0, (k.blk KB3.out (fun h => h)).cell 1⟩
                    clear hK K
                    refine wpOrd_run rfl rfl (fun K hK => ?_)
                    have hle := KLE.out
                    refine gRun_app (.tmp 152) (.tmp 164) 31 rfl 40 ie (.agg #[.int .i64 0, .int .i64 0]) 2 16 Try.underlying31 Hi.out Hz0.out Hz1.out Hz2.out rfl (by decide) _ (newWait L.alive L.now t' (q'.take k)).length (entV (newWait L.alive L.now t' (q'.take k))) rfl ?la ⟨w3.heap.size, 0, none⟩ 1 1 [.int .i64 (L.now t' v.1), .int .i64 (L.now t' v.2)] rfl rfl ?lb ?lc ?ld ?le ?lf
                    case la => exact (KNL.out.keep (KD3.out.trans ((Keeps.refl (fun _ => False) w3).alloc _))).1
                    case lb => exact news_at w3 40 #[.int .i64 (L.now t' v.1), .int .i64 (L.now t' v.2)]
                    case lc => intro u hu; simp at hu; rcases hu with rfl | rfl <;> rfl
                    case ld => unfold maxLen; omega
                    case le => omega
                    case lf =>
                      intro v5 w5 hs5 hk5 ho5
                      have hka : Keeps (fun _ => False) w3 (w3.alloc (.cells #[.int .i64 (L.now t' v.1), .int .i64 (L.now t' v.2)] 40)) := (Keeps.refl (fun _ => False) w3).alloc _
                      have hnw := NewL.app (e := (L.now t' v.1, L.now t' v.2)) KNL.out (KD3.out.trans hka) hs5 hk5 ho5
                      have kd5 := KD3.out.trans hka
                      have KNW := Lib.hid hnw
                      have hm5 := KM.out.keep (w2 := w3.alloc (.cells #[.int .i64 (L.now t' v.1), .int .i64 (L.now t' v.2)] 40)) kd5
                      have be5 := hka.blk KB3.out (fun h => h)
                      have nb0 : ¬ ownB u13 w.heap.size := fun h => by
                        obtain ⟨_, cur, hc⟩ := KNL.out.1.own h
                        exact KM.out.h0.ne hc (by decide) rfl
                      have nb1 : ¬ ownB u13 wr.heap.size := fun h => by
                        have := (KNL.out.1.own h).1
                        omega
                      refine hK _ _ ⟨(hk5.blk hm5.h0 nb0).cell 2, (hk5.blk be5 nb1).cell 0, (hk5.blk be5 nb1).cell 1⟩ ?_
                      clear hK K hs5 hk5 ho5 hka hnw kd5 hm5 be5 nb0 nb1
                      iterate 1 (refine wpOrd_pure rfl rfl _ (fun w' hG => by obtain ⟨g0, g1, g2⟩ := hG; go_simp; exact Gives.mk _ _) (fun K hK => ?_); go_simp; refine hK _ ?_; clear hK K)
                      refine wpOrd_end ?_
                      go_wp2_with fail
                      go_roundw
                      case rel => exact ⟨k + 1, by omega, by go_num, by rw [KST.out, ha]; exact KNW.out⟩
                      case measure => simp [intOf]; omega
                · obtain rfl : k = q'.length := by omega
                  have hnl := KNL.out
                  rw [List.take_length] at hnl
                  obtain ⟨n2, c2, rfl, _, _, _⟩ := hnl.1.rd
                  have hmk := KM0.out.keep KNL.out.2.1
                  have p0 := hmk.hS.hp.cell 0
                  have p1 := hmk.hS.hp.cell 1
                  have fz0 := hmk.hS.hp.free 0
                  have fz1 := hmk.hS.hp.free 1
                  have pl := hmk.hS.hp.lt
                  simp only [List.getElem?_cons_zero, List.getElem?_cons_succ] at p0 p1
                  have KN2 := Lib.hid hnl
                  clear hnl hmk KNL
                  go_wp2_with fail
                  go_end0
                  exact SettleTo.done GE2.out GM.out KN1.out KN2.out
        · have he := GE.out
          simp only [if_true] at he
          have GE2 := Lib.hid he
          have hun := GU.out rfl
          clear he GE
          have hl0 : items.length = regs.length := by rw [← GF.out]; simp
          have HI : ScanIn L w F (.slice ro regs.length rc) wv w.heap.size (w.heap.size + 1) b2 t' q' items (wait.length + regs.length) wr 0 false :=
            ⟨t', q', F', wv', [], rfl, by simpa using GM.out, by simpa using GN.out, by simp⟩
          have HL0 := Lib.hid hl0
          clear hl0
          go_wp2_with fail
          go_loopw [8, 56] (fun v i wx => ∃ (k : Nat) (more : Bool), k ≤ regs.length ∧ i = .int .i64 k ∧ v = .bool more ∧ ScanIn L w F (.slice ro regs.length rc) wv w.heap.size (w.heap.size + 1) b2 t' q' items (wait.length + regs.length) wx k more) (fun _ i _ => regs.length - (intOf i).toNat)
          case atStart => exact ⟨0, false, Nat.zero_le _, rfl, rfl, HI⟩
          case round =>
            clear HI
            obtain ⟨k, more, hk, rfl, rfl, hsc⟩ := hrel
            by_cases hlt : k < regs.length
            · obtain ⟨t2, q2, F2, v2, done, hd, hm, hN, hE⟩ := hsc
              have hki : k < items.length := by rw [HL0.out]; exact hlt
              have hdr : items.drop k = items[k] :: items.drop (k + 1) := List.drop_eq_getElem_cons hki
              rw [hdr] at hm hN hE
              generalize items[k] = i at *
              obtain ⟨v, dd, mv⟩ := i
              have hln : ((done ++ (v, dd, mv) :: items.drop (k + 1)).map (·.1)).length = regs.length := by
                have := HL0.out
                simp [hd]; omega
              have hgt : ((done ++ (v, dd, mv) :: items.drop (k + 1)).map (·.1)).getD k (0, 0) = v := by simp [List.getD, hd]
              obtain ⟨_, _, e', hrd, _, _⟩ := hm.hS.hr.rd
              rw [hln] at e'
              cases e'
              obtain ⟨g, o, rfl, hgl, d0, d1⟩ := hrd.ent k (by omega)
              rw [hgt] at d0 d1
              have f0 := hm.h0.cell 0; have f1 := hm.h0.cell 1; have fl := hm.h0.lt
              have r1 := hm.h1.cell k; have r1l := hm.h1.lt
              have r2 := hm.h2.cell k; have r2l := hm.h2.lt
              simp only [Liv.cells, List.getElem?_cons_zero, List.getElem?_cons_succ] at f0 f1
              have hgk : (done ++ (v, dd, mv) :: items.drop (k + 1))[k]? = some (v, dd, mv) := by simp [hd]
              rw [List.getElem?_map, hgk] at r1 r2
              simp only [Option.map_some] at r1 r2
              have fz := hm.h2.free k
              have hvd := hm.hr (v, dd, mv) (by simp)
              have KM := Lib.hid hm; have KD := Lib.hid hd; have KDR := Lib.hid hdr; have KN := Lib.hid hN; have KE := Lib.hid hE; have KV := Lib.hid hvd; have KL := Lib.hid hln
              clear hm hd hdr hN hE hgt hrd hgk hvd hln
              have SKIP : Hid (∀ w2, Keeps (fun _ => False) wr w2 → ((dd && !mv) && L.alive t2 v.1) = false → ScanIn L w F (.slice (some ⟨g, o, none⟩) regs.length rc) wv w.heap.size (w.heap.size + 1) b2 t' q' items (wait.length + regs.length) w2 (k + 1) more) := fun w2 h1 h2 => ScanIn.skip KD.out KDR.out KM.out KN.out KE.out h1 h2
              cases dd
              · go_wp2_with fail
                go_roundw
                case rel => exact ⟨k + 1, more, by omega, by go_num, rfl, SKIP.out _ ((Keeps.refl _ _).alloc _) rfl⟩
                case measure => simp [intOf]; omega
              · cases mv
                · go_wp2_with fail
                  have hk0 := (Keeps.refl (fun _ => False) wr).alloc (.cells #[Value.int IntKind.i64 v.fst, Value.int IntKind.i64 v.snd] 40)
                  refine (L.alive_c _ t2 F2 v.1 (L.J_keep KM.out.hJ hk0 (fun _ _ h => h)) KV.out.1).mono ?_
                  rintro e w1 ⟨rfl, hk1⟩
                  have KK1 := Lib.hid (hk0.trans hk1)
                  have KE1 := Lib.hid (hk1.blk (Blk.newAt (w := wr) _ rfl rfl) (fun h => h))
                  cases ha : L.alive t2 v.1
                  · clear hk0 hk1
                    go_wp2_with fail
                    go_roundw
                    case rel => exact ⟨k + 1, more, by omega, by go_num, rfl, SKIP.out _ KK1.out (by rw [ha]; rfl)⟩
                    case measure => simp [intOf]; omega
                  · have hm1 := KM.out.keep KK1.out
                    have hm2 := hm1.move
                    rw [KD.out] at hm2
                    clear f0 f1 fl r1 r1l r2 r2l fz d0 d1 hk0 hk1
                    have r2 := hm1.h2.cell k; have r2l := hm1.h2.lt
                    have hgk : (done ++ (v, true, false) :: items.drop (k + 1))[k]? = some (v, true, false) := by simp [KD.out]
                    rw [List.getElem?_map, hgk] at r2
                    simp only [Option.map_some] at r2
                    have fz := hm1.h2.free k
                    have f1 := hm1.h0.cell 1; have fl := hm1.h0.lt
                    simp only [Liv.cells, List.getElem?_cons_zero, List.getElem?_cons_succ] at f1
                    have e1 := KE1.out.cell 1
                    have el := KE1.out.lt
                    simp only [List.getElem?_cons_zero, List.getElem?_cons_succ] at e1
                    have hbe : b2 < wr.heap.size := KM.out.h2.lt
                    have hbl0 : w.heap.size < wr.heap.size := KM.out.h0.lt
                    have hr0 := HR0.out
                    have hr1 : w.heap.size ≠ b2 := by omega
                    have KM2 := Lib.hid hm2
                    clear hm1 hm2 hgk
                    go_wp2_with fail
                    refine (L.keep_c _ t2 F2 _ v2 _ q2 v.2 KM2.out.hJ KM2.out.hS KM2.out.hA KV.out.2 KM2.out.hq).mono ?_
                    rintro e w4 ⟨rfl, F4, hJ4, hS4, hA4, hk4, hF4⟩
                    have hm4 := KM2.out.kept KV.out.2 hJ4 hS4 hA4 hk4 hF4
                    have hlen : (L.keep t2 q2 v.2).2.1.length = q2.length := L.keep_len
                    have hql : (L.keep t2 q2 v.2).2.1.length ≤ 200000 := by have := KN.out; omega
                    have hdn := L.D_new (wait := q2) KV.out.2
                    have hdg := L.D_keep (wait := q2) KV.out.2 KV.out.1
                    have hb4 := hk4.blk ((KE1.out).setOther (a := ⟨b2, k, none⟩) (by show wr.heap.size ≠ b2; omega) (.bool true)) (by
                      rintro (h | h)
                      · have := L.J_lt KM.out.hJ h; omega
                      · have := KM.out.hS.fp_lt h; omega)
                    obtain ⟨wo, wc, rfl, _, _, _⟩ := hm4.hS.hw.rd
                    clear hJ4 hS4 hA4 hk4 hF4 hlen f1 fl r2 r2l fz e1 el
                    generalize hr : L.keep t2 q2 v.2 = r at *
                    have KR := Lib.hid hr; have KM4 := Lib.hid hm4; have KDN : Hid (L.D r.1 v.1 ∧ L.D r.1 r.2.2) := ⟨hdg, hdn⟩; have KB4 := Lib.hid hb4
                    have p1 := hm4.hS.hp.cell 1
                    have pl1 := hm4.hS.hp.lt
                    have e0 := hb4.cell 0
                    have el := hb4.lt
                    have fz := hm4.hS.hp.free 1
                    simp only [List.getElem?_cons_zero, List.getElem?_cons_succ] at p1 e0
                    clear hr hm4 hdn hdg hb4
                    go_wp2_with fail
                    refine wp_region_ord [(0, 0), (1, 0), (2, 0), (3, 0), (5, 0), (7, 0), (4, 0), (6, 0), (8, 0), (9, 1), (10, 1), (11, 0), (12, 0), (13, 2)] (fun w' => w'.cell? ⟨p, 1, none⟩ = some (.slice wo r.2.1.length wc) ∧ w'.cell? ⟨wr.heap.size, 0, none⟩ = some (.int .i64 v.1)) (by kernel_rfl) (by kernel_rfl) ⟨p1, e0⟩ ?_
                    iterate 9 (refine wpOrd_pure rfl rfl _ (fun w' hG => by obtain ⟨g0, g1⟩ := hG; go_simp; exact Gives.mk _ _) (fun K hK => ?_); go_simp; refine hK _ ?_; clear hK K)
                    refine wpOrd_run rfl rfl (fun K hK => ?_); unfold gRun; go_simp; refine hK _ _ ?_ ?_
                    · have k := (Keeps.refl (fun _ => False) w4).alloc (.cells #[.int .i64 v.1, .int .i64 r.2.2] 40)
                      exact ⟨(k.blk KM4.out.hS.hp (fun h => h)).cell 1, (k.blk KB4.out (fun h => h)).cell 0⟩
                    clear hK K
                    refine wpOrd_run rfl rfl (fun K hK => ?_)
                    refine gRun_app (.tmp 91) (.tmp 96) 31 rfl 40 ie (.agg #[.int .i64 0, .int .i64 0]) 2 16 Try.underlying31 Hi.out Hz0.out Hz1.out Hz2.out rfl (by decide) _ r.2.1.length (entV r.2.1) rfl ?ha ⟨w4.heap.size, 0, none⟩ 1 1 [.int .i64 v.1, .int .i64 r.2.2] rfl rfl ?hb ?hc ?hd ?he ?hf
                    case ha => exact KM4.out.hS.hw.keep (((Keeps.refl (fun _ => False) w4).alloc _).drew) (fun _ _ h => h)
                    case hb => exact news_at w4 40 #[.int .i64 v.1, .int .i64 r.2.2]
                    case hc => intro u hu; simp at hu; rcases hu with rfl | rfl <;> rfl
                    case hd => unfold maxLen; omega
                    case he => omega
                    case hf =>
                      intro v5 w5 hs5 hk5 ho5
                      have hka : Keeps (fun _ => False) w4 ((w4.alloc (.cells #[.int .i64 v.1, .int .i64 r.2.2] 40)).drew) := ((Keeps.refl (fun _ => False) w4).alloc _).drew
                      have hm5 := KM4.out.keep hka
                      have hp5 := hk5.blk hm5.hS.hp hm5.hS.pw
                      have hb5 := hk5.blk (hka.blk KB4.out (fun h => h)) (fun h => by
                        have := (KM.out.hS.hw.own h).1
                        omega)
                      refine hK _ _ ⟨hp5.cell 1, hb5.cell 0⟩ ?_
                      clear hK K
                      have hs6 : Sl w5 40 2 v5 (r.2.1 ++ [(v.1, r.2.2)]).length (entV (r.2.1 ++ [(v.1, r.2.2)])) := by simpa [entV] using hs5
                      obtain ⟨vo, vc, rfl, _, _, _⟩ := hs6.rd
                      have KM6 := Lib.hid (hm5.app (e := (v.1, r.2.2)) KDN.out hs6 hk5 ho5)
                      have d0 := hp5.cell 1
                      have dl := hp5.lt
                      have f0 := hp5.free 1
                      simp only [List.getElem?_cons_zero, List.getElem?_cons_succ] at d0
                      rw [List.length_append] at KM6
                      clear hs5 hk5 ho5 hka hm5 hp5 hb5 hs6 p1 pl1 e0 el fz
                      iterate 2 (refine wpOrd_pure rfl rfl _ (fun w' hG => by obtain ⟨g0, g1⟩ := hG; go_simp; exact Gives.mk _ _) (fun K hK => ?_); go_simp; refine hK _ ?_; clear hK K)
                      refine wpOrd_last rfl rfl (fun K hK => ?_); unfold gRun; go_simp; refine hK _ _ ?_
                      clear hK K
                      refine wpOrd_end ?_
                      go_wp2_with fail
                      go_roundw
                      case rel => exact ⟨k + 1, true, by omega, by go_num, rfl, ScanIn.took KD.out KN.out KE.out (by rw [KR.out]; exact KM6.out) (by rw [ha]; rfl)⟩
                      case measure => simp [intOf]; omega
                · go_wp2_with fail
                  go_roundw
                  case rel => exact ⟨k + 1, more, by omega, by go_num, rfl, SKIP.out _ ((Keeps.refl _ _).alloc _) rfl⟩
                  case measure => simp [intOf]; omega
            · obtain rfl : k = regs.length := by omega
              obtain ⟨done, hmi, h1, h2, h3⟩ := MoreIn.next GF.out hun GE2.out hsc
              have HMI := Lib.hid hmi
              have hc2 := cntF_blk h3
              have HC2 := Lib.hid hc2
              clear hmi h3 hsc hc2
              go_wp2_with fail
              go_roundw
              case rel => exact ⟨more, done, rfl, HMI.out⟩
              case measure =>
                rw [HCN.out, HC2.out]
                cases more
                · show 2 * unN done + 0 < 2 * unN items + 1
                  omega
                · have := h2 rfl
                  show 2 * unN done + 1 < 2 * unN items + 1
                  omega

end Go.Proofs.Ytjifdalflepcoaa
