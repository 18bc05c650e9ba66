/-
  wood.View, whole.
-/
import Derived.Test.YtjifdalflepcoabWView2
namespace Go.Proofs.Ytjifdalflepcoab
open Go.RowKit Go.Maps
set_option linter.unusedVariables false
set_option linter.unusedSimpArgs false

section
variable {h : WH} {O : Wo} {q b : Nat} {rv : Value}

set_option maxHeartbeats 4000000 in
set_option maxRecDepth 100000 in
theorem value_new (n : Nat) (ih : ValOk h O q b rv n) (x : Int) (nv : Value) (F : Nat → Prop) (s : VS) (w : World) (V : VwAt w q h O b rv nv F s) (hx : R64 x) (h1 : x % 4 = 1) (hxu : x / 4 ∈ O.univ) (hm : ¬ x / 4 ∈ s.1)
    (hu : unM O.univ s.1 ≤ n + 1) (hc : s.1.length + unM O.univ s.1 ≤ 5000) :
    Calls Try.prog 92 #[.pointer (some ⟨q, 0, none⟩), .int .i64 x] w fun e w' => ValRet w q h O b rv nv F (valM O.gr (n + 1) (valO x) s) e w' := by
  have HV := Lib.hid V
  have HE := Lib.hid (show (valM O.gr (n + 1) (valO x) s).1 = refV s.1.length by rw [valO_ref h1, valM_new O.gr n rfl hm])
  have HVO := Lib.hid (valO_ref h1)
  have H1 := Lib.hid h1; have HM := Lib.hid hm; have HU := Lib.hid hu; have HC := Lib.hid hc; have HXU := Lib.hid hxu; have HIH := Lib.hid ih
  have r0 : -2305843009213693952 ≤ x / 4 := by have := hx.1; omega
  have r2 : x / 4 ≤ 2305843009213693951 := by have := hx.2; omega
  clear V h1 hm hu hc hxu ih
  go_enter Try.func92, Try.ntmps92
  go_wp2_with fail
  refine (At_yes x _ H1.out).mono ?_
  rintro e w1 ⟨rfl, rfl⟩
  have hka := (Keeps.refl (fun _ => False) w).alloc (.cells #[.int .i64 0, .int .i64 0] 78)
  have V1 := Lib.hid (HV.out.same hka)
  have hal : Blk (w.alloc (.cells #[.int .i64 0, .int .i64 0] 78)) w.heap.size [.int .i64 0, .int .i64 0] 78 := Blk.newAt _ rfl rfl
  have HAL := Lib.hid hal; have HKA := Lib.hid hka
  have c1 := V1.out.hq.cell 1; have cl := V1.out.hq.lt
  simp only [List.getElem?_cons_zero, List.getElem?_cons_succ] at c1
  obtain ⟨n0, D, hown, hn0, hD⟩ := V1.out.hm
  have HD := Lib.hid (hD (x / 4) (by omega) (by omega))
  clear hD hka hal
  go_wp2_with (at_lookup; refine wpList_lookup_own_ok_int _ rfl _ _ 134 rfl 3 3 .i64 key_int Try.underlying134 Try.underlying3 (zero_int _) b n0 D rfl hown _ _ rfl (keyOf_int_mk Try.underlying3 (WalkArith.wf_i64 (by constructor <;> omega))) ?_)
  intro c hat hwc
  rw [HD.out.1, decide_eq_false HM.out]
  clear hat hwc hown hn0 c1 cl
  go_wp2_with fail
  refine (node_c n HIH.out (x / 4) nv F s _ V1.out r0 r2 HXU.out HM.out HU.out HC.out).mono ?_
  rintro e w2 ⟨rfl, ht⟩
  have hb2 := ht.choose_spec.choose_spec.2.1.blk HAL.out (by
    intro hf
    have := HV.out.lt hf
    omega)
  have l0 := hb2.cell 0; have l1 := hb2.cell 1; have ll := hb2.lt; have f0 := hb2.free 0; have f1 := hb2.free 1
  simp only [List.getElem?_cons_zero, List.getElem?_cons_succ] at l0 l1
  have HB2 := Lib.hid hb2; have HT := Lib.hid ht
  clear hb2 ht
  go_wp2_with fail
  have hb3 := (HB2.out.setSame 0 (.int .i64 3)).setSame 1 (.int .i64 s.1.length)
  have x0' := hb3.cell 0; have x1' := hb3.cell 1
  simp only [List.set_cons_zero, List.set_cons_succ, List.getElem?_cons_zero, List.getElem?_cons_succ] at x0' x1'
  refine bodyPost_ret (v := .agg #[.int .i64 3, .int .i64 s.1.length]) (by simp [results, Try.results92, go_sem, x0', x1']) rfl ?_
  refine ⟨by rw [HE.out]; rfl, ?_⟩
  rw [HVO.out]
  have hsz := HKA.out.size
  have hsz1 : (w.alloc (.cells #[.int .i64 0, .int .i64 0] 78)).heap.size = w.heap.size + 1 := by simp
  obtain ⟨nv1, F1, V2, k2, p1, p2⟩ := HT.out
  have ke := ((Keeps.refl (· = w.heap.size) w2).setCell (p := ⟨w.heap.size, 0, none⟩) (.inl rfl) (.int .i64 3)).setCell (p := ⟨w.heap.size, 1, none⟩) (.inl rfl) (.int .i64 s.1.length)
  refine ⟨nv1, F1, V2.keep ke (fun j hj e => ?_) (fun j hj e => ?_) (fun j hj e => ?_), (((HKA.out.mono (fun _ _ h => h.elim)).trans k2).setCell (p := ⟨w.heap.size, 0, none⟩) (.inr (Nat.le_refl _)) _).setCell (p := ⟨w.heap.size, 1, none⟩) (.inr (Nat.le_refl _)) _, fun j hj => ?_, fun j hj => ?_⟩
  · subst e; exact V2.fp_ne HB2.out (by decide) (by decide) hj
  · subst e
    obtain ⟨c', T, hc', hT⟩ := V2.hw.own_type hj
    rcases hT with rfl | rfl | rfl | rfl | rfl | rfl | rfl <;> exact HB2.out.ne hc' (by decide) rfl
  · subst e
    rcases p2 _ hj with h1 | h1
    · have := (HV.out.hF _ h1).1; omega
    · omega
  · rcases p1 j hj with h1 | h1
    · exact .inl h1
    · exact .inr (by omega)
  · rcases p2 j hj with h1 | h1
    · exact .inl h1
    · exact .inr (by omega)

theorem value_c : ∀ n : Nat, n ≤ 5000 → ValOk h O q b rv n := by
  intro n
  induction n with
  | zero =>
    intro _ x nv F s w V hx hxu hu hc
    exact value_met x 0 V hx (fun h1 => unM_zero (Nat.le_zero.1 hu) (hxu h1)) (by omega)
  | succ n ih =>
    intro hn x nv F s w V hx hxu hu hc
    by_cases hm : x % 4 = 1 → x / 4 ∈ s.1
    · exact value_met x (n + 1) V hx hm (by omega)
    · obtain ⟨h1, h2⟩ := Classical.not_imp.1 hm
      exact value_new n (ih (by omega)) x nv F s w V hx h1 (hxu h1) h2 hu hc

/-- A view in memory: made since the heap was lo. -/
def ViewV (w : World) (lo : Nat) (v : Value) (V : List Vl × List Nd) : Prop :=
  ∃ ro rc no nc F, v = .agg #[.slice ro V.1.length rc, .slice no V.2.length nc] ∧ Sl w 78 2 (.slice ro V.1.length rc) V.1.length (entV V.1) ∧ NodesAt w (.slice no V.2.length nc) F V.2 ∧
    ∀ k, (F k ∨ ownB (.slice ro V.1.length rc) k ∨ ownB (.slice no V.2.length nc) k) → lo ≤ k ∧ k < w.heap.size

theorem ViewV.keep {w w' : World} {S : Nat → Prop} {lo : Nat} {v : Value} {V : List Vl × List Nd} (H : ViewV w lo v V) (k : Keeps S w w') (hn : ∀ j, lo ≤ j → j < w.heap.size → ¬ S j) : ViewV w' lo v V := by
  obtain ⟨ro, rc, no, nc, F, e, h1, h2, h3⟩ := H
  refine ⟨ro, rc, no, nc, F, e, h1.keep k (fun j hj => ?_), h2.keep k (fun j hj _ => ?_) (fun j hj => ?_), fun j hj => ⟨(h3 j hj).1, Nat.lt_of_lt_of_le (h3 j hj).2 k.size⟩⟩
  · have := h3 j (.inr (.inl hj)); exact hn j this.1 this.2
  · have := h3 j (.inl hj); exact hn j this.1 this.2
  · have := h3 j (.inr (.inr hj)); exact hn j this.1 this.2

/-- In the midst of View: the roots so far. -/
structure TopIn (w : World) (q : Nat) (h : WH) (O : Wo) (b : Nat) (wr : World) (rv nv : Value) (F : Nat → Prop) (s : VS) (l : List Vl) : Prop where
  V : VwAt wr q h O b rv nv F s
  K : Keeps (fun _ => False) w wr
  o1 : ∀ k, ownB nv k → w.heap.size ≤ k
  o2 : ∀ k, F k → w.heap.size < k
  L : Sl wr 78 2 rv l.length (entV l)
  o3 : ∀ k, ownB rv k → w.heap.size ≤ k ∧ ¬ F k
  oq : w.heap.size ≤ q
  ob : w.heap.size ≤ b
  B : Blk wr w.heap.size [.slice none 0 0, .slice none 0 0] 72

theorem TopIn.rv_ne {w wr : World} {rv nv : Value} {F : Nat → Prop} {s : VS} {l : List Vl} (I : TopIn w q h O b wr rv nv F s l) {k : Nat} (hk : ownB rv k) : ¬ VwFp q b nv k ∧ ¬ h.Own k := by
  obtain ⟨_, c, hc⟩ := I.L.own hk
  refine ⟨I.V.fp_ne hc (by decide) (by decide), fun h1 => ?_⟩
  obtain ⟨c', T, hc', hT⟩ := I.V.hw.own_type h1
  rcases hT with rfl | rfl | rfl | rfl | rfl | rfl | rfl <;> exact hc.ne hc' (by decide) rfl

theorem TopIn.told {w wr w2 : World} {rv nv : Value} {F : Nat → Prop} {s s2 : VS} {l : List Vl} (I : TopIn w q h O b wr rv nv F s l) (t : VwTo wr q h O b rv nv F s2 w2) : ∃ nv2 F2, TopIn w q h O b w2 rv nv2 F2 s2 l := by
  obtain ⟨nv2, F2, V2, k2, p1, p2⟩ := t
  have hz := I.K.size
  refine ⟨nv2, F2, V2, I.K.then k2 (fun j hj => ?_), fun j hj => ?_, fun j hj => ?_, I.L.keep k2 (fun j hj => (I.rv_ne hj).1), fun j hj => ⟨(I.o3 j hj).1, fun hf => ?_⟩, I.oq, I.ob, k2.blk I.B (I.V.fp_ne I.B (by decide) (by decide))⟩
  · rcases hj with rfl | rfl | hj
    · exact .inr I.oq
    · exact .inr I.ob
    · exact .inr (I.o1 j hj)
  · rcases p1 j hj with h | h
    · exact I.o1 j h
    · omega
  · have hbl := I.B.lt
    rcases p2 j hj with h | h
    · exact I.o2 j h
    · omega
  · rcases p2 j hf with h | h
    · exact (I.o3 j hj).2 h
    · have := (I.L.own hj).1; omega

theorem TopIn.same {w wr w2 : World} {rv nv : Value} {F : Nat → Prop} {s : VS} {l : List Vl} (I : TopIn w q h O b wr rv nv F s l) (k : Keeps (fun _ => False) wr w2) : TopIn w q h O b w2 rv nv F s l :=
  ⟨I.V.same k, I.K.trans k, I.o1, I.o2, I.L.keep k (fun _ _ h => h), I.o3, I.oq, I.ob, k.blk I.B (fun h => h)⟩

theorem TopIn.app {w wr wa w2 : World} {rv nv v2 : Value} {F : Nat → Prop} {s : VS} {l : List Vl} {v : Vl} (I : TopIn w q h O b wr rv nv F s l) (ka : Keeps (fun _ => False) wr wa)
    (hs : Sl w2 78 2 v2 (l.length + 1) (entV l ++ [.int .i64 v.1, .int .i64 v.2])) (hk : Keeps (ownB rv) wa w2) (ho : ∀ k, ownB v2 k → ownB rv k ∨ wa.heap.size ≤ k) : TopIn w q h O b (w2.setCell ⟨q, 2, none⟩ v2) v2 nv F s (l ++ [v]) := by
  have k2 := (ka.mono (T := ownB rv) (fun _ _ h => h.elim)).trans hk
  have hz := ka.size; have hz2 := I.K.size
  have nq : ∀ {v : Value} {wx : World} {n : Nat} {xs : List Value}, Sl wx 78 2 v n xs → Blk wx q [.pointer (some ⟨h.p, 0, none⟩), .map (some b), rv, nv] 136 → ¬ ownB v q := fun hs hq h => by
    obtain ⟨_, c, hc⟩ := hs.own h
    exact hc.ne hq (by decide) rfl
  have hq2 := k2.blk I.V.hq (nq I.L I.V.hq)
  have set := (Keeps.refl (· = q) w2).setCell (p := ⟨q, 2, none⟩) (.inl rfl) v2
  have V2 := I.V.keep k2 (fun j hj hl => (I.rv_ne hl).1 hj) (fun j hj hl => (I.rv_ne hl).2 hj) (fun j hj hl => (I.o3 j hl).2 hj)
  have sq : ∀ j, ownB v2 j → ¬ j = q := fun j hj e => nq hs hq2 (e ▸ hj)
  have B2 := k2.blk I.B (fun hl => by obtain ⟨_, c, hc⟩ := I.L.own hl; exact hc.ne I.B (by decide) rfl)
  refine ⟨⟨by simpa using hq2.setSame 2 v2, V2.hw.keep set (fun j hj e => by subst e; exact V2.wood_apart hj (.inl rfl)), V2.hm.keep set (fun e => V2.hm.ne V2.hq e.symm), V2.hn.keep set (fun j hj _ e => (V2.hF j hj).2 (.inl e)) (fun j hj e => ?_), V2.hl, fun j hj => ⟨?_, (V2.hF j hj).2⟩⟩,
    (I.K.then k2 (fun j hj => .inr (I.o3 j hj).1)).setCell (p := ⟨q, 2, none⟩) (.inr I.oq) _, I.o1, I.o2, ?_, fun j hj => ?_, I.oq, I.ob, set.blk B2 (B2.ne hq2 (by decide))⟩
  · obtain ⟨_, c, hc⟩ := V2.hn.own hj
    exact hc.ne hq2 (by decide) e
  · have := (V2.hF j hj).1; have := set.size; omega
  · have e : entV (l ++ [v]) = entV l ++ [.int .i64 v.1, .int .i64 v.2] := by simp [entV]
    rw [e, List.length_append]
    exact hs.keep set sq
  · rcases ho j hj with h1 | h1
    · exact I.o3 j h1
    · exact ⟨by omega, fun hf => by have := (I.V.hF j hf).1; omega⟩

/-- The roots so far. -/
def TS (O : Wo) (k : Nat) : List Vl × VS := fldM (valM O.gr 5000) ((O.rt.map valO).take k) ([], [])

theorem TS_step {O : Wo} {k : Nat} (h : k < O.rt.length) : TS O (k + 1) = ((TS O k).1 ++ [(valM O.gr 5000 (valO (O.rt.getD k 0)) (TS O k).2).1], (valM O.gr 5000 (valO (O.rt.getD k 0)) (TS O k).2).2) := by
  unfold TS
  have e : (O.rt.map valO)[k]? = some (valO (O.rt.getD k 0)) := by rw [List.getElem?_map, List.getElem?_eq_getElem h]; simp [List.getD, h]
  rw [List.take_add_one, e, Option.toList_some, fldM_app]
  rfl

theorem TS_len {O : Wo} {k : Nat} (h : k ≤ O.rt.length) : (TS O k).1.length = k := by
  unfold TS; rw [fldM_len, List.length_take, List.length_map]; omega

theorem TS_un {O : Wo} (hO : O.ok) (k : Nat) : unM O.univ (TS O k).2.1 ≤ 5000 ∧ (TS O k).2.1.length + unM O.univ (TS O k).2.1 ≤ 5000 := by
  have I := Wo.inU hO
  unfold TS
  have h1 := Wo.univ_le hO
  have h2 := unM_nil O.univ
  have h3 := fldM_count (f := valM O.gr 5000) (U := O.univ) (valM_count I 5000) ((O.rt.map valO).take k) ([], []) (fun v hv h3 => by
    obtain ⟨x, hx, rfl⟩ := List.mem_map.1 (List.mem_of_mem_take hv)
    rw [(valO_three h3).2]; exact Wo.univ_root hx)
  simp only [List.length_nil] at h3
  exact ⟨by omega, by omega⟩

/-- A view is returned. -/
def ViewRet (w : World) (V : List Vl × List Nd) (e : Ending) (w' : World) : Prop := ∃ v, e = .returned v ∧ ViewV w' w.heap.size v V ∧ Keeps (fun _ => False) w w'

set_option maxHeartbeats 4000000 in
set_option maxRecDepth 100000 in
theorem View_c (w : World) (H : WoodAt w h O) :
    Calls Try.prog 46 #[.pointer (some ⟨h.p, 0, none⟩)] w fun e w' => ViewRet w O.view e w' := by
  have HH := Lib.hid H
  obtain ⟨vi, hi, hz0, hz1, hz2⟩ := info_parts1 info_val
  have Vi := Lib.hid hi; have Vz0 := Lib.hid hz0; have Vz1 := Lib.hid hz1; have Vz2 := Lib.hid hz2; clear hi hz0 hz1 hz2
  have hmm := @run_makeMap Try.prog
  have HMM := Lib.hid hmm
  have h12 := H.ok.h12
  obtain ⟨ro, rc, hro, -, -, -⟩ := H.hr.rd
  have HRO := Lib.hid hro
  have c3 := H.ptrs.2.2.2; have pl := H.hp.lt
  rw [hro, h12] at c3
  have HRR := Lib.hid H.hr
  rw [hro, h12] at HRR
  clear H h12 hro
  go_enter Try.func46, Try.ntmps46
  go_upto_region 2 with fail
  have k1 := (((Keeps.refl (fun _ => False) w).alloc (.cells #[.slice none 0 0, .slice none 0 0] 72)).alloc (.map #[] 0)).alloc (.cells #[.pointer (some ⟨h.p, 0, none⟩), .map (some (w.heap.size + 1)), .slice none 0 0, .slice none 0 0] 136)
  have hb : Blk (((w.alloc (.cells #[.slice none 0 0, .slice none 0 0] 72)).alloc (.map #[] 0)).alloc (.cells #[.pointer (some ⟨h.p, 0, none⟩), .map (some (w.heap.size + 1)), .slice none 0 0, .slice none 0 0] 136)) w.heap.size [.slice none 0 0, .slice none 0 0] 72 := ((Blk.newAt _ rfl rfl).alloc _).alloc _
  have hsn : SeenAt (((w.alloc (.cells #[.slice none 0 0, .slice none 0 0] 72)).alloc (.map #[] 0)).alloc (.cells #[.pointer (some ⟨h.p, 0, none⟩), .map (some (w.heap.size + 1)), .slice none 0 0, .slice none 0 0] 136)) (w.heap.size + 1) [] := by
    have := SeenAt.made (w.alloc (.cells #[.slice none 0 0, .slice none 0 0] 72))
    simp only [World.size_alloc] at this
    exact this.keep ((Keeps.refl (fun _ => False) _).alloc _) (fun h => h)
  have hv : VwAt (((w.alloc (.cells #[.slice none 0 0, .slice none 0 0] 72)).alloc (.map #[] 0)).alloc (.cells #[.pointer (some ⟨h.p, 0, none⟩), .map (some (w.heap.size + 1)), .slice none 0 0, .slice none 0 0] 136)) (w.heap.size + 1 + 1) h O (w.heap.size + 1) (.slice none 0 0) (.slice none 0 0) (fun _ => False) ([], []) :=
    ⟨Blk.newAt _ (by simp) rfl, HH.out.keep k1 (fun _ _ h => h), hsn, NodesAt.nil _ _, rfl, fun _ h => h.elim⟩
  have HK1 := Lib.hid k1; have HB := Lib.hid hb; have HVW := Lib.hid hv
  have HSZ := Lib.hid (show w.heap.size + 3 ≤ (((w.alloc (.cells #[.slice none 0 0, .slice none 0 0] 72)).alloc (.map #[] 0)).alloc (.cells #[.pointer (some ⟨h.p, 0, none⟩), .map (some (w.heap.size + 1)), .slice none 0 0, .slice none 0 0] 136)).heap.size by simp)
  have c3 := hv.hw.ptrs.2.2.2; have pl := hv.hw.hp.lt
  rw [HRO.out, HH.out.ok.h12] at c3
  clear k1 hb hsn hv hmm
  generalize ((w.alloc (.cells #[.slice none 0 0, .slice none 0 0] 72)).alloc (.map #[] 0)).alloc (.cells #[.pointer (some ⟨h.p, 0, none⟩), .map (some (w.heap.size + 1)), .slice none 0 0, .slice none 0 0] 136) = w1 at *
  go_wp2_with fail
  have HI0 := Lib.hid (show TopIn w (w.heap.size + 1 + 1) h O (w.heap.size + 1) w1 (.slice none 0 0) (.slice none 0 0) (fun _ => False) (TS O 0).2 (TS O 0).1 from
    ⟨HVW.out, HK1.out, fun _ h => (nil_own h).elim, fun _ h => h.elim, Sl.nil _ _ _, fun _ h => (nil_own h).elim, by omega, by omega, HB.out⟩)
  clear HVW HB HSZ HK1 c3 pl
  go_loopw [16] (fun i wr => ∃ (k : Nat) (rv nv : Value) (F : Nat → Prop), k ≤ 12 ∧ i = .int .i64 k ∧ TopIn w (w.heap.size + 1 + 1) h O (w.heap.size + 1) wr rv nv F (TS O k).2 (TS O k).1) (fun i _ => 12 - (intOf i).toNat)
  case atStart => exact ⟨0, _, _, _, Nat.zero_le _, rfl, HI0.out⟩
  case round =>
    clear HI0
    obtain ⟨k, rv, nv, F, hk, rfl, hI⟩ := hrel
    have HI := Lib.hid hI
    have hkl := TS_len (O := O) (k := k) (by rw [HH.out.ok.h12]; exact hk)
    have HKL := Lib.hid hkl
    by_cases hlt : k < 12
    · have HST := Lib.hid (TS_step (O := O) (k := k) (by rw [HH.out.ok.h12]; exact hlt))
      have hm : O.rt.getD k 0 ∈ O.rt := by rw [List.getD_eq_getElem?_getD, List.getElem?_eq_getElem (by rw [HH.out.ok.h12]; exact hlt)]; exact List.getElem_mem _
      have HLR := Lib.hid (HH.out.ok.hR _ hm); have HLU := Lib.hid (Wo.univ_root hm)
      have hrd := (HRR.keep hI.K (fun _ _ h => h))
      obtain ⟨_, _, e', hrr, -, -⟩ := hrd.rd
      cases e'
      obtain ⟨gg, go, rfl, ggl, g0⟩ := hrr.int64 k (by rw [HH.out.ok.h12]; exact hlt)
      clear hI hkl hm hrd hrr
      generalize O.rt.getD k 0 = y at *
      go_wp2_with fail
      refine (value_c 5000 (Nat.le_refl _) y nv F _ _ HI.out.V HLR.out (fun _ => HLU.out) (TS_un HH.out.ok k).1 (TS_un HH.out.ok k).2).mono ?_
      rintro e w2 ⟨rfl, ht⟩
      obtain ⟨nv2, F2, hI2⟩ := HI.out.told ht
      obtain ⟨⟨⟨r1, r2⟩, sr⟩, hr⟩ : ∃ t, valM O.gr 5000 (valO y) (TS O k).2 = t := ⟨_, rfl⟩
      rw [hr] at hI2 HST ⊢
      dsimp only at hI2 HST ⊢
      clear hr ht g0 ggl
      go_upto_region 6 with fail
      have hka := (Keeps.refl (fun _ => False) w2).alloc (.cells #[.int .i64 r1, .int .i64 r2] 78)
      have hI3 := hI2.same hka
      have hvb : Blk (w2.alloc (.cells #[.int .i64 r1, .int .i64 r2] 78)) w2.heap.size [.int .i64 r1, .int .i64 r2] 78 := Blk.newAt _ rfl rfl
      have HI3 := Lib.hid hI3
      obtain ⟨lo, lc, rfl, -, -, -⟩ := hI3.L.rd
      rw [HKL.out] at HI3
      have c2 := hI3.V.hq.cell 2; have cl := hI3.V.hq.lt
      have v0 := hvb.cell 0; have v1 := hvb.cell 1; have vl := hvb.lt
      simp only [List.getElem?_cons_zero, List.getElem?_cons_succ] at c2 v0 v1
      rw [HKL.out] at c2
      have HL3 := Lib.hid (show Sl (w2.alloc (.cells #[.int .i64 r1, .int .i64 r2] 78)) 78 2 (.slice lo k lc) k (entV (TS O k).1) by have := HI3.out.L; rw [HKL.out] at this; exact this)
      clear hka hI3 hI2 hvb HI
      generalize w2.alloc (.cells #[.int .i64 r1, .int .i64 r2] 78) = wb at *
      generalize w2.heap.size = bv at *
      refine wp_region_ro (.free 0 (.free 1 (.free 2 (.free 3 (.free 4 (.pure 5 (.pure 6 (.run 7 (.run 8 (.swi [12] (.free 9 (.free 10 (.free 11 (.run 12 (.swi [] (.fin)))))))))))))))) [8, 9, 10, 11, 12] (fun w' => w'.cell? ⟨w.heap.size + 1 + 1, 2, none⟩ = some (.slice lo k lc) ∧ w'.cell? ⟨bv, 0, none⟩ = some (.int .i64 r1) ∧ w'.cell? ⟨bv, 1, none⟩ = some (.int .i64 r2)) (by kernel_rfl) (by kernel_rfl) ⟨c2, v0, v1⟩ ?_
      first | (refine wpRO_free rfl rfl _ (fun w' => by go_simp; exact Gives.mk _ _) (fun K hK => ?_); go_simp; refine hK _ ?_; clear hK K) | (refine wpRO_skipF rfl rfl (fun K hK => ?_); go_simp; refine hK _ ?_; clear hK K)
      first | (refine wpRO_free rfl rfl _ (fun w' => by go_simp; exact Gives.mk _ _) (fun K hK => ?_); go_simp; refine hK _ ?_; clear hK K) | (refine wpRO_skipF rfl rfl (fun K hK => ?_); go_simp; refine hK _ ?_; clear hK K)
      first | (refine wpRO_free rfl rfl _ (fun w' => by go_simp; exact Gives.mk _ _) (fun K hK => ?_); go_simp; refine hK _ ?_; clear hK K) | (refine wpRO_skipF rfl rfl (fun K hK => ?_); go_simp; refine hK _ ?_; clear hK K)
      first | (refine wpRO_free rfl rfl _ (fun w' => by go_simp; exact Gives.mk _ _) (fun K hK => ?_); go_simp; refine hK _ ?_; clear hK K) | (refine wpRO_skipF rfl rfl (fun K hK => ?_); go_simp; refine hK _ ?_; clear hK K)
      first | (refine wpRO_free rfl rfl _ (fun w' => by go_simp; exact Gives.mk _ _) (fun K hK => ?_); go_simp; refine hK _ ?_; clear hK K) | (refine wpRO_skipF rfl rfl (fun K hK => ?_); go_simp; refine hK _ ?_; clear hK K)
      first | (refine wpRO_pure rfl rfl _ (fun w' hG => by obtain ⟨g2, g0, g1⟩ := hG; exact gives_agg2 rfl (by decide +kernel) rfl (by assumption) (by assumption)) (fun K hK => ?_); go_simp; refine hK _ ?_; clear hK K) | (refine wpRO_pure rfl rfl _ (fun w' hG => by obtain ⟨g2, g0, g1⟩ := hG; go_simp; exact Gives.mk _ _) (fun K hK => ?_); go_simp; refine hK _ ?_; clear hK K) | (refine wpRO_skip rfl rfl (fun K hK => ?_); go_simp; refine hK _ ?_; clear hK K)
      first | (refine wpRO_pure rfl rfl _ (fun w' hG => by obtain ⟨g2, g0, g1⟩ := hG; exact gives_agg2 rfl (by decide +kernel) rfl (by assumption) (by assumption)) (fun K hK => ?_); go_simp; refine hK _ ?_; clear hK K) | (refine wpRO_pure rfl rfl _ (fun w' hG => by obtain ⟨g2, g0, g1⟩ := hG; go_simp; exact Gives.mk _ _) (fun K hK => ?_); go_simp; refine hK _ ?_; clear hK K) | (refine wpRO_skip rfl rfl (fun K hK => ?_); go_simp; refine hK _ ?_; clear hK K)
      refine wpRO_run rfl rfl (fun K hK => ?_); unfold gRun; go_simp
      have hkb : Keeps (fun _ => False) wb ((wb.drew).alloc (.cells #[.int .i64 r1, .int .i64 r2] 78)) := (Keeps.refl (fun _ => False) wb).drew.alloc (.cells #[.int .i64 r1, .int .i64 r2] 78)
      refine hK _ _ (fun hg => ?_) ?_
      · refine ⟨?_, ?_, ?_⟩
        · exact (World.cell?_of_block (w := wb) (a := ⟨w.heap.size + 1 + 1, 2, none⟩) (hkb.block _ cl (fun h => h))).trans c2
        · exact (World.cell?_of_block (w := wb) (a := ⟨bv, 0, none⟩) (hkb.block _ vl (fun h => h))).trans v0
        · exact (World.cell?_of_block (w := wb) (a := ⟨bv, 1, none⟩) (hkb.block _ vl (fun h => h))).trans v1
      clear hK K
      refine wpRO_chg rfl rfl rfl (fun K hK => ?_)
      refine gRun_app (.tmp 28) (.tmp 30) 69 rfl 78 vi (.agg #[.int .i64 0, .int .i64 0]) 2 16 Try.underlying69 Vi.out Vz0.out Vz1.out Vz2.out rfl (by decide) _ k (entV (TS O k).1) rfl (HL3.out.keep hkb (fun _ _ h => h)) ⟨wb.heap.size, 0, none⟩ 1 1 [.int .i64 r1, .int .i64 r2] rfl rfl (news_at wb.drew 78 #[.int .i64 r1, .int .i64 r2]) (by intro u hu; simp at hu; rcases hu with rfl | rfl <;> rfl) (by unfold maxLen; omega) (by omega) ?_
      intro v3 w3 hs3 hk3 ho3
      have HI4 := Lib.hid (HI3.out.app (v := (r1, r2)) hkb (by rw [HKL.out]; exact hs3) hk3 ho3)
      have hp3 := hk3.blk (hkb.blk HI3.out.V.hq (fun h => h)) (fun hv => by obtain ⟨_, c', hc⟩ := (HL3.out.keep hkb (fun _ _ h => h)).own hv; exact (hkb.blk HI3.out.V.hq (fun h => h)).ne hc (by decide) rfl)
      have x0 := hp3.cell 2; have xf := hp3.free 2; have xl := hp3.lt
      simp only [List.getElem?_cons_zero, List.getElem?_cons_succ] at x0
      obtain ⟨lo3, lc3, rfl, -, -, -⟩ := hs3.rd
      refine hK _ _ ?_
      clear hK K hkb hs3 hk3 ho3 hp3 c2 cl v0 v1 vl
      refine wpRO_swi (fun _ => True) trivial ?_
      first | (refine wpRO_free rfl rfl _ (fun w' => by go_simp; exact Gives.mk _ _) (fun K hK => ?_); go_simp; refine hK _ ?_; clear hK K) | (refine wpRO_skipF rfl rfl (fun K hK => ?_); go_simp; refine hK _ ?_; clear hK K)
      first | (refine wpRO_free rfl rfl _ (fun w' => by go_simp; exact Gives.mk _ _) (fun K hK => ?_); go_simp; refine hK _ ?_; clear hK K) | (refine wpRO_skipF rfl rfl (fun K hK => ?_); go_simp; refine hK _ ?_; clear hK K)
      first | (refine wpRO_free rfl rfl _ (fun w' => by go_simp; exact Gives.mk _ _) (fun K hK => ?_); go_simp; refine hK _ ?_; clear hK K) | (refine wpRO_skipF rfl rfl (fun K hK => ?_); go_simp; refine hK _ ?_; clear hK K)
      refine wpRO_chg rfl rfl rfl (fun K hK => ?_); unfold gRun; go_simp
      refine hK _ _ ?_
      clear hK K
      refine wpRO_swi (fun _ => True) trivial (wpRO_fin ?_)
      clear x0 xf xl
      go_wp2_with fail
      go_roundw
      case rel => exact ⟨k + 1, _, nv2, F2, by omega, by go_num, by rw [HST.out]; exact HI4.out⟩
      case measure => simp [intOf]; omega
    · obtain rfl : k = 12 := by omega
      obtain ⟨lo, lc, rfl, hrr, -, -⟩ := hI.L.rd
      obtain ⟨cs, hns, hnr⟩ := hI.V.hn
      obtain ⟨no, nc, rfl, -, -, -⟩ := hns.rd
      have c2 := hI.V.hq.cell 2; have c3 := hI.V.hq.cell 3; have cl := hI.V.hq.lt
      have b0 := hI.B.cell 0; have b1 := hI.B.cell 1; have bl := hI.B.lt; have f0 := hI.B.free 0; have f1 := hI.B.free 1
      simp only [List.getElem?_cons_zero, List.getElem?_cons_succ] at c2 c3 b0 b1
      have HVE := Lib.hid (show O.view = ((TS O 12).1, (TS O 12).2.2) by
        unfold Wo.view viewM TS deep
        rw [List.take_of_length_le (by rw [List.length_map, HH.out.ok.h12]; exact Nat.le_refl _)])
      clear hI hrr hns hnr hlt hk hkl
      go_wp2_with (refine wpList_agg2 rfl 72 (.tmp 38) rfl (by kernel_rfl) (w.heap.size + 1 + 1) 2 rfl _ _ c2 c3 ?_)
      have hb3 := (HI.out.B.setSame 0 (.slice lo (TS O 12).1.length lc)).setSame 1 (.slice no (TS O 12).2.2.length nc)
      have x0 := hb3.cell 0; have x1 := hb3.cell 1
      simp only [List.set_cons_zero, List.set_cons_succ, List.getElem?_cons_zero, List.getElem?_cons_succ] at x0 x1
      refine bodyPost_ret (v := .agg #[.slice lo (TS O 12).1.length lc, .slice no (TS O 12).2.2.length nc]) (by simp [results, Try.results46, go_sem, x0, x1]) rfl ?_
      refine ⟨_, rfl, ?_, (HI.out.K.setCell (p := ⟨w.heap.size, 0, none⟩) (.inr (Nat.le_refl _)) _).setCell (p := ⟨w.heap.size, 1, none⟩) (.inr (Nat.le_refl _)) _⟩
      rw [HVE.out]
      have ke := ((Keeps.refl (· = w.heap.size) wr).setCell (p := ⟨w.heap.size, 0, none⟩) (.inl rfl) (.slice lo (TS O 12).1.length lc)).setCell (p := ⟨w.heap.size, 1, none⟩) (.inl rfl) (.slice no (TS O 12).2.2.length nc)
      have nF : ∀ j, F j → ¬ j = w.heap.size := fun j hj e => by
        have := HI.out.o2 j hj; omega
      refine ⟨lo, lc, no, nc, F, rfl, HI.out.L.keep ke (fun j hj e => ?_), HI.out.V.hn.keep ke (fun j hj _ => nF j hj) (fun j hj e => ?_), fun j hj => ?_⟩
      · subst e; obtain ⟨_, c, hc⟩ := HI.out.L.own hj; exact hc.ne HI.out.B (by decide) rfl
      · subst e; obtain ⟨_, c, hc⟩ := HI.out.V.hn.own hj; exact hc.ne HI.out.B (by decide) rfl
      · have hks := ke.size
        rcases hj with hj | hj | hj
        · exact ⟨Nat.le_of_lt (HI.out.o2 j hj), by have := (HI.out.V.hF j hj).1; omega⟩
        · exact ⟨(HI.out.o3 j hj).1, by have := (HI.out.L.own hj).1; omega⟩
        · exact ⟨HI.out.o1 j hj, by have := (HI.out.V.hn.own hj).1; omega⟩
end

end Go.Proofs.Ytjifdalflepcoab
