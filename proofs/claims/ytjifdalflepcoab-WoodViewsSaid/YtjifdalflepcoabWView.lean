/-
  wood.View.
-/
import Derived.Test.YtjifdalflepcoabWood2
import Derived.Test.YtjifdalflepcoabViewP
namespace Go.Proofs.Ytjifdalflepcoab
open Go.RowKit Go.Maps
set_option linter.unusedVariables false
set_option linter.unusedSimpArgs false

theorem key_int : Keyed Try.prog 3 := int_keyed Try.underlying3
theorem zero_int (w : World) : (zeroValue 3).run Try.prog w = .ok (.int .i64 0) w := by kernel_rfl

section
variable {w w' : World} {h : WH} {O : Wo}

/-- The wood's blocks are others than a block of another type. -/
theorem WoodAt.own_type (H : WoodAt w h O) {k : Nat} (hk : h.Own k) : ∃ c T, Blk w k c T ∧ (T = 65 ∨ T = 120 ∨ T = 2 ∨ T = 140 ∨ T = 4 ∨ T = 129 ∨ T = 170) := by
  rcases hk with rfl | (rfl | rfl) | (rfl | rfl) | hk | hk
  · exact ⟨_, _, H.hp, .inl rfl⟩
  · exact ⟨_, _, H.ha.hp, .inr (.inl rfl)⟩
  · exact ⟨_, _, H.ha.hg, .inr (.inr (.inl rfl))⟩
  · exact ⟨_, _, H.hc.hp, .inr (.inr (.inr (.inl rfl)))⟩
  · exact ⟨_, _, H.hc.hq, .inr (.inr (.inr (.inr (.inl rfl))))⟩
  · obtain ⟨c, T, hc, hT⟩ := H.hs.fp_type hk
    rcases hT with rfl | rfl
    · exact ⟨_, _, hc, .inr (.inr (.inr (.inr (.inr (.inl rfl)))))⟩
    · exact ⟨_, _, hc, .inr (.inr (.inr (.inr (.inr (.inr rfl)))))⟩
  · obtain ⟨_, c, hc⟩ := H.hr.own hk; exact ⟨_, _, hc, .inr (.inr (.inl rfl))⟩

/-- A viewer: at q, over the wood at h; b: what was met; rv: the roots so far, nv: the nodes so far, with fields in F. -/
structure VwAt (w : World) (q : Nat) (h : WH) (O : Wo) (b : Nat) (rv nv : Value) (F : Nat → Prop) (s : VS) : Prop where
  hq : Blk w q [.pointer (some ⟨h.p, 0, none⟩), .map (some b), rv, nv] 136
  hw : WoodAt w h O
  hm : SeenAt w b s.1
  hn : NodesAt w nv F s.2
  hl : s.2.length = s.1.length
  hF : ∀ k, F k → k < w.heap.size ∧ ¬ (k = q ∨ k = b ∨ ownB nv k)

/-- What a step of the viewer may write. -/
def VwFp (q b : Nat) (nv : Value) (k : Nat) : Prop := k = q ∨ k = b ∨ ownB nv k

theorem NodesAt.own {F : Nat → Prop} {nv : Value} {l : List Nd} (h : NodesAt w nv F l) {k : Nat} (hk : ownB nv k) : k < w.heap.size ∧ ∃ c, Blk w k c 83 := by
  obtain ⟨cs, hs, _⟩ := h
  exact hs.own hk

variable {q b : Nat} {rv nv : Value} {F : Nat → Prop} {s : VS}

theorem VwAt.wood_apart (V : VwAt w q h O b rv nv F s) {k : Nat} (hk : h.Own k) : ¬ VwFp q b nv k := by
  obtain ⟨c, T, hc, hT⟩ := V.hw.own_type hk
  have hne : T ≠ 136 ∧ T ≠ 83 := by rcases hT with rfl | rfl | rfl | rfl | rfl | rfl | rfl <;> exact ⟨by decide, by decide⟩
  rintro (rfl | rfl | hk2)
  · exact hc.ne V.hq hne.1 rfl
  · exact V.hm.ne hc rfl
  · obtain ⟨_, c', hc'⟩ := V.hn.own hk2
    exact hc.ne hc' hne.2 rfl

theorem VwAt.lt (V : VwAt w q h O b rv nv F s) {k : Nat} (hk : VwFp q b nv k) : k < w.heap.size := by
  rcases hk with rfl | rfl | hk
  · exact V.hq.lt
  · exact V.hm.lt
  · exact (V.hn.own hk).1

theorem VwAt.fp_ne (V : VwAt w q h O b rv nv F s) {k : Nat} {c : List Value} {T : TypeId} (hc : Blk w k c T) (h1 : T ≠ 136) (h2 : T ≠ 83) : ¬ VwFp q b nv k := by
  rintro (rfl | rfl | hk2)
  · exact hc.ne V.hq h1 rfl
  · exact V.hm.ne hc rfl
  · obtain ⟨_, c', hc'⟩ := V.hn.own hk2
    exact hc.ne hc' h2 rfl

/-- Other blocks turn. -/
theorem VwAt.keep {S : Nat → Prop} (V : VwAt w q h O b rv nv F s) (k : Keeps S w w') (h1 : ∀ j, VwFp q b nv j → ¬ S j) (h2 : ∀ j, h.Own j → ¬ S j) (h3 : ∀ j, F j → ¬ S j) : VwAt w' q h O b rv nv F s :=
  ⟨k.blk V.hq (h1 _ (.inl rfl)), V.hw.keep k h2, V.hm.keep k (h1 _ (.inr (.inl rfl))), V.hn.keep k (fun j hj _ => h3 j hj) (fun j hj => h1 j (.inr (.inr hj))), V.hl, fun j hj => ⟨Nat.lt_of_lt_of_le (V.hF j hj).1 k.size, (V.hF j hj).2⟩⟩

theorem VwAt.same (V : VwAt w q h O b rv nv F s) (k : Keeps (fun _ => False) w w') : VwAt w' q h O b rv nv F s := V.keep k (fun _ _ h => h) (fun _ _ h => h) (fun _ _ h => h)

/-- Behind a step of the viewer: its state is s'. -/
def VwTo (w : World) (q : Nat) (h : WH) (O : Wo) (b : Nat) (rv nv : Value) (F : Nat → Prop) (s' : VS) (w' : World) : Prop :=
  ∃ nv' F', VwAt w' q h O b rv nv' F' s' ∧ Keeps (VwFp q b nv) w w' ∧ (∀ k, ownB nv' k → ownB nv k ∨ w.heap.size ≤ k) ∧ ∀ k, F' k → F k ∨ w.heap.size ≤ k

theorem VwTo.refl (V : VwAt w q h O b rv nv F s) (k : Keeps (fun _ => False) w w') : VwTo w q h O b rv nv F s w' :=
  ⟨nv, F, V.same k, k.mono (fun _ _ h => h.elim), fun _ h => .inl h, fun _ h => .inl h⟩

theorem VwTo.from_same {w1 : World} {s' : VS} (k : Keeps (fun _ => False) w w1) (t : VwTo w1 q h O b rv nv F s' w') : VwTo w q h O b rv nv F s' w' := by
  obtain ⟨nv', F', V, k2, o1, o2⟩ := t
  refine ⟨nv', F', V, (k.mono (fun _ _ h => h.elim)).trans k2, fun j hj => ?_, fun j hj => ?_⟩
  · rcases o1 j hj with h | h
    · exact .inl h
    · exact .inr (Nat.le_trans k.size h)
  · rcases o2 j hj with h | h
    · exact .inl h
    · exact .inr (Nat.le_trans k.size h)

theorem VwTo.then {w1 w2 : World} {s1 s2 : VS} (t : VwTo w q h O b rv nv F s1 w1) (u : ∀ nv1 F1, VwAt w1 q h O b rv nv1 F1 s1 → VwTo w1 q h O b rv nv1 F1 s2 w2) : VwTo w q h O b rv nv F s2 w2 := by
  obtain ⟨nv1, F1, V1, k1, o1, p1⟩ := t
  obtain ⟨nv2, F2, V2, k2, o2, p2⟩ := u nv1 F1 V1
  refine ⟨nv2, F2, V2, k1.then k2 (fun j hj => ?_), fun j hj => ?_, fun j hj => ?_⟩
  · rcases hj with rfl | rfl | hj
    · exact .inl (.inl rfl)
    · exact .inl (.inr (.inl rfl))
    · rcases o1 j hj with h | h
      · exact .inl (.inr (.inr h))
      · exact .inr h
  · rcases o2 j hj with h | h
    · exact o1 j h
    · exact .inr (Nat.le_trans k1.size h)
  · rcases p2 j hj with h | h
    · exact p1 j h
    · exact .inr (Nat.le_trans k1.size h)

/-- A value of a viewer is returned. -/
def ValRet (w : World) (q : Nat) (h : WH) (O : Wo) (b : Nat) (rv nv : Value) (F : Nat → Prop) (r : Vl × VS) (e : Ending) (w' : World) : Prop :=
  e = .returned (.agg #[.int .i64 r.1.1, .int .i64 r.1.2]) ∧ VwTo w q h O b rv nv F r.2 w'

def NodeRet (w : World) (q : Nat) (h : WH) (O : Wo) (b : Nat) (rv nv : Value) (F : Nat → Prop) (n : Nat) (s' : VS) (e : Ending) (w' : World) : Prop :=
  e = .returned (.int .i64 n) ∧ VwTo w q h O b rv nv F s' w'

theorem valO_plain {x : Int} (h : x % 4 ≠ 1) : valO x = ((decW x).1, (decW x).2.1) := if_neg h
theorem valO_ref {x : Int} (h : x % 4 = 1) : valO x = (3, x / 4) := if_pos h
theorem valO_kind {x : Int} (h : x % 4 ≠ 1) : (valO x).1 ≠ 3 := by
  rw [valO_plain h]
  dsimp only
  unfold decW
  repeat' split
  all_goals (dsimp only; omega)

set_option maxHeartbeats 2000000 in
set_option maxRecDepth 100000 in
/-- A word that leads nowhere, or to what was met. -/
theorem value_met (x : Int) (n : Nat) (V : VwAt w q h O b rv nv F s) (hx : R64 x) (hm : x % 4 = 1 → x / 4 ∈ s.1) (hl : s.1.length ≤ 1000000) :
    Calls Try.prog 92 #[.pointer (some ⟨q, 0, none⟩), .int .i64 x] w fun e w' => ValRet w q h O b rv nv F (valM O.gr n (valO x) s) e w' := by
  have HV := Lib.hid V
  by_cases h1 : x % 4 = 1
  · have HE := Lib.hid (show valM O.gr n (valO x) s = (refV (s.1.idxOf (x / 4)), s) by rw [valO_ref h1]; exact valM_met O.gr n rfl (hm h1))
    have H1 := Lib.hid h1; have HM := Lib.hid (hm h1)
    have r1 : -9223372036854775808 ≤ x / 4 := by have := hx.1; omega
    have r2 : x / 4 ≤ 9223372036854775807 := by have := hx.2; omega
    clear V h1 hm
    go_enter Try.func92, Try.ntmps92
    go_wp2_with fail
    refine (At_yes x _ H1.out).mono ?_
    rintro e w1 ⟨rfl, rfl⟩
    have V1 := Lib.hid (HV.out.same ((Keeps.refl (fun _ => False) w).alloc (.cells #[.int .i64 0, .int .i64 0] 78)))
    have c1 := V1.out.hq.cell 1; have cl := V1.out.hq.lt
    simp only [List.getElem?_cons_zero, List.getElem?_cons_succ] at c1
    obtain ⟨n0, D, hown, hn0, hD⟩ := V1.out.hm
    have HD := Lib.hid (hD (x / 4) r1 r2)
    clear hD
    go_wp2_with (at_lookup; refine wpList_lookup_own_ok_int _ rfl _ _ 134 rfl 3 3 .i64 key_int Try.underlying134 Try.underlying3 (zero_int _) b n0 D rfl hown _ _ rfl (keyOf_int_mk Try.underlying3 (WalkArith.wf_i64 (by constructor <;> omega))) ?_)
    intro c hat hwc
    have hat2 := HD.out.2 HM.out
    rw [hat] at hat2
    obtain rfl : c = (s.1.idxOf (x / 4) : Nat) := by simpa using hat2
    rw [HD.out.1, decide_eq_true HM.out]
    clear hat hat2 hwc hown hn0
    go_wp2_with fail
    refine bodyPost_ret (v := .agg #[.int .i64 3, .int .i64 (s.1.idxOf (x / 4) : Nat)]) (by simp [results, Try.results92, go_sem]) rfl ?_
    refine ⟨by rw [HE.out]; rfl, ?_⟩
    rw [HE.out]
    exact VwTo.refl HV.out ((Keeps.refl (fun _ => False) w).alloc _)
  · have HE := Lib.hid (show valM O.gr n (valO x) s = (((decW x).1, (decW x).2.1), s) by rw [valM_plain O.gr n s (valO_kind h1), valO_plain h1])
    have H1 := Lib.hid h1; have HX := Lib.hid hx
    clear V h1 hm hx
    go_enter Try.func92, Try.ntmps92
    go_wp2_with fail
    refine (At_no x _ H1.out).mono ?_
    rintro e w1 ⟨rfl, rfl⟩
    go_wp2_with fail
    refine (Decode_c x _ HX.out.1 HX.out.2).mono ?_
    rintro e w1 ⟨rfl, hk⟩
    have hka := (Keeps.refl (fun _ => False) w).alloc (.cells #[.int .i64 0, .int .i64 0] 78)
    have HKA := Lib.hid (hka.trans hk)
    have l0 := (hk.blk (show Blk (w.alloc (.cells #[.int .i64 0, .int .i64 0] 78)) w.heap.size [.int .i64 0, .int .i64 0] 78 from Blk.newAt _ rfl rfl) (fun h => h))
    have L0 := Lib.hid l0
    clear hka hk l0
    obtain ⟨⟨dk, dn, dc⟩, hd⟩ : ∃ t, decW x = t := ⟨_, rfl⟩
    rw [hd] at HE ⊢
    clear hd
    dsimp only at HE ⊢
    have l0 := L0.out.cell 0; have l1 := L0.out.cell 1; have ll := L0.out.lt; have f0 := L0.out.free 0; have f1 := L0.out.free 1
    simp only [List.getElem?_cons_zero, List.getElem?_cons_succ] at l0 l1
    go_wp2_with fail
    have hb2 := ((L0.out.setSame 0 (.int .i64 dk)).setSame 1 (.int .i64 dn)).alloc (.cells #[.int .i64 dk, .int .i64 dn] 78)
    have x0 := hb2.cell 0; have x1 := hb2.cell 1
    simp only [List.set_cons_zero, List.set_cons_succ, List.getElem?_cons_zero, List.getElem?_cons_succ] at x0 x1
    refine bodyPost_ret (v := .agg #[.int .i64 dk, .int .i64 dn]) (by simp [results, Try.results92, go_sem, x0, x1]) rfl ?_
    refine ⟨by rw [HE.out], ?_⟩
    rw [HE.out]
    exact VwTo.refl HV.out (((HKA.out.setCell (p := ⟨w.heap.size, 0, none⟩) (.inr (Nat.le_refl _)) _).setCell (p := ⟨w.heap.size, 1, none⟩) (.inr (Nat.le_refl _)) _).alloc _)

/-- In the midst of a node: the fields so far. -/
structure InNode (w : World) (q : Nat) (h : WH) (O : Wo) (b : Nat) (rv nv : Value) (F : Nat → Prop) (s : VS) (lv : Value) (l : List Vl) (wr : World) (nv' : Value) (F' : Nat → Prop) : Prop where
  V : VwAt wr q h O b rv nv' F' s
  K : Keeps (VwFp q b nv) w wr
  o1 : ∀ k, ownB nv' k → ownB nv k ∨ w.heap.size ≤ k
  o2 : ∀ k, F' k → F k ∨ w.heap.size ≤ k
  L : Sl wr 78 2 lv l.length (entV l)
  o3 : ∀ k, ownB lv k → w.heap.size ≤ k ∧ ¬ F' k

theorem InNode.lv_ne {lv : Value} {l : List Vl} {wr : World} {nv' : Value} {F' : Nat → Prop} (I : InNode w q h O b rv nv F s lv l wr nv' F') {k : Nat} (hk : ownB lv k) : ¬ VwFp q b nv' k ∧ ¬ h.Own k := by
  obtain ⟨_, c, hc⟩ := I.L.own hk
  constructor
  · rintro (rfl | rfl | h1)
    · exact hc.ne I.V.hq (by decide) rfl
    · exact I.V.hm.ne hc rfl
    · obtain ⟨_, c', hc'⟩ := I.V.hn.own h1
      exact hc.ne hc' (by decide) rfl
  · intro h1
    obtain ⟨c', T, hc', hT⟩ := I.V.hw.own_type h1
    rcases hT with rfl | rfl | rfl | rfl | rfl | rfl | rfl <;> exact hc.ne hc' (by decide) rfl

/-- A value was told. -/
theorem InNode.told {lv : Value} {l : List Vl} {wr w2 : World} {nv' : Value} {F' : Nat → Prop} {s2 : VS} (I : InNode w q h O b rv nv F s lv l wr nv' F') (t : VwTo wr q h O b rv nv' F' s2 w2) : ∃ nv2 F2, InNode w q h O b rv nv F s2 lv l w2 nv2 F2 := by
  obtain ⟨nv2, F2, V2, k2, p1, p2⟩ := t
  refine ⟨nv2, F2, V2, I.K.then k2 (fun j hj => ?_), fun j hj => ?_, fun j hj => ?_, I.L.keep k2 (fun j hj => (I.lv_ne hj).1), fun j hj => ⟨(I.o3 j hj).1, fun hf => ?_⟩⟩
  · rcases hj with rfl | rfl | hj
    · exact .inl (.inl rfl)
    · exact .inl (.inr (.inl rfl))
    · rcases I.o1 j hj with h | h
      · exact .inl (.inr (.inr h))
      · exact .inr h
  · rcases p1 j hj with h | h
    · exact I.o1 j h
    · exact .inr (Nat.le_trans I.K.size h)
  · rcases p2 j hj with h | h
    · exact I.o2 j h
    · exact .inr (Nat.le_trans I.K.size h)
  · rcases p2 j hf with h | h
    · exact (I.o3 j hj).2 h
    · have := (I.L.own hj).1; omega

/-- .. and stands behind the fields so far. -/
theorem InNode.app {lv : Value} {l : List Vl} {wr wa w2 : World} {nv' lv2 : Value} {F' : Nat → Prop} {v : Vl} (I : InNode w q h O b rv nv F s lv l wr nv' F') (ka : Keeps (fun _ => False) wr wa)
    (hs : Sl w2 78 2 lv2 (l.length + 1) (entV l ++ [.int .i64 v.1, .int .i64 v.2])) (hk : Keeps (ownB lv) wa w2) (ho : ∀ k, ownB lv2 k → ownB lv k ∨ wa.heap.size ≤ k) : InNode w q h O b rv nv F s lv2 (l ++ [v]) w2 nv' F' := by
  have k2 := (ka.mono (T := ownB lv) (fun _ _ h => h.elim)).trans hk
  refine ⟨I.V.keep k2 (fun j hj hl => (I.lv_ne hl).1 hj) (fun j hj hl => (I.lv_ne hl).2 hj) (fun j hj hl => (I.o3 j hl).2 hj), I.K.then k2 (fun j hj => .inr (I.o3 j hj).1), I.o1, I.o2, ?_, fun j hj => ?_⟩
  · have e : entV (l ++ [v]) = entV l ++ [.int .i64 v.1, .int .i64 v.2] := by simp [entV]
    rw [e, List.length_append]; exact hs
  · rcases ho j hj with h1 | h1
    · exact I.o3 j h1
    · have := ka.size; have := I.K.size
      exact ⟨by omega, fun hf => by have := (I.V.hF j hf).1; omega⟩

theorem InNode.same {lv : Value} {l : List Vl} {wr w2 : World} {nv' : Value} {F' : Nat → Prop} (I : InNode w q h O b rv nv F s lv l wr nv' F') (k : Keeps (fun _ => False) wr w2) : InNode w q h O b rv nv F s lv l w2 nv' F' :=
  ⟨I.V.same k, I.K.trans (k.mono (fun _ _ h => h.elim)), I.o1, I.o2, I.L.keep k (fun _ _ h => h), I.o3⟩

/-- A new node stands behind the others; its place was met. -/
theorem VwAt.push {x : Int} {kd : Int} {wm wa w2 : World} {nv2 : Value} (V : VwAt w q h O b rv nv F s) (hm : SeenAt wm b (s.1 ++ [x])) (km : Keeps (· = b) w wm) (ka : Keeps (fun _ => False) wm wa)
    (cs : List Value) (hcs : RowsC 2 (NodeRow w F) s.2 cs)
    (hs : Sl w2 83 2 nv2 (s.2.length + 1) (cs ++ [.int .i64 kd, .slice none 0 0])) (hk : Keeps (ownB nv) wa w2) (ho : ∀ k, ownB nv2 k → ownB nv k ∨ wa.heap.size ≤ k) :
    VwTo w q h O b rv nv F (s.1 ++ [x], s.2 ++ [(kd, [])]) (w2.setCell ⟨q, 3, none⟩ nv2) := by
  have K1 : Keeps (VwFp q b nv) w w2 := ((km.mono (fun j _ hj => .inr (.inl hj))).trans (ka.mono (fun _ _ h => h.elim))).trans (hk.mono (fun j _ hj => .inr (.inr hj)))
  have K2 := K1.setCell (p := ⟨q, 3, none⟩) (.inl (.inl rfl)) nv2
  have hsz := km.size; have hsz2 := ka.size; have hsz3 := hk.size
  have nq : ¬ ownB nv q := fun hq => by obtain ⟨_, c, hc⟩ := V.hn.own hq; exact V.hq.ne hc (by decide) rfl
  have nb : ¬ ownB nv b := fun hq => by obtain ⟨_, c, hc⟩ := V.hn.own hq; exact V.hm.ne hc rfl
  have qb : q ≠ b := V.hm.ne V.hq
  have hq2 := hk.blk (ka.blk (km.blk V.hq qb) (fun h => h)) nq
  have ne2 : ∀ k, ownB nv2 k → k ≠ q := fun k hk2 e => by
    obtain ⟨_, c, hc⟩ := hs.own hk2
    exact hc.ne hq2 (by decide) e
  have setk := (Keeps.refl (· = q) w2).setCell (p := ⟨q, 3, none⟩) (.inl rfl) nv2
  refine ⟨nv2, F, ⟨by simpa using hq2.setSame 3 nv2, V.hw.keep K2 (fun j hj => V.wood_apart hj), ?_, ⟨_, by rw [List.length_append]; exact hs.keep setk ne2, ?_⟩, by simp [V.hl], fun j hj => ⟨?_, ?_⟩⟩, K2, fun j hj => ?_, fun j hj => .inl hj⟩
  · exact (hm.keep (ka.mono (T := ownB nv) (fun _ _ h => h.elim) |>.trans hk) nb).keep setk (Ne.symm qb)
  · refine RowsC.app (hcs.mono (fun a _ r hr => hr.keep K2 (fun j hj _ => (V.hF j hj).2))) rfl ?_
    exact ⟨none, 0, rfl, Rd.nil _ _, (fun a ha => by cases ha), Nat.zero_le _⟩
  · have := (V.hF j hj).1; have := K2.size; omega
  · rintro (e | e | e)
    · exact (V.hF j hj).2 (.inl e)
    · exact (V.hF j hj).2 (.inr (.inl e))
    · rcases ho j e with h1 | h1
      · exact (V.hF j hj).2 (.inr (.inr h1))
      · have := (V.hF j hj).1; omega
  · rcases ho j hj with h1 | h1
    · exact .inl h1
    · exact .inr (by omega)

/-- The fields are laid into their node. -/
theorem InNode.done {lv : Value} {l : List Vl} {wr : World} {nv' : Value} {F' : Nat → Prop} {kd : Int} {n : Nat} {g o cap : Nat} {ao : Option Addr} {lc : Nat} (hlv : lv = .slice ao l.length lc) (I : InNode w q h O b rv nv F s lv l wr nv' F')
    (hnv : nv' = .slice (some ⟨g, o, none⟩) s.2.length cap) (hn : s.2[n]? = some (kd, [])) : VwTo w q h O b rv nv F (s.1, s.2.set n (kd, l)) (wr.setCell ⟨g, o + n * 2 + 1, none⟩ lv) := by
  subst hnv hlv
  have hlt : n < s.2.length := (List.getElem?_eq_some_iff.1 hn).1
  have hgo : ownB (.slice (some ⟨g, o, none⟩) s.2.length cap) g := rfl
  have hne := fun k hk => I.lv_ne (k := k) hk
  have setk := (Keeps.refl (· = g) wr).setCell (p := ⟨g, o + n * 2 + 1, none⟩) (.inl rfl) (.slice ao l.length lc)
  have K2 : Keeps (VwFp q b nv) w (wr.setCell ⟨g, o + n * 2 + 1, none⟩ (.slice ao l.length lc)) := I.K.setCell (p := ⟨g, o + n * 2 + 1, none⟩) (by
    rcases I.o1 g hgo with h1 | h1
    · exact .inl (.inr (.inr h1))
    · exact .inr h1) _
  obtain ⟨cs, hs, hr⟩ := I.V.hn
  have hgq : ¬ q = g := fun e => by
    obtain ⟨_, c, hc⟩ := hs.own hgo
    exact I.V.hq.ne hc (by decide) e
  have hgb : ¬ b = g := fun e => by
    obtain ⟨_, c, hc⟩ := hs.own hgo
    exact I.V.hm.ne hc e.symm
  obtain ⟨ao', cap', e1, hrd, hcm, hnc⟩ := I.L.rd
  cases e1
  have hlF : ∀ k, ownB (.slice ao l.length lc) k → ¬ k = g := fun k hk e => by
    subst e
    exact (hne _ hk).1 (.inr (.inr hgo))
  refine ⟨.slice (some ⟨g, o, none⟩) s.2.length cap, fun k => F' k ∨ ownB (.slice ao l.length lc) k, ⟨setk.blk I.V.hq hgq, I.V.hw.keep setk (fun j hj e => ?_), I.V.hm.keep setk hgb, ?_, by simp [I.V.hl], fun j hj => ?_⟩, K2, I.o1, fun j hj => ?_⟩
  · subst e; exact I.V.wood_apart hj (.inr (.inr hgo))
  · have hsl : (s.2.set n (kd, l)).length = s.2.length := by simp
    refine ⟨cs.set (n * 2 + 1) (.slice ao l.length lc), ?_, ?_⟩
    · rw [hsl]
      exact hs.set (j := n * 2 + 1) (by omega)
    · have hr' : RowsC 2 (NodeRow (wr.setCell ⟨g, o + n * 2 + 1, none⟩ (.slice ao l.length lc)) (fun k => F' k ∨ ownB (.slice ao l.length lc) k)) s.2 cs :=
        hr.mono (fun a _ r h1 => (h1.keep setk (fun j hj _ e => by subst e; exact (I.V.hF j hj).2 (.inr (.inr hgo)))).more (fun j hj => .inl hj))
      refine RowsC.setCell hlt (by decide) hr' (fun r h2 h3 => ?_)
      have e2 : s.2[n] = (kd, []) := by rw [List.getElem?_eq_getElem hlt] at hn; exact Option.some.inj hn
      rw [e2] at h3
      obtain ⟨_, _, rfl, -⟩ := h3
      refine ⟨ao, lc, rfl, hrd.keep setk (fun a ha _ e => ?_), fun a ha => .inr ?_, hcm⟩
      · subst ha; exact hlF a.block rfl e
      · subst ha; rfl
  · rcases hj with hj | hj
    · exact ⟨Nat.lt_of_lt_of_le (I.V.hF j hj).1 setk.size, (I.V.hF j hj).2⟩
    · exact ⟨Nat.lt_of_lt_of_le (I.L.own hj).1 setk.size, (hne j hj).1⟩
  · rcases hj with hj | hj
    · exact I.o2 j hj
    · exact .inr (I.o3 j hj).1
end

end Go.Proofs.Ytjifdalflepcoab
