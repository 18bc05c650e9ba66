/-
  Parts of the proof, merged: what the functions do, and plain laws.
-/
import Derived.Test.YtjifdalflepcoabWDesP0
import Derived.Deep.CutBlock
import Derived.Deep.DeepCutAuto
namespace Go.Proofs.Ytjifdalflepcoab
open Go.RowKit Go.Maps
set_option linter.unusedVariables false
set_option linter.unusedSimpArgs false

theorem info_parts1 {T : TypeId} {z : Option Value} {s b : Nat} (h : (Try.prog.info? T).map (fun i => (i.zero, i.size, i.bytes)) = some (z, s, b)) : ∃ i, Try.prog.info? T = some i ∧ i.zero = z ∧ i.size = s ∧ i.bytes = b := by
  cases hx : Try.prog.info? T with
  | none => rw [hx] at h; cases h
  | some i => rw [hx] at h; simp at h; exact ⟨i, rfl, h.1, h.2.1, h.2.2⟩

theorem info_node : (Try.prog.info? 83).map (fun i => (i.zero, i.size, i.bytes)) = some (some (.agg #[.int .i64 0, .slice none 0 0]), 2, 32) := by kernel_rfl
theorem info_val : (Try.prog.info? 78).map (fun i => (i.zero, i.size, i.bytes)) = some (some (.agg #[.int .i64 0, .int .i64 0]), 2, 16) := by kernel_rfl

section
variable {h : WH} {O : Wo} {q b : Nat} {rv : Value}

/-- value, at a depth. -/
def ValOk (h : WH) (O : Wo) (q b : Nat) (rv : Value) (n : Nat) : Prop := ∀ (x : Int) (nv : Value) (F : Nat → Prop) (s : VS) (w : World), VwAt w q h O b rv nv F s → R64 x → (x % 4 = 1 → x / 4 ∈ O.univ) → unM O.univ s.1 ≤ n → s.1.length + unM O.univ s.1 ≤ 5000 →
  Calls Try.prog 92 #[.pointer (some ⟨q, 0, none⟩), .int .i64 x] w fun e w' => ValRet w q h O b rv nv F (valM O.gr n (valO x) s) e w'

/-- A node's fields so far. -/
def NS (G : Gr) (n : Nat) (x : Int) (s : VS) (j : Nat) : List Vl × VS := fldM (valM G n) ((G x).2.take j) (s.1 ++ [x], s.2 ++ [((G x).1, [])])

theorem NS_zero (G : Gr) (n : Nat) (x : Int) (s : VS) : NS G n x s 0 = ([], (s.1 ++ [x], s.2 ++ [((G x).1, [])])) := rfl

theorem NS_step (G : Gr) (n : Nat) (x : Int) (s : VS) {j : Nat} {v : Vl} (h : (G x).2[j]? = some v) : NS G n x s (j + 1) = ((NS G n x s j).1 ++ [(valM G n v (NS G n x s j).2).1], (valM G n v (NS G n x s j).2).2) := by
  unfold NS
  rw [List.take_add_one, h, Option.toList_some, fldM_app]
  rfl

theorem NS_len (G : Gr) (n : Nat) (x : Int) (s : VS) {j : Nat} (h : j ≤ (G x).2.length) : (NS G n x s j).1.length = j := by
  unfold NS; rw [fldM_len, List.length_take]; omega

theorem NS_un {O : Wo} (hO : O.ok) {n : Nat} {x : Int} {s : VS} (hx : x ∈ O.univ) (j : Nat) (h : unM O.univ (s.1 ++ [x]) ≤ n) (hc : (s.1 ++ [x]).length + unM O.univ (s.1 ++ [x]) ≤ 5000) :
    unM O.univ (NS O.gr n x s j).2.1 ≤ n ∧ (NS O.gr n x s j).2.1.length + unM O.univ (NS O.gr n x s j).2.1 ≤ 5000 := by
  have I := Wo.inU hO
  unfold NS
  obtain ⟨m, hm⟩ := fldM_pre (valM_pre O.gr n) ((O.gr x).2.take j) (s.1 ++ [x], s.2 ++ [((O.gr x).1, [])])
  have h1 := unM_app O.univ (s.1 ++ [x]) m
  have h2 := fldM_count (f := valM O.gr n) (U := O.univ) (valM_count I n) ((O.gr x).2.take j) (s.1 ++ [x], s.2 ++ [((O.gr x).1, [])]) (fun v hv => I.shut x hx v (List.mem_of_mem_take hv))
  rw [hm] at h2 ⊢
  dsimp only at h2 ⊢
  exact ⟨by omega, by omega⟩

theorem gr_field {O : Wo} {x : Int} {j : Nat} (h : j < (O.ar.thing x).2.1.toNat) : (O.gr x).2[j]? = some (valO (O.ar.load (x + 1 + j))) := by
  unfold Wo.gr
  dsimp only
  rw [List.getElem?_append_left (by simp [Ar.fields]; omega), List.getElem?_map]
  unfold Ar.fields
  rw [List.getElem?_map, List.getElem?_range h]
  rfl

theorem gr_wait {O : Wo} {x : Int} {j : Nat} (hk : (O.ar.thing x).1 = 5) (h : j < (waitO O.wt (4 * x + 1)).length) : (O.gr x).2[(O.ar.thing x).2.1.toNat + j]? = some (valO ((waitO O.wt (4 * x + 1)).getD j 0)) := by
  have e : ((O.ar.fields x).map valO).length = (O.ar.thing x).2.1.toNat := by simp [Ar.fields]
  unfold Wo.gr
  dsimp only
  rw [if_pos hk, List.getElem?_append_right (by rw [e]; omega), e, show (O.ar.thing x).2.1.toNat + j - (O.ar.thing x).2.1.toNat = j by omega, List.getElem?_map, List.getElem?_eq_getElem h]
  simp [List.getD, h]

theorem gr_len {O : Wo} {x : Int} : (O.gr x).2.length = (O.ar.thing x).2.1.toNat + if (O.ar.thing x).1 = 5 then (waitO O.wt (4 * x + 1)).length else 0 := by
  unfold Wo.gr
  simp only [List.length_append, List.length_map, Ar.fields, List.length_range]
  split <;> simp

theorem NS_keep (G : Gr) (n : Nat) (x : Int) (s : VS) (j : Nat) (hl : s.2.length = s.1.length) : (NS G n x s j).2.2[s.1.length]? = some ((G x).1, []) := by
  unfold NS
  rw [fldM_keepN (valM_nodes G n) (valM_pre G n) (valM_keepN G n) _ _ (by simp [hl]) s.1.length (by simp)]
  simp [← hl]

theorem thing_guard {A : Ar} {x : Int} (h : (A.thing x).1 = 5) : (A.thing x).2.1 = 0 ∧ (A.thing x).2.2 = 0 := by
  unfold Ar.thing partsW at *
  split at h
  · rename_i hf
    rw [if_pos hf]
    dsimp only at h ⊢
    rw [h] at hf
    simp [fitsW] at hf
    exact ⟨hf, rfl⟩
  · cases h

set_option maxHeartbeats 4000000 in
set_option maxRecDepth 100000 in
theorem node_c (n : Nat) (ih : ValOk h O q b rv n) (x : Int) (nv : Value) (F : Nat → Prop) (s : VS) (w : World) (V : VwAt w q h O b rv nv F s) (x0 : -2305843009213693952 ≤ x) (x1 : x ≤ 2305843009213693951) (hx : x ∈ O.univ) (hm : ¬ x ∈ s.1)
    (hu : unM O.univ s.1 ≤ n + 1) (hc : s.1.length + unM O.univ s.1 ≤ 5000) :
    Calls Try.prog 129 #[.pointer (some ⟨q, 0, none⟩), .int .i64 x] w fun e w' => NodeRet w q h O b rv nv F s.1.length (valM O.gr (n + 1) (3, x) s).2 e w' := by
  have HV := Lib.hid V
  have HNEW := Lib.hid (valM_new O.gr n (v := (3, x)) rfl hm)
  have HM := Lib.hid hm; have HX := Lib.hid hx
  have hp := unM_push hx hm
  have HU := Lib.hid (show unM O.univ (s.1 ++ [x]) ≤ n by omega)
  have HC := Lib.hid (show (s.1 ++ [x]).length + unM O.univ (s.1 ++ [x]) ≤ 5000 by rw [List.length_append]; simp; omega)
  have hl5 : s.1.length ≤ 5000 := by omega
  obtain ⟨ni, hi, hz0, hz1, hz2⟩ := info_parts1 info_node
  have Ni := Lib.hid hi; have Nz0 := Lib.hid hz0; have Nz1 := Lib.hid hz1; have Nz2 := Lib.hid hz2; clear hi hz0 hz1 hz2
  obtain ⟨vi, hi, hz0, hz1, hz2⟩ := info_parts1 info_val
  have Vi := Lib.hid hi; have Vz0 := Lib.hid hz0; have Vz1 := Lib.hid hz1; have Vz2 := Lib.hid hz2; clear hi hz0 hz1 hz2
  obtain ⟨cs, hsl, hcs⟩ := V.hn
  obtain ⟨no, nc, rfl, -, hnm, -⟩ := hsl.rd
  have HSL := Lib.hid hsl; have HCS := Lib.hid hcs
  have HLL := Lib.hid V.hl
  have hs5 : s.2.length ≤ 5000 := by rw [V.hl]; exact hl5
  obtain ⟨n0, D, hown, hn0, hD⟩ := V.hm
  have c3 := V.hq.cell 3; have cl := V.hq.lt; have c1 := V.hq.cell 1; have c0 := V.hq.cell 0
  simp only [List.getElem?_cons_zero, List.getElem?_cons_succ] at c3 c1 c0
  have HD := Lib.hid hD
  clear V hm hp hu hc hsl hcs hD hnm
  go_enter Try.func129, Try.ntmps129
  go_wp2_with (at_mapUpdate; refine wpList_mapUpdate_own _ rfl _ _ _ 134 rfl 3 3 key_int Try.underlying134 _ b n0 D rfl hown (by unfold maxLen; omega) _ _ _ rfl rfl (keyOf_int_mk Try.underlying3 (WalkArith.wf_i64 (by constructor <;> omega))) _ [] (plainElem_int Try.underlying3 (WalkArith.wf_i64 (by constructor <;> omega))) ?_)
  intro wm hown1 hgrow
  have hsee := SeenAt.push (w := w) (w' := wm) hown hn0 HD.out HM.out (by rw [← HLL.out]; exact hown1)
  have KM := Lib.hid (grown_keeps hgrow); have HSEE := Lib.hid hsee
  have Wm := HV.out.hw.keep KM.out (fun j hj e => HV.out.wood_apart hj (.inr (.inl e)))
  have HWM := Lib.hid Wm
  have hqm := KM.out.blk HV.out.hq (HV.out.hm.ne HV.out.hq)
  have HQM := Lib.hid hqm
  have c3 := hqm.cell 3; have cl := hqm.lt; have c0 := hqm.cell 0
  simp only [List.getElem?_cons_zero, List.getElem?_cons_succ] at c3 c0
  obtain ⟨d0, -, d2, -⟩ := Wm.ptrs
  have dl := Wm.hp.lt
  clear hown hown1 hgrow hn0 hsee Wm hqm c1
  go_wp2_with fail
  refine (Thing_c x _ HWM.out.ha).mono ?_
  rintro e w2 ⟨rfl, rfl⟩
  obtain ⟨⟨kd, nf, kc⟩, hT⟩ : ∃ t, O.ar.thing x = t := ⟨_, rfl⟩
  have HT := Lib.hid hT
  have hnf := O.ar.thing_fields x
  rw [hT] at hnf ⊢
  dsimp only at hnf ⊢
  clear hT
  go_wp2_with (at_builtin; refine wpList_app rfl (.tmp 43) (.tmp 46) 70 rfl 83 ni (.agg #[.int .i64 0, .slice none 0 0]) 2 32 Try.underlying70 Ni.out Nz0.out Nz1.out Nz2.out rfl (by decide) _ s.2.length cs rfl ((HSL.out.keep KM.out (fun j hj e => by subst e; obtain ⟨_, c, hc⟩ := HSL.out.own hj; exact HV.out.hm.ne hc rfl)).keep ((Keeps.refl (fun _ => False) wm).alloc _) (fun _ _ h => h)) ⟨wm.heap.size, 0, none⟩ 1 1 [.int .i64 kd, .slice none 0 0] rfl rfl (news_at wm 83 #[.int .i64 kd, .slice none 0 0]) (by intro u hu; simp at hu; rcases hu with rfl | rfl <;> rfl) (by unfold maxLen; omega) (by omega) ?_)
  intro v2 w2 hs2 hk2 ho2
  have hka := (Keeps.refl (fun _ => False) wm).alloc (.cells #[.int .i64 kd, .slice none 0 0] 83)
  have HT2 := Lib.hid (HV.out.push (x := x) (kd := kd) HSEE.out KM.out hka cs HCS.out hs2 hk2 (by simpa using ho2))
  have nq : ¬ ownB (.slice no s.2.length nc) q := fun hq => by obtain ⟨_, c, hc⟩ := HSL.out.own hq; exact HV.out.hq.ne hc (by decide) rfl
  have hq2 := hk2.blk (hka.blk HQM.out (fun h => h)) nq
  have x3 := hq2.cell 3; have xl := hq2.lt; have xf := hq2.free 3
  simp only [List.getElem?_cons_zero, List.getElem?_cons_succ] at x3
  obtain ⟨vo2, vc2, rfl, -, -, -⟩ := hs2.rd
  clear hs2 hk2 ho2 hka nq hq2 c3 c0 cl d0 d2 dl
  go_wp2_with fail
  have HI := Lib.hid (show ∃ nv1 F1, InNode w q h O b rv (.slice no s.2.length nc) F (s.1 ++ [x], s.2 ++ [(kd, [])]) (.slice none 0 0) [] (w2.setCell ⟨q, 3, none⟩ (.slice vo2 (s.2.length + 1) vc2)) nv1 F1 by
    obtain ⟨nv1, F1, V1, k1, p1, p2⟩ := HT2.out
    exact ⟨nv1, F1, V1, k1, p1, p2, Sl.nil _ _ _, fun k hk => (nil_own hk).elim⟩)
  clear HT2 x3 xl xf
  generalize w2.setCell ⟨q, 3, none⟩ (.slice vo2 (s.2.length + 1) vc2) = w3 at *
  have hkd : (O.gr x).1 = kd := by show (O.ar.thing x).1 = kd; rw [HT.out]
  have HNF := Lib.hid (show ∀ j : Nat, (j : Int) < nf → (O.gr x).2[j]? = some (valO (O.ar.load (x + 1 + j))) from fun j hj => gr_field (by rw [HT.out]; dsimp only; omega))
  have HLEN := Lib.hid (show (O.gr x).2.length = nf.toNat + if kd = 5 then (waitO O.wt (4 * x + 1)).length else 0 by rw [gr_len, HT.out])
  have HKP := Lib.hid (fun j => NS_keep O.gr n x s j HLL.out)
  have HUN := Lib.hid (fun j => NS_un HV.out.hw.ok HX.out j HU.out HC.out)
  obtain ⟨f, rfl⟩ : ∃ f : Nat, nf = f := ⟨nf.toNat, by omega⟩
  have HI0 := Lib.hid (show ∃ nv1 F1, InNode w q h O b rv (.slice no s.2.length nc) F (NS O.gr n x s 0).2 (.slice none 0 0) (NS O.gr n x s 0).1 w3 nv1 F1 by rw [NS_zero, hkd]; exact HI.out)
  have HKD := Lib.hid hkd
  clear HI hkd
  have ih' := Lib.hid ih
  go_loopw [9, 52] (fun lv i wr => ∃ (j : Nat) (nv1 : Value) (F1 : Nat → Prop), j ≤ f ∧ i = .int .i64 j ∧ InNode w q h O b rv (.slice no s.2.length nc) F (NS O.gr n x s j).2 lv (NS O.gr n x s j).1 wr nv1 F1) (fun _ i _ => f - (intOf i).toNat)
  case atStart =>
    obtain ⟨nv1, F1, hI⟩ := HI0.out
    exact ⟨0, nv1, F1, Nat.zero_le _, rfl, hI⟩
  case round =>
    clear HI0
    obtain ⟨j, nv1, F1, hj, rfl, hI⟩ := hrel
    have HI := Lib.hid hI
    by_cases hlt : j < f
    · have HST := Lib.hid (NS_step O.gr n x s (HNF.out j (by omega)))
      have hjl := NS_len O.gr n x s (j := j) (by rw [HLEN.out]; omega)
      have HJL := Lib.hid hjl
      have c0 := hI.V.hq.cell 0; have cl := hI.V.hq.lt
      obtain ⟨d0, -, -, -⟩ := hI.V.hw.ptrs
      have dl := hI.V.hw.hp.lt
      simp only [List.getElem?_cons_zero, List.getElem?_cons_succ] at c0
      obtain ⟨lo, lc, rfl, -, -, -⟩ := hI.L.rd
      rw [hjl] at HI ⊢
      clear hI hjl
      go_wp2_with fail
      refine (Load_c (x + 1 + j) _ HI.out.V.hw.ha).mono ?_
      rintro e w4 ⟨rfl, rfl⟩
      have HLR := Lib.hid (HV.out.hw.ok.ha.load (x + 1 + j))
      have HLU := Lib.hid (Wo.univ_load HV.out.hw.ok (x + 1 + j))
      generalize O.ar.load (x + 1 + j) = y at *
      go_wp2_with fail
      refine (ih'.out y nv1 F1 _ _ HI.out.V HLR.out (fun _ => HLU.out) (HUN.out j).1 (HUN.out j).2).mono ?_
      rintro e w4 ⟨rfl, ht⟩
      obtain ⟨nv2, F2, hI2⟩ := HI.out.told ht
      obtain ⟨⟨⟨r1, r2⟩, sr⟩, hr⟩ : ∃ t, valM O.gr n (valO y) (NS O.gr n x s j).2 = t := ⟨_, rfl⟩
      rw [hr] at hI2 HST ⊢
      dsimp only at hI2 HST ⊢
      have HI2 := Lib.hid hI2
      have HL2 := Lib.hid (show Sl w4 78 2 (.slice lo j lc) j (entV (NS O.gr n x s j).1) by have := hI2.L; rw [HJL.out] at this; exact this)
      clear hI2 ht c0 cl d0 dl hr
      go_wp2_with (at_builtin; refine wpList_app rfl (.tmp 55) (.tmp 70) 69 rfl 78 vi (.agg #[.int .i64 0, .int .i64 0]) 2 16 Try.underlying69 Vi.out Vz0.out Vz1.out Vz2.out rfl (by decide) _ j (entV (NS O.gr n x s j).1) rfl (HL2.out.keep ((Keeps.refl (fun _ => False) w4).alloc _) (fun _ _ h => h)) ⟨w4.heap.size, 0, none⟩ 1 1 [.int .i64 r1, .int .i64 r2] rfl rfl (news_at w4 78 #[.int .i64 r1, .int .i64 r2]) (by intro u hu; simp at hu; rcases hu with rfl | rfl <;> rfl) (by unfold maxLen; omega) (by omega) ?_)
      intro v5 w5 hs5 hk5 ho5
      have HI5 := Lib.hid (HI2.out.app (v := (r1, r2)) ((Keeps.refl (fun _ => False) w4).alloc _) (by rw [HJL.out]; exact hs5) hk5 (by simpa using ho5))
      clear hs5 hk5 ho5
      go_wp2_with fail
      go_roundw
      case rel => exact ⟨j + 1, nv2, F2, by omega, by go_num, by rw [HST.out]; exact HI5.out⟩
      case measure => simp [intOf]; omega
    · obtain rfl : j = f := by omega
      clear hlt hj
      by_cases hk5 : kd = 5
      · subst hk5
        have hg := thing_guard (A := O.ar) (x := x) (by rw [HT.out])
        rw [HT.out] at hg
        dsimp only at hg
        obtain rfl : j = 0 := by omega
        obtain rfl : kc = 0 := hg.2
        have hux := HV.out.hw.ok.ha.use_lt (O.ar.thing_use (i := x) (by rw [HT.out]))
        have h4 := HV.out.hw.ok.ha.h4
        rw [if_pos rfl] at HLEN
        have HGW := Lib.hid (fun (j : Nat) (hj : j < (waitO O.wt (4 * x + 1)).length) => by have := gr_wait (O := O) (x := x) (by rw [HT.out]) hj; rw [HT.out] at this; exact this)
        have hwl : (waitO O.wt (4 * x + 1)).length ≤ 24 := by have h1 := atG_le (4 * x + 1) O.wt; have h2 := HV.out.hw.ok.hq; unfold waitO; unfold atG at h1; omega
        have hgl : O.rg.length ≤ 1000000 := by have h2 := HV.out.hw.ok.hq; omega
        have hwl2 : O.wt.length ≤ 1000000 := by have h2 := HV.out.hw.ok.hq; omega
        have c0 := hI.V.hq.cell 0; have cl := hI.V.hq.lt
        obtain ⟨-, -, d2, -⟩ := hI.V.hw.ptrs
        have dl := hI.V.hw.hp.lt
        simp only [List.getElem?_cons_zero, List.getElem?_cons_succ] at c0
        clear hg hI
        go_wp2_with fail
        refine wp_region_ro (.free 0 (.free 1 (.free 2 (.free 7 (.free 11 (.pure 3 (.free 4 (.free 5 (.pure 6 (.run 8 (.run 9 (.swi [] (.free 10 (.fin)))))))))))))) [9, 10] (fun w' => w'.cell? ⟨q, 0, none⟩ = some (.pointer (some ⟨h.p, 0, none⟩)) ∧ w'.cell? ⟨h.p, 2, none⟩ = some (.pointer (some ⟨h.ps, 0, none⟩))) (by kernel_rfl) (by kernel_rfl) ⟨c0, d2⟩ ?_
        first | (refine wpRO_free rfl rfl _ (fun w' => by go_simp; exact Gives.mk _ _) (fun K hK => ?_); go_simp; refine hK _ ?_; clear hK K) | (refine wpRO_skipF rfl rfl (fun K hK => ?_); go_simp; refine hK _ ?_; clear hK K)
        first | (refine wpRO_free rfl rfl _ (fun w' => by go_simp; exact Gives.mk _ _) (fun K hK => ?_); go_simp; refine hK _ ?_; clear hK K) | (refine wpRO_skipF rfl rfl (fun K hK => ?_); go_simp; refine hK _ ?_; clear hK K)
        first | (refine wpRO_free rfl rfl _ (fun w' => by go_simp; exact Gives.mk _ _) (fun K hK => ?_); go_simp; refine hK _ ?_; clear hK K) | (refine wpRO_skipF rfl rfl (fun K hK => ?_); go_simp; refine hK _ ?_; clear hK K)
        first | (refine wpRO_free rfl rfl _ (fun w' => by go_simp; exact Gives.mk _ _) (fun K hK => ?_); go_simp; refine hK _ ?_; clear hK K) | (refine wpRO_skipF rfl rfl (fun K hK => ?_); go_simp; refine hK _ ?_; clear hK K)
        first | (refine wpRO_free rfl rfl _ (fun w' => by go_simp; exact Gives.mk _ _) (fun K hK => ?_); go_simp; refine hK _ ?_; clear hK K) | (refine wpRO_skipF rfl rfl (fun K hK => ?_); go_simp; refine hK _ ?_; clear hK K)
        first | (refine wpRO_pure rfl rfl _ (fun w' hG => by obtain ⟨g0, g2⟩ := hG; exact gives_agg2 rfl (by decide +kernel) rfl (by assumption) (by assumption)) (fun K hK => ?_); go_simp; refine hK _ ?_; clear hK K) | (refine wpRO_pure rfl rfl _ (fun w' hG => by obtain ⟨g0, g2⟩ := hG; go_simp; exact Gives.mk _ _) (fun K hK => ?_); go_simp; refine hK _ ?_; clear hK K) | (refine wpRO_skip rfl rfl (fun K hK => ?_); go_simp; refine hK _ ?_; clear hK K)
        first | (refine wpRO_free rfl rfl _ (fun w' => by go_simp; exact Gives.mk _ _) (fun K hK => ?_); go_simp; refine hK _ ?_; clear hK K) | (refine wpRO_skipF rfl rfl (fun K hK => ?_); go_simp; refine hK _ ?_; clear hK K)
        first | (refine wpRO_free rfl rfl _ (fun w' => by go_simp; exact Gives.mk _ _) (fun K hK => ?_); go_simp; refine hK _ ?_; clear hK K) | (refine wpRO_skipF rfl rfl (fun K hK => ?_); go_simp; refine hK _ ?_; clear hK K)
        first | (refine wpRO_pure rfl rfl _ (fun w' hG => by obtain ⟨g0, g2⟩ := hG; exact gives_agg2 rfl (by decide +kernel) rfl (by assumption) (by assumption)) (fun K hK => ?_); go_simp; refine hK _ ?_; clear hK K) | (refine wpRO_pure rfl rfl _ (fun w' hG => by obtain ⟨g0, g2⟩ := hG; go_simp; exact Gives.mk _ _) (fun K hK => ?_); go_simp; refine hK _ ?_; clear hK K) | (refine wpRO_skip rfl rfl (fun K hK => ?_); go_simp; refine hK _ ?_; clear hK K)
        refine wpRO_run rfl rfl (fun K hK => ?_); unfold gRun; go_simp
        refine (Ref_c x _ (by omega) (by omega)).mono ?_
        rintro e w4 ⟨rfl, rfl⟩
        refine hK _ _ (fun h => h) ?_
        clear hK K
        refine wpRO_chg rfl rfl rfl (fun K hK => ?_); unfold gRun; go_simp
        refine (At_c h.ps _ _ _ _ (4 * x + 1) _ (HI.out.same (Keeps.refl (fun _ => False) wr).drew).V.hw.hs hwl2).mono ?_
        rintro e w4 ⟨ao, ac, rfl, hs4, hk4, ho4⟩
        have hI4 := HI.out.same ((Keeps.refl (fun _ => False) wr).drew.trans hk4)
        have HI4 := Lib.hid hI4; have HS4 := Lib.hid hs4
        have HO4 : Hid (∀ k, ownB (.slice ao (atG (4 * x + 1) O.wt).length ac) k → wr.heap.size ≤ k) := fun k hk => ho4 k hk
        refine hK _ _ ?_
        clear hK K hs4 hk4 ho4 hI4 c0 cl d2 dl
        refine wpRO_swi (fun _ => True) trivial ?_
        first | (refine wpRO_free rfl rfl _ (fun w' => by go_simp; exact Gives.mk _ _) (fun K hK => ?_); go_simp; refine hK _ ?_; clear hK K) | (refine wpRO_skipF rfl rfl (fun K hK => ?_); go_simp; refine hK _ ?_; clear hK K)
        refine wpRO_fin ?_
        have hLW : atG (4 * x + 1) O.wt = waitO O.wt (4 * x + 1) := rfl
        rw [hLW] at HS4 HO4 ⊢
        have HRW := Lib.hid (show ∀ y ∈ waitO O.wt (4 * x + 1), R64 y from fun y hy => by
          unfold waitO at hy
          obtain ⟨e, he, rfl⟩ := List.mem_map.1 hy
          exact (HV.out.hw.ok.hw e (List.mem_filter.1 he).1).2)
        have HRU := Lib.hid (show ∀ y ∈ waitO O.wt (4 * x + 1), y / 4 ∈ O.univ from fun y hy => Wo.univ_wait hy)
        clear hLW
        generalize waitO O.wt (4 * x + 1) = L at *
        simp only [Int.toNat_natCast, Nat.zero_add] at HLEN HGW
        go_wp2_with fail
        go_loopw [9, 86] (fun lv i wx => ∃ (j : Nat) (nv1 : Value) (F1 : Nat → Prop), j ≤ L.length ∧ i = .int .i64 j ∧ InNode w q h O b rv (.slice no s.2.length nc) F (NS O.gr n x s j).2 lv (NS O.gr n x s j).1 wx nv1 F1 ∧ Sl wx 2 1 (.slice ao L.length ac) L.length (L.map (Value.int .i64))) (fun _ i _ => L.length - (intOf i).toNat)
        case atStart =>
          exact ⟨0, nv1, F1, Nat.zero_le _, rfl, HI4.out, HS4.out⟩
        case round =>
          clear HI HI4 HS4 HO4
          rename_i nv0 F0 _ _ _
          obtain ⟨j, nv1, F1, hj, rfl, hI, hsr⟩ := hrel
          have HI := Lib.hid hI; have HSR := Lib.hid hsr
          obtain ⟨_, _, e', hrd, -, -⟩ := hsr.rd
          cases e'
          clear hsr
          by_cases hlt : j < L.length
          · have HST := Lib.hid (NS_step O.gr n x s (HGW.out j hlt))
            have hjl := NS_len O.gr n x s (j := j) (by rw [HLEN.out]; omega)
            have HJL := Lib.hid hjl
            obtain ⟨lo, lc, rfl, -, -, -⟩ := hI.L.rd
            rw [hjl] at HI ⊢
            obtain ⟨gg, go, rfl, ggl, g0⟩ := hrd.int64 j hlt
            have HLR := Lib.hid (HRW.out (L.getD j 0) (by rw [List.getD_eq_getElem?_getD, List.getElem?_eq_getElem hlt]; exact List.getElem_mem hlt))
            have HLU := Lib.hid (HRU.out (L.getD j 0) (by rw [List.getD_eq_getElem?_getD, List.getElem?_eq_getElem hlt]; exact List.getElem_mem hlt))
            clear hI hjl hrd
            generalize L.getD j 0 = y at *
            go_wp2_with fail
            refine (ih'.out y nv1 F1 _ _ HI.out.V HLR.out (fun _ => HLU.out) (HUN.out j).1 (HUN.out j).2).mono ?_
            rintro e w5 ⟨rfl, ht⟩
            have HSR5 := Lib.hid (HSR.out.keep ht.choose_spec.choose_spec.2.1 (fun k hk => by obtain ⟨_, c, hc⟩ := HSR.out.own hk; exact HI.out.V.fp_ne hc (by decide) (by decide)))
            obtain ⟨nv2, F2, hI2⟩ := HI.out.told ht
            obtain ⟨⟨⟨r1, r2⟩, sr⟩, hr⟩ : ∃ t, valM O.gr n (valO y) (NS O.gr n x s j).2 = t := ⟨_, rfl⟩
            rw [hr] at hI2 HST ⊢
            dsimp only at hI2 HST ⊢
            have HI2 := Lib.hid hI2
            have HL2 := Lib.hid (show Sl w5 78 2 (.slice lo j lc) j (entV (NS O.gr n x s j).1) by have := hI2.L; rw [HJL.out] at this; exact this)
            clear hI2 ht g0 ggl hr
            go_wp2_with (at_builtin; refine wpList_app rfl (.tmp 90) (.tmp 94) 69 rfl 78 vi (.agg #[.int .i64 0, .int .i64 0]) 2 16 Try.underlying69 Vi.out Vz0.out Vz1.out Vz2.out rfl (by decide) _ j (entV (NS O.gr n x s j).1) rfl (HL2.out.keep ((Keeps.refl (fun _ => False) w5).alloc _) (fun _ _ h => h)) ⟨w5.heap.size, 0, none⟩ 1 1 [.int .i64 r1, .int .i64 r2] rfl rfl (news_at w5 78 #[.int .i64 r1, .int .i64 r2]) (by intro u hu; simp at hu; rcases hu with rfl | rfl <;> rfl) (by unfold maxLen; omega) (by omega) ?_)
            intro v6 w6 hs6 hk6 ho6
            have HI6 := Lib.hid (HI2.out.app (v := (r1, r2)) ((Keeps.refl (fun _ => False) w5).alloc _) (by rw [HJL.out]; exact hs6) hk6 (by simpa using ho6))
            have hka6 := (Keeps.refl (fun _ => False) w5).alloc (.cells #[.int .i64 r1, .int .i64 r2] 78)
            have HSR6 := Lib.hid ((HSR5.out.keep hka6 (fun _ _ h => h)).keep hk6 (fun k hk hk2 => by
              obtain ⟨_, c, hc⟩ := (HSR5.out.keep hka6 (fun _ _ h => h)).own hk
              obtain ⟨_, c', hc'⟩ := (HL2.out.keep hka6 (fun _ _ h => h)).own hk2
              exact hc.ne hc' (by decide) rfl))
            clear hs6 hk6 ho6 hka6
            go_wp2_with fail
            go_roundw
            case rel => exact ⟨j + 1, nv2, F2, by omega, by go_num, by rw [HST.out]; exact HI6.out, HSR6.out⟩
            case measure => simp [intOf]; omega
          · obtain rfl : j = L.length := by omega
            clear hlt hj
            have HI9 := Lib.hid hI
            obtain ⟨cs9, hs9, hr9⟩ := hI.V.hn
            have hlt9 : s.1.length < (NS O.gr n x s L.length).2.2.length := (List.getElem?_eq_some_iff.1 (HKP.out L.length)).1
            obtain ⟨g, o, cap9, cur, rfl, hb9, h91, h92, h93, h94⟩ := hs9.laid (by omega)
            have c3 := hI.V.hq.cell 3; have cl := hI.V.hq.lt
            have g1 := hb9.cell (o + s.2.length * 2 + 1); have gl := hb9.lt; have gf := hb9.free (o + s.2.length * 2 + 1)
            have hs9l : s.2.length < (NS O.gr n x s L.length).2.2.length := by rw [HLL.out]; exact hlt9
            obtain ⟨u9, hu9⟩ : ∃ u, cur[o + s.2.length * 2 + 1]? = some u := ⟨_, List.getElem?_eq_getElem (by omega)⟩
            simp only [List.getElem?_cons_zero, List.getElem?_cons_succ] at c3
            rw [hu9] at g1
            obtain ⟨lo9, lc9, rfl, -, -, -⟩ := hI.L.rd
            have hs9m : (NS O.gr n x s L.length).2.2.length ≤ cap9 := h91
            clear hI hr9 hs9 hb9 h92 h93 h94 hlt9 h91 hu9
            go_wp2_with fail
            go_ret
            have hd := InNode.done (kd := 5) (n := s.1.length) rfl HI9.out rfl (by have hkp := HKP.out L.length; rw [HKD.out] at hkp; exact hkp)
            refine ⟨ret_int (by rw [HLL.out]), ?_⟩
            rw [HNEW.out]
            have hfull : NS O.gr n x s L.length = fldM (valM O.gr n) (O.gr x).2 (s.1 ++ [x], s.2 ++ [((O.gr x).1, [])]) := by
              unfold NS; rw [List.take_of_length_le (by rw [HLEN.out]; simp)]
            rw [← hfull, HKD.out]
            rw [← HLL.out] at hd ⊢
            exact hd
      · have hkb : (kd == 5) = false := by simpa using hk5
        rw [if_neg hk5] at HLEN
        clear hk5
        have HI9 := Lib.hid hI
        obtain ⟨cs9, hs9, hr9⟩ := hI.V.hn
        have hlt9 : s.1.length < (NS O.gr n x s j).2.2.length := (List.getElem?_eq_some_iff.1 (HKP.out j)).1
        obtain ⟨g, o, cap9, cur, rfl, hb9, h91, h92, h93, h94⟩ := hs9.laid (by omega)
        have c3 := hI.V.hq.cell 3; have cl := hI.V.hq.lt
        have g1 := hb9.cell (o + s.2.length * 2 + 1); have gl := hb9.lt; have gf := hb9.free (o + s.2.length * 2 + 1)
        have hs9l : s.2.length < (NS O.gr n x s j).2.2.length := by rw [HLL.out]; exact hlt9
        obtain ⟨u9, hu9⟩ : ∃ u, cur[o + s.2.length * 2 + 1]? = some u := ⟨_, List.getElem?_eq_getElem (by omega)⟩
        rw [hu9] at g1
        simp only [List.getElem?_cons_zero, List.getElem?_cons_succ] at c3
        obtain ⟨lo9, lc9, rfl, -, -, -⟩ := hI.L.rd
        have hs9m : (NS O.gr n x s j).2.2.length ≤ cap9 := h91
        clear hI hr9 hs9 hb9 h92 h93 h94 hlt9 h91 hu9
        go_wp2_with fail
        go_ret
        have hd := InNode.done (kd := kd) (n := s.1.length) rfl HI9.out rfl (by have hkp := HKP.out j; rw [HKD.out] at hkp; exact hkp)
        refine ⟨ret_int (by rw [HLL.out]), ?_⟩
        rw [HNEW.out]
        have hfull : NS O.gr n x s j = fldM (valM O.gr n) (O.gr x).2 (s.1 ++ [x], s.2 ++ [((O.gr x).1, [])]) := by
          unfold NS; rw [List.take_of_length_le (by rw [HLEN.out]; simp)]
        rw [← hfull, HKD.out]
        rw [← HLL.out] at hd ⊢
        exact hd
end

end Go.Proofs.Ytjifdalflepcoab

namespace Go.Proofs.Ytjifdalflepcoab
open Go.RowKit Go.Maps
set_option linter.unusedVariables false
set_option linter.unusedSimpArgs false

section
variable {h : WH} {O : Wo} {q b : Nat} {rv : Value}

set_option maxHeartbeats 4000000 in
set_option maxRecDepth 100000 in
theorem value_new (n : Nat) (ih : ValOk h O q b rv n) (x : Int) (nv : Value) (F : Nat → Prop) (s : VS) (w : World) (V : VwAt w q h O b rv nv F s) (hx : R64 x) (h1 : x % 4 = 1) (hxu : x / 4 ∈ O.univ) (hm : ¬ x / 4 ∈ s.1)
    (hu : unM O.univ s.1 ≤ n + 1) (hc : s.1.length + unM O.univ s.1 ≤ 5000) :
    Calls Try.prog 92 #[.pointer (some ⟨q, 0, none⟩), .int .i64 x] w fun e w' => ValRet w q h O b rv nv F (valM O.gr (n + 1) (valO x) s) e w' := by
  have HV := Lib.hid V
  have HE := Lib.hid (show (valM O.gr (n + 1) (valO x) s).1 = refV s.1.length by rw [valO_ref h1, valM_new O.gr n rfl hm])
  have HVO := Lib.hid (valO_ref h1)
  have H1 := Lib.hid h1; have HM := Lib.hid hm; have HU := Lib.hid hu; have HC := Lib.hid hc; have HXU := Lib.hid hxu; have HIH := Lib.hid ih
  have r0 : -2305843009213693952 ≤ x / 4 := by have := hx.1; omega
  have r2 : x / 4 ≤ 2305843009213693951 := by have := hx.2; omega
  clear V h1 hm hu hc hxu ih
  go_enter Try.func92, Try.ntmps92
  go_wp2_with fail
  refine (At_yes x _ H1.out).mono ?_
  rintro e w1 ⟨rfl, rfl⟩
  have hka := (Keeps.refl (fun _ => False) w).alloc (.cells #[.int .i64 0, .int .i64 0] 78)
  have V1 := Lib.hid (HV.out.same hka)
  have hal : Blk (w.alloc (.cells #[.int .i64 0, .int .i64 0] 78)) w.heap.size [.int .i64 0, .int .i64 0] 78 := Blk.newAt _ rfl rfl
  have HAL := Lib.hid hal; have HKA := Lib.hid hka
  have c1 := V1.out.hq.cell 1; have cl := V1.out.hq.lt
  simp only [List.getElem?_cons_zero, List.getElem?_cons_succ] at c1
  obtain ⟨n0, D, hown, hn0, hD⟩ := V1.out.hm
  have HD := Lib.hid (hD (x / 4) (by omega) (by omega))
  clear hD hka hal
  go_wp2_with (at_lookup; refine wpList_lookup_own_ok_int _ rfl _ _ 134 rfl 3 3 .i64 key_int Try.underlying134 Try.underlying3 (zero_int _) b n0 D rfl hown _ _ rfl (keyOf_int_mk Try.underlying3 (WalkArith.wf_i64 (by constructor <;> omega))) ?_)
  intro c hat hwc
  rw [HD.out.1, decide_eq_false HM.out]
  clear hat hwc hown hn0 c1 cl
  go_wp2_with fail
  refine (node_c n HIH.out (x / 4) nv F s _ V1.out r0 r2 HXU.out HM.out HU.out HC.out).mono ?_
  rintro e w2 ⟨rfl, ht⟩
  have hb2 := ht.choose_spec.choose_spec.2.1.blk HAL.out (by
    intro hf
    have := HV.out.lt hf
    omega)
  have l0 := hb2.cell 0; have l1 := hb2.cell 1; have ll := hb2.lt; have f0 := hb2.free 0; have f1 := hb2.free 1
  simp only [List.getElem?_cons_zero, List.getElem?_cons_succ] at l0 l1
  have HB2 := Lib.hid hb2; have HT := Lib.hid ht
  clear hb2 ht
  go_wp2_with fail
  have hb3 := (HB2.out.setSame 0 (.int .i64 3)).setSame 1 (.int .i64 s.1.length)
  have x0' := hb3.cell 0; have x1' := hb3.cell 1
  simp only [List.set_cons_zero, List.set_cons_succ, List.getElem?_cons_zero, List.getElem?_cons_succ] at x0' x1'
  refine bodyPost_ret (v := .agg #[.int .i64 3, .int .i64 s.1.length]) (by simp [results, Try.results92, go_sem, x0', x1']) rfl ?_
  refine ⟨by rw [HE.out]; rfl, ?_⟩
  rw [HVO.out]
  have hsz := HKA.out.size
  have hsz1 : (w.alloc (.cells #[.int .i64 0, .int .i64 0] 78)).heap.size = w.heap.size + 1 := by simp
  obtain ⟨nv1, F1, V2, k2, p1, p2⟩ := HT.out
  have ke := ((Keeps.refl (· = w.heap.size) w2).setCell (p := ⟨w.heap.size, 0, none⟩) (.inl rfl) (.int .i64 3)).setCell (p := ⟨w.heap.size, 1, none⟩) (.inl rfl) (.int .i64 s.1.length)
  refine ⟨nv1, F1, V2.keep ke (fun j hj e => ?_) (fun j hj e => ?_) (fun j hj e => ?_), (((HKA.out.mono (fun _ _ h => h.elim)).trans k2).setCell (p := ⟨w.heap.size, 0, none⟩) (.inr (Nat.le_refl _)) _).setCell (p := ⟨w.heap.size, 1, none⟩) (.inr (Nat.le_refl _)) _, fun j hj => ?_, fun j hj => ?_⟩
  · subst e; exact V2.fp_ne HB2.out (by decide) (by decide) hj
  · subst e
    obtain ⟨c', T, hc', hT⟩ := V2.hw.own_type hj
    rcases hT with rfl | rfl | rfl | rfl | rfl | rfl | rfl <;> exact HB2.out.ne hc' (by decide) rfl
  · subst e
    rcases p2 _ hj with h1 | h1
    · have := (HV.out.hF _ h1).1; omega
    · omega
  · rcases p1 j hj with h1 | h1
    · exact .inl h1
    · exact .inr (by omega)
  · rcases p2 j hj with h1 | h1
    · exact .inl h1
    · exact .inr (by omega)

theorem value_c : ∀ n : Nat, n ≤ 5000 → ValOk h O q b rv n := by
  intro n
  induction n with
  | zero =>
    intro _ x nv F s w V hx hxu hu hc
    exact value_met x 0 V hx (fun h1 => unM_zero (Nat.le_zero.1 hu) (hxu h1)) (by omega)
  | succ n ih =>
    intro hn x nv F s w V hx hxu hu hc
    by_cases hm : x % 4 = 1 → x / 4 ∈ s.1
    · exact value_met x (n + 1) V hx hm (by omega)
    · obtain ⟨h1, h2⟩ := Classical.not_imp.1 hm
      exact value_new n (ih (by omega)) x nv F s w V hx h1 (hxu h1) h2 hu hc

/-- A view in memory: made since the heap was lo. -/
def ViewV (w : World) (lo : Nat) (v : Value) (V : List Vl × List Nd) : Prop :=
  ∃ ro rc no nc F, v = .agg #[.slice ro V.1.length rc, .slice no V.2.length nc] ∧ Sl w 78 2 (.slice ro V.1.length rc) V.1.length (entV V.1) ∧ NodesAt w (.slice no V.2.length nc) F V.2 ∧
    ∀ k, (F k ∨ ownB (.slice ro V.1.length rc) k ∨ ownB (.slice no V.2.length nc) k) → lo ≤ k ∧ k < w.heap.size

/-- In the midst of View: the roots so far. -/
structure TopIn (w : World) (q : Nat) (h : WH) (O : Wo) (b : Nat) (wr : World) (rv nv : Value) (F : Nat → Prop) (s : VS) (l : List Vl) : Prop where
  V : VwAt wr q h O b rv nv F s
  K : Keeps (fun _ => False) w wr
  o1 : ∀ k, ownB nv k → w.heap.size ≤ k
  o2 : ∀ k, F k → w.heap.size < k
  L : Sl wr 78 2 rv l.length (entV l)
  o3 : ∀ k, ownB rv k → w.heap.size ≤ k ∧ ¬ F k
  oq : w.heap.size ≤ q
  ob : w.heap.size ≤ b
  B : Blk wr w.heap.size [.slice none 0 0, .slice none 0 0] 72

theorem TopIn.rv_ne {w wr : World} {rv nv : Value} {F : Nat → Prop} {s : VS} {l : List Vl} (I : TopIn w q h O b wr rv nv F s l) {k : Nat} (hk : ownB rv k) : ¬ VwFp q b nv k ∧ ¬ h.Own k := by
  obtain ⟨_, c, hc⟩ := I.L.own hk
  refine ⟨I.V.fp_ne hc (by decide) (by decide), fun h1 => ?_⟩
  obtain ⟨c', T, hc', hT⟩ := I.V.hw.own_type h1
  rcases hT with rfl | rfl | rfl | rfl | rfl | rfl | rfl <;> exact hc.ne hc' (by decide) rfl

theorem TopIn.told {w wr w2 : World} {rv nv : Value} {F : Nat → Prop} {s s2 : VS} {l : List Vl} (I : TopIn w q h O b wr rv nv F s l) (t : VwTo wr q h O b rv nv F s2 w2) : ∃ nv2 F2, TopIn w q h O b w2 rv nv2 F2 s2 l := by
  obtain ⟨nv2, F2, V2, k2, p1, p2⟩ := t
  have hz := I.K.size
  refine ⟨nv2, F2, V2, I.K.then k2 (fun j hj => ?_), fun j hj => ?_, fun j hj => ?_, I.L.keep k2 (fun j hj => (I.rv_ne hj).1), fun j hj => ⟨(I.o3 j hj).1, fun hf => ?_⟩, I.oq, I.ob, k2.blk I.B (I.V.fp_ne I.B (by decide) (by decide))⟩
  · rcases hj with rfl | rfl | hj
    · exact .inr I.oq
    · exact .inr I.ob
    · exact .inr (I.o1 j hj)
  · rcases p1 j hj with h | h
    · exact I.o1 j h
    · omega
  · have hbl := I.B.lt
    rcases p2 j hj with h | h
    · exact I.o2 j h
    · omega
  · rcases p2 j hf with h | h
    · exact (I.o3 j hj).2 h
    · have := (I.L.own hj).1; omega

theorem TopIn.same {w wr w2 : World} {rv nv : Value} {F : Nat → Prop} {s : VS} {l : List Vl} (I : TopIn w q h O b wr rv nv F s l) (k : Keeps (fun _ => False) wr w2) : TopIn w q h O b w2 rv nv F s l :=
  ⟨I.V.same k, I.K.trans k, I.o1, I.o2, I.L.keep k (fun _ _ h => h), I.o3, I.oq, I.ob, k.blk I.B (fun h => h)⟩

theorem TopIn.app {w wr wa w2 : World} {rv nv v2 : Value} {F : Nat → Prop} {s : VS} {l : List Vl} {v : Vl} (I : TopIn w q h O b wr rv nv F s l) (ka : Keeps (fun _ => False) wr wa)
    (hs : Sl w2 78 2 v2 (l.length + 1) (entV l ++ [.int .i64 v.1, .int .i64 v.2])) (hk : Keeps (ownB rv) wa w2) (ho : ∀ k, ownB v2 k → ownB rv k ∨ wa.heap.size ≤ k) : TopIn w q h O b (w2.setCell ⟨q, 2, none⟩ v2) v2 nv F s (l ++ [v]) := by
  have k2 := (ka.mono (T := ownB rv) (fun _ _ h => h.elim)).trans hk
  have hz := ka.size; have hz2 := I.K.size
  have nq : ∀ {v : Value} {wx : World} {n : Nat} {xs : List Value}, Sl wx 78 2 v n xs → Blk wx q [.pointer (some ⟨h.p, 0, none⟩), .map (some b), rv, nv] 136 → ¬ ownB v q := fun hs hq h => by
    obtain ⟨_, c, hc⟩ := hs.own h
    exact hc.ne hq (by decide) rfl
  have hq2 := k2.blk I.V.hq (nq I.L I.V.hq)
  have set := (Keeps.refl (· = q) w2).setCell (p := ⟨q, 2, none⟩) (.inl rfl) v2
  have V2 := I.V.keep k2 (fun j hj hl => (I.rv_ne hl).1 hj) (fun j hj hl => (I.rv_ne hl).2 hj) (fun j hj hl => (I.o3 j hl).2 hj)
  have sq : ∀ j, ownB v2 j → ¬ j = q := fun j hj e => nq hs hq2 (e ▸ hj)
  have B2 := k2.blk I.B (fun hl => by obtain ⟨_, c, hc⟩ := I.L.own hl; exact hc.ne I.B (by decide) rfl)
  refine ⟨⟨by simpa using hq2.setSame 2 v2, V2.hw.keep set (fun j hj e => by subst e; exact V2.wood_apart hj (.inl rfl)), V2.hm.keep set (fun e => V2.hm.ne V2.hq e.symm), V2.hn.keep set (fun j hj _ e => (V2.hF j hj).2 (.inl e)) (fun j hj e => ?_), V2.hl, fun j hj => ⟨?_, (V2.hF j hj).2⟩⟩,
    (I.K.then k2 (fun j hj => .inr (I.o3 j hj).1)).setCell (p := ⟨q, 2, none⟩) (.inr I.oq) _, I.o1, I.o2, ?_, fun j hj => ?_, I.oq, I.ob, set.blk B2 (B2.ne hq2 (by decide))⟩
  · obtain ⟨_, c, hc⟩ := V2.hn.own hj
    exact hc.ne hq2 (by decide) e
  · have := (V2.hF j hj).1; have := set.size; omega
  · have e : entV (l ++ [v]) = entV l ++ [.int .i64 v.1, .int .i64 v.2] := by simp [entV]
    rw [e, List.length_append]
    exact hs.keep set sq
  · rcases ho j hj with h1 | h1
    · exact I.o3 j h1
    · exact ⟨by omega, fun hf => by have := (I.V.hF j hf).1; omega⟩

/-- The roots so far. -/
def TS (O : Wo) (k : Nat) : List Vl × VS := fldM (valM O.gr 5000) ((O.rt.map valO).take k) ([], [])

theorem TS_step {O : Wo} {k : Nat} (h : k < O.rt.length) : TS O (k + 1) = ((TS O k).1 ++ [(valM O.gr 5000 (valO (O.rt.getD k 0)) (TS O k).2).1], (valM O.gr 5000 (valO (O.rt.getD k 0)) (TS O k).2).2) := by
  unfold TS
  have e : (O.rt.map valO)[k]? = some (valO (O.rt.getD k 0)) := by rw [List.getElem?_map, List.getElem?_eq_getElem h]; simp [List.getD, h]
  rw [List.take_add_one, e, Option.toList_some, fldM_app]
  rfl

theorem TS_len {O : Wo} {k : Nat} (h : k ≤ O.rt.length) : (TS O k).1.length = k := by
  unfold TS; rw [fldM_len, List.length_take, List.length_map]; omega

theorem TS_un {O : Wo} (hO : O.ok) (k : Nat) : unM O.univ (TS O k).2.1 ≤ 5000 ∧ (TS O k).2.1.length + unM O.univ (TS O k).2.1 ≤ 5000 := by
  have I := Wo.inU hO
  unfold TS
  have h1 := Wo.univ_le hO
  have h2 := unM_nil O.univ
  have h3 := fldM_count (f := valM O.gr 5000) (U := O.univ) (valM_count I 5000) ((O.rt.map valO).take k) ([], []) (fun v hv h3 => by
    obtain ⟨x, hx, rfl⟩ := List.mem_map.1 (List.mem_of_mem_take hv)
    rw [(valO_three h3).2]; exact Wo.univ_root hx)
  simp only [List.length_nil] at h3
  exact ⟨by omega, by omega⟩

/-- A view is returned. -/
def ViewRet (w : World) (V : List Vl × List Nd) (e : Ending) (w' : World) : Prop := ∃ v, e = .returned v ∧ ViewV w' w.heap.size v V ∧ Keeps (fun _ => False) w w'

set_option maxHeartbeats 4000000 in
set_option maxRecDepth 100000 in
theorem View_c (w : World) (H : WoodAt w h O) :
    Calls Try.prog 46 #[.pointer (some ⟨h.p, 0, none⟩)] w fun e w' => ViewRet w O.view e w' := by
  have HH := Lib.hid H
  obtain ⟨vi, hi, hz0, hz1, hz2⟩ := info_parts1 info_val
  have Vi := Lib.hid hi; have Vz0 := Lib.hid hz0; have Vz1 := Lib.hid hz1; have Vz2 := Lib.hid hz2; clear hi hz0 hz1 hz2
  have hmm := @run_makeMap Try.prog
  have HMM := Lib.hid hmm
  have h12 := H.ok.h12
  obtain ⟨ro, rc, hro, -, -, -⟩ := H.hr.rd
  have HRO := Lib.hid hro
  have c3 := H.ptrs.2.2.2; have pl := H.hp.lt
  rw [hro, h12] at c3
  have HRR := Lib.hid H.hr
  rw [hro, h12] at HRR
  clear H h12 hro
  go_enter Try.func46, Try.ntmps46
  go_upto_region 2 with fail
  have k1 := (((Keeps.refl (fun _ => False) w).alloc (.cells #[.slice none 0 0, .slice none 0 0] 72)).alloc (.map #[] 0)).alloc (.cells #[.pointer (some ⟨h.p, 0, none⟩), .map (some (w.heap.size + 1)), .slice none 0 0, .slice none 0 0] 136)
  have hb : Blk (((w.alloc (.cells #[.slice none 0 0, .slice none 0 0] 72)).alloc (.map #[] 0)).alloc (.cells #[.pointer (some ⟨h.p, 0, none⟩), .map (some (w.heap.size + 1)), .slice none 0 0, .slice none 0 0] 136)) w.heap.size [.slice none 0 0, .slice none 0 0] 72 := ((Blk.newAt _ rfl rfl).alloc _).alloc _
  have hsn : SeenAt (((w.alloc (.cells #[.slice none 0 0, .slice none 0 0] 72)).alloc (.map #[] 0)).alloc (.cells #[.pointer (some ⟨h.p, 0, none⟩), .map (some (w.heap.size + 1)), .slice none 0 0, .slice none 0 0] 136)) (w.heap.size + 1) [] := by
    have := SeenAt.made (w.alloc (.cells #[.slice none 0 0, .slice none 0 0] 72))
    simp only [World.size_alloc] at this
    exact this.keep ((Keeps.refl (fun _ => False) _).alloc _) (fun h => h)
  have hv : VwAt (((w.alloc (.cells #[.slice none 0 0, .slice none 0 0] 72)).alloc (.map #[] 0)).alloc (.cells #[.pointer (some ⟨h.p, 0, none⟩), .map (some (w.heap.size + 1)), .slice none 0 0, .slice none 0 0] 136)) (w.heap.size + 1 + 1) h O (w.heap.size + 1) (.slice none 0 0) (.slice none 0 0) (fun _ => False) ([], []) :=
    ⟨Blk.newAt _ (by simp) rfl, HH.out.keep k1 (fun _ _ h => h), hsn, NodesAt.nil _ _, rfl, fun _ h => h.elim⟩
  have HK1 := Lib.hid k1; have HB := Lib.hid hb; have HVW := Lib.hid hv
  have HSZ := Lib.hid (show w.heap.size + 3 ≤ (((w.alloc (.cells #[.slice none 0 0, .slice none 0 0] 72)).alloc (.map #[] 0)).alloc (.cells #[.pointer (some ⟨h.p, 0, none⟩), .map (some (w.heap.size + 1)), .slice none 0 0, .slice none 0 0] 136)).heap.size by simp)
  have c3 := hv.hw.ptrs.2.2.2; have pl := hv.hw.hp.lt
  rw [HRO.out, HH.out.ok.h12] at c3
  clear k1 hb hsn hv hmm
  generalize ((w.alloc (.cells #[.slice none 0 0, .slice none 0 0] 72)).alloc (.map #[] 0)).alloc (.cells #[.pointer (some ⟨h.p, 0, none⟩), .map (some (w.heap.size + 1)), .slice none 0 0, .slice none 0 0] 136) = w1 at *
  go_wp2_with fail
  have HI0 := Lib.hid (show TopIn w (w.heap.size + 1 + 1) h O (w.heap.size + 1) w1 (.slice none 0 0) (.slice none 0 0) (fun _ => False) (TS O 0).2 (TS O 0).1 from
    ⟨HVW.out, HK1.out, fun _ h => (nil_own h).elim, fun _ h => h.elim, Sl.nil _ _ _, fun _ h => (nil_own h).elim, by omega, by omega, HB.out⟩)
  clear HVW HB HSZ HK1 c3 pl
  go_loopw [16] (fun i wr => ∃ (k : Nat) (rv nv : Value) (F : Nat → Prop), k ≤ 12 ∧ i = .int .i64 k ∧ TopIn w (w.heap.size + 1 + 1) h O (w.heap.size + 1) wr rv nv F (TS O k).2 (TS O k).1) (fun i _ => 12 - (intOf i).toNat)
  case atStart => exact ⟨0, _, _, _, Nat.zero_le _, rfl, HI0.out⟩
  case round =>
    clear HI0
    obtain ⟨k, rv, nv, F, hk, rfl, hI⟩ := hrel
    have HI := Lib.hid hI
    have hkl := TS_len (O := O) (k := k) (by rw [HH.out.ok.h12]; exact hk)
    have HKL := Lib.hid hkl
    by_cases hlt : k < 12
    · have HST := Lib.hid (TS_step (O := O) (k := k) (by rw [HH.out.ok.h12]; exact hlt))
      have hm : O.rt.getD k 0 ∈ O.rt := by rw [List.getD_eq_getElem?_getD, List.getElem?_eq_getElem (by rw [HH.out.ok.h12]; exact hlt)]; exact List.getElem_mem _
      have HLR := Lib.hid (HH.out.ok.hR _ hm); have HLU := Lib.hid (Wo.univ_root hm)
      have hrd := (HRR.keep hI.K (fun _ _ h => h))
      obtain ⟨_, _, e', hrr, -, -⟩ := hrd.rd
      cases e'
      obtain ⟨gg, go, rfl, ggl, g0⟩ := hrr.int64 k (by rw [HH.out.ok.h12]; exact hlt)
      clear hI hkl hm hrd hrr
      generalize O.rt.getD k 0 = y at *
      go_wp2_with fail
      refine (value_c 5000 (Nat.le_refl _) y nv F _ _ HI.out.V HLR.out (fun _ => HLU.out) (TS_un HH.out.ok k).1 (TS_un HH.out.ok k).2).mono ?_
      rintro e w2 ⟨rfl, ht⟩
      obtain ⟨nv2, F2, hI2⟩ := HI.out.told ht
      obtain ⟨⟨⟨r1, r2⟩, sr⟩, hr⟩ : ∃ t, valM O.gr 5000 (valO y) (TS O k).2 = t := ⟨_, rfl⟩
      rw [hr] at hI2 HST ⊢
      dsimp only at hI2 HST ⊢
      clear hr ht g0 ggl
      go_upto_region 6 with fail
      have hka := (Keeps.refl (fun _ => False) w2).alloc (.cells #[.int .i64 r1, .int .i64 r2] 78)
      have hI3 := hI2.same hka
      have hvb : Blk (w2.alloc (.cells #[.int .i64 r1, .int .i64 r2] 78)) w2.heap.size [.int .i64 r1, .int .i64 r2] 78 := Blk.newAt _ rfl rfl
      have HI3 := Lib.hid hI3
      obtain ⟨lo, lc, rfl, -, -, -⟩ := hI3.L.rd
      rw [HKL.out] at HI3
      have c2 := hI3.V.hq.cell 2; have cl := hI3.V.hq.lt
      have v0 := hvb.cell 0; have v1 := hvb.cell 1; have vl := hvb.lt
      simp only [List.getElem?_cons_zero, List.getElem?_cons_succ] at c2 v0 v1
      rw [HKL.out] at c2
      have HL3 := Lib.hid (show Sl (w2.alloc (.cells #[.int .i64 r1, .int .i64 r2] 78)) 78 2 (.slice lo k lc) k (entV (TS O k).1) by have := HI3.out.L; rw [HKL.out] at this; exact this)
      clear hka hI3 hI2 hvb HI
      generalize w2.alloc (.cells #[.int .i64 r1, .int .i64 r2] 78) = wb at *
      generalize w2.heap.size = bv at *
      refine wp_region_ro (.free 0 (.free 1 (.free 2 (.free 3 (.free 4 (.pure 5 (.pure 6 (.run 7 (.run 8 (.swi [12] (.free 9 (.free 10 (.free 11 (.run 12 (.swi [] (.fin)))))))))))))))) [8, 9, 10, 11, 12] (fun w' => w'.cell? ⟨w.heap.size + 1 + 1, 2, none⟩ = some (.slice lo k lc) ∧ w'.cell? ⟨bv, 0, none⟩ = some (.int .i64 r1) ∧ w'.cell? ⟨bv, 1, none⟩ = some (.int .i64 r2)) (by kernel_rfl) (by kernel_rfl) ⟨c2, v0, v1⟩ ?_
      first | (refine wpRO_free rfl rfl _ (fun w' => by go_simp; exact Gives.mk _ _) (fun K hK => ?_); go_simp; refine hK _ ?_; clear hK K) | (refine wpRO_skipF rfl rfl (fun K hK => ?_); go_simp; refine hK _ ?_; clear hK K)
      first | (refine wpRO_free rfl rfl _ (fun w' => by go_simp; exact Gives.mk _ _) (fun K hK => ?_); go_simp; refine hK _ ?_; clear hK K) | (refine wpRO_skipF rfl rfl (fun K hK => ?_); go_simp; refine hK _ ?_; clear hK K)
      first | (refine wpRO_free rfl rfl _ (fun w' => by go_simp; exact Gives.mk _ _) (fun K hK => ?_); go_simp; refine hK _ ?_; clear hK K) | (refine wpRO_skipF rfl rfl (fun K hK => ?_); go_simp; refine hK _ ?_; clear hK K)
      first | (refine wpRO_free rfl rfl _ (fun w' => by go_simp; exact Gives.mk _ _) (fun K hK => ?_); go_simp; refine hK _ ?_; clear hK K) | (refine wpRO_skipF rfl rfl (fun K hK => ?_); go_simp; refine hK _ ?_; clear hK K)
      first | (refine wpRO_free rfl rfl _ (fun w' => by go_simp; exact Gives.mk _ _) (fun K hK => ?_); go_simp; refine hK _ ?_; clear hK K) | (refine wpRO_skipF rfl rfl (fun K hK => ?_); go_simp; refine hK _ ?_; clear hK K)
      first | (refine wpRO_pure rfl rfl _ (fun w' hG => by obtain ⟨g2, g0, g1⟩ := hG; exact gives_agg2 rfl (by decide +kernel) rfl (by assumption) (by assumption)) (fun K hK => ?_); go_simp; refine hK _ ?_; clear hK K) | (refine wpRO_pure rfl rfl _ (fun w' hG => by obtain ⟨g2, g0, g1⟩ := hG; go_simp; exact Gives.mk _ _) (fun K hK => ?_); go_simp; refine hK _ ?_; clear hK K) | (refine wpRO_skip rfl rfl (fun K hK => ?_); go_simp; refine hK _ ?_; clear hK K)
      first | (refine wpRO_pure rfl rfl _ (fun w' hG => by obtain ⟨g2, g0, g1⟩ := hG; exact gives_agg2 rfl (by decide +kernel) rfl (by assumption) (by assumption)) (fun K hK => ?_); go_simp; refine hK _ ?_; clear hK K) | (refine wpRO_pure rfl rfl _ (fun w' hG => by obtain ⟨g2, g0, g1⟩ := hG; go_simp; exact Gives.mk _ _) (fun K hK => ?_); go_simp; refine hK _ ?_; clear hK K) | (refine wpRO_skip rfl rfl (fun K hK => ?_); go_simp; refine hK _ ?_; clear hK K)
      refine wpRO_run rfl rfl (fun K hK => ?_); unfold gRun; go_simp
      have hkb : Keeps (fun _ => False) wb ((wb.drew).alloc (.cells #[.int .i64 r1, .int .i64 r2] 78)) := (Keeps.refl (fun _ => False) wb).drew.alloc (.cells #[.int .i64 r1, .int .i64 r2] 78)
      refine hK _ _ (fun hg => ?_) ?_
      · refine ⟨?_, ?_, ?_⟩
        · exact (World.cell?_of_block (w := wb) (a := ⟨w.heap.size + 1 + 1, 2, none⟩) (hkb.block _ cl (fun h => h))).trans c2
        · exact (World.cell?_of_block (w := wb) (a := ⟨bv, 0, none⟩) (hkb.block _ vl (fun h => h))).trans v0
        · exact (World.cell?_of_block (w := wb) (a := ⟨bv, 1, none⟩) (hkb.block _ vl (fun h => h))).trans v1
      clear hK K
      refine wpRO_chg rfl rfl rfl (fun K hK => ?_)
      refine gRun_app (.tmp 28) (.tmp 30) 69 rfl 78 vi (.agg #[.int .i64 0, .int .i64 0]) 2 16 Try.underlying69 Vi.out Vz0.out Vz1.out Vz2.out rfl (by decide) _ k (entV (TS O k).1) rfl (HL3.out.keep hkb (fun _ _ h => h)) ⟨wb.heap.size, 0, none⟩ 1 1 [.int .i64 r1, .int .i64 r2] rfl rfl (news_at wb.drew 78 #[.int .i64 r1, .int .i64 r2]) (by intro u hu; simp at hu; rcases hu with rfl | rfl <;> rfl) (by unfold maxLen; omega) (by omega) ?_
      intro v3 w3 hs3 hk3 ho3
      have HI4 := Lib.hid (HI3.out.app (v := (r1, r2)) hkb (by rw [HKL.out]; exact hs3) hk3 ho3)
      have hp3 := hk3.blk (hkb.blk HI3.out.V.hq (fun h => h)) (fun hv => by obtain ⟨_, c', hc⟩ := (HL3.out.keep hkb (fun _ _ h => h)).own hv; exact (hkb.blk HI3.out.V.hq (fun h => h)).ne hc (by decide) rfl)
      have x0 := hp3.cell 2; have xf := hp3.free 2; have xl := hp3.lt
      simp only [List.getElem?_cons_zero, List.getElem?_cons_succ] at x0
      obtain ⟨lo3, lc3, rfl, -, -, -⟩ := hs3.rd
      refine hK _ _ ?_
      clear hK K hkb hs3 hk3 ho3 hp3 c2 cl v0 v1 vl
      refine wpRO_swi (fun _ => True) trivial ?_
      first | (refine wpRO_free rfl rfl _ (fun w' => by go_simp; exact Gives.mk _ _) (fun K hK => ?_); go_simp; refine hK _ ?_; clear hK K) | (refine wpRO_skipF rfl rfl (fun K hK => ?_); go_simp; refine hK _ ?_; clear hK K)
      first | (refine wpRO_free rfl rfl _ (fun w' => by go_simp; exact Gives.mk _ _) (fun K hK => ?_); go_simp; refine hK _ ?_; clear hK K) | (refine wpRO_skipF rfl rfl (fun K hK => ?_); go_simp; refine hK _ ?_; clear hK K)
      first | (refine wpRO_free rfl rfl _ (fun w' => by go_simp; exact Gives.mk _ _) (fun K hK => ?_); go_simp; refine hK _ ?_; clear hK K) | (refine wpRO_skipF rfl rfl (fun K hK => ?_); go_simp; refine hK _ ?_; clear hK K)
      refine wpRO_chg rfl rfl rfl (fun K hK => ?_); unfold gRun; go_simp
      refine hK _ _ ?_
      clear hK K
      refine wpRO_swi (fun _ => True) trivial (wpRO_fin ?_)
      clear x0 xf xl
      go_wp2_with fail
      go_roundw
      case rel => exact ⟨k + 1, _, nv2, F2, by omega, by go_num, by rw [HST.out]; exact HI4.out⟩
      case measure => simp [intOf]; omega
    · obtain rfl : k = 12 := by omega
      obtain ⟨lo, lc, rfl, hrr, -, -⟩ := hI.L.rd
      obtain ⟨cs, hns, hnr⟩ := hI.V.hn
      obtain ⟨no, nc, rfl, -, -, -⟩ := hns.rd
      have c2 := hI.V.hq.cell 2; have c3 := hI.V.hq.cell 3; have cl := hI.V.hq.lt
      have b0 := hI.B.cell 0; have b1 := hI.B.cell 1; have bl := hI.B.lt; have f0 := hI.B.free 0; have f1 := hI.B.free 1
      simp only [List.getElem?_cons_zero, List.getElem?_cons_succ] at c2 c3 b0 b1
      have HVE := Lib.hid (show O.view = ((TS O 12).1, (TS O 12).2.2) by
        unfold Wo.view viewM TS deep
        rw [List.take_of_length_le (by rw [List.length_map, HH.out.ok.h12]; exact Nat.le_refl _)])
      clear hI hrr hns hnr hlt hk hkl
      go_wp2_with (refine wpList_agg2 rfl 72 (.tmp 38) rfl (by kernel_rfl) (w.heap.size + 1 + 1) 2 rfl _ _ c2 c3 ?_)
      have hb3 := (HI.out.B.setSame 0 (.slice lo (TS O 12).1.length lc)).setSame 1 (.slice no (TS O 12).2.2.length nc)
      have x0 := hb3.cell 0; have x1 := hb3.cell 1
      simp only [List.set_cons_zero, List.set_cons_succ, List.getElem?_cons_zero, List.getElem?_cons_succ] at x0 x1
      refine bodyPost_ret (v := .agg #[.slice lo (TS O 12).1.length lc, .slice no (TS O 12).2.2.length nc]) (by simp [results, Try.results46, go_sem, x0, x1]) rfl ?_
      refine ⟨_, rfl, ?_, (HI.out.K.setCell (p := ⟨w.heap.size, 0, none⟩) (.inr (Nat.le_refl _)) _).setCell (p := ⟨w.heap.size, 1, none⟩) (.inr (Nat.le_refl _)) _⟩
      rw [HVE.out]
      have ke := ((Keeps.refl (· = w.heap.size) wr).setCell (p := ⟨w.heap.size, 0, none⟩) (.inl rfl) (.slice lo (TS O 12).1.length lc)).setCell (p := ⟨w.heap.size, 1, none⟩) (.inl rfl) (.slice no (TS O 12).2.2.length nc)
      have nF : ∀ j, F j → ¬ j = w.heap.size := fun j hj e => by
        have := HI.out.o2 j hj; omega
      refine ⟨lo, lc, no, nc, F, rfl, HI.out.L.keep ke (fun j hj e => ?_), HI.out.V.hn.keep ke (fun j hj _ => nF j hj) (fun j hj e => ?_), fun j hj => ?_⟩
      · subst e; obtain ⟨_, c, hc⟩ := HI.out.L.own hj; exact hc.ne HI.out.B (by decide) rfl
      · subst e; obtain ⟨_, c, hc⟩ := HI.out.V.hn.own hj; exact hc.ne HI.out.B (by decide) rfl
      · have hks := ke.size
        rcases hj with hj | hj | hj
        · exact ⟨Nat.le_of_lt (HI.out.o2 j hj), by have := (HI.out.V.hF j hj).1; omega⟩
        · exact ⟨(HI.out.o3 j hj).1, by have := (HI.out.L.own hj).1; omega⟩
        · exact ⟨HI.out.o1 j hj, by have := (HI.out.V.hn.own hj).1; omega⟩
end

end Go.Proofs.Ytjifdalflepcoab

namespace Go.Proofs.Ytjifdalflepcoab
open Go.RowKit
set_option linter.unusedVariables false
set_option linter.unusedSimpArgs false

/-- A value in a slice. -/
theorem Rd.val {w : World} {ao : Option Addr} {l : List Vl} (h : Rd w ao (entV l)) (i : Nat) (hi : i < l.length) :
    ∃ g o, ao = some ⟨g, o, none⟩ ∧ g < w.heap.size ∧ w.cell? ⟨g, o + i * 2, none⟩ = some (.int .i64 (l.getD i (0, 0)).1) ∧ w.cell? ⟨g, o + i * 2 + 1, none⟩ = some (.int .i64 (l.getD i (0, 0)).2) := by
  have hlen : (entV l).length = l.length * 2 := entV_length l
  obtain ⟨g, o, rfl, hg, hc⟩ := h (by intro e; rw [e] at hlen; simp at hlen; omega)
  have h1 := entV_get l i hi
  refine ⟨g, o, rfl, hg, ?_, ?_⟩
  · rw [hc (i * 2) (by rw [hlen]; omega)]; exact h1.1
  · rw [Nat.add_assoc, hc (i * 2 + 1) (by rw [hlen]; omega)]; exact h1.2

/-- A node in a slice. -/
theorem NodesAt.nth {w : World} {nv : Value} {F : Nat → Prop} {l : List Nd} (h : NodesAt w nv F l) : ∃ no nc, nv = .slice no l.length nc ∧ ∀ i, i < l.length → ∃ g o ao cap, no = some ⟨g, o, none⟩ ∧ g < w.heap.size ∧ w.cell? ⟨g, o + i * 2, none⟩ = some (.int .i64 (l.getD i (0, [])).1) ∧
    w.cell? ⟨g, o + i * 2 + 1, none⟩ = some (.slice ao (l.getD i (0, [])).2.length cap) ∧ Rd w ao (entV (l.getD i (0, [])).2) ∧ (l.getD i (0, [])).2.length ≤ maxLen := by
  obtain ⟨cs, hs, hr⟩ := h
  obtain ⟨no, nc, rfl, hrd, -, -⟩ := hs.rd
  refine ⟨no, nc, rfl, fun i hi => ?_⟩
  obtain ⟨r, h1, ⟨ao, cap, rfl, h2, -, h3⟩, h4⟩ := hr.cell hi
  have hlen := hr.length
  have hne : cs ≠ [] := by intro e; subst e; simp at hlen; omega
  obtain ⟨g, o, rfl, hg, hc⟩ := hrd hne
  have e : l.getD i (0, []) = l[i] := by rw [List.getD_eq_getElem?_getD, List.getElem?_eq_getElem hi]; rfl
  rw [e]
  refine ⟨g, o, ao, cap, rfl, hg, ?_, ?_, h2, h3⟩
  · have := h4 0 (by decide)
    rw [hc (i * 2) (by rw [hlen]; omega)]
    exact this
  · have := h4 1 (by decide)
    rw [Nat.add_assoc, hc (i * 2 + 1) (by rw [hlen]; omega)]
    exact this

/-- A view that stands somewhere: it may be read. -/
def ViewR (w : World) (v : Value) (V : List Vl × List Nd) : Prop :=
  ∃ ro rc nv F, v = .agg #[.slice ro V.1.length rc, nv] ∧ Rd w ro (entV V.1) ∧ NodesAt w nv F V.2 ∧ V.1.length ≤ 1000000 ∧ V.2.length ≤ 1000000 ∧ ∀ n ∈ V.2, n.2.length ≤ 1000000

theorem ViewV.r {w : World} {lo : Nat} {v : Value} {V : List Vl × List Nd} (H : ViewV w lo v V) (h1 : V.1.length ≤ 1000000) (h2 : V.2.length ≤ 1000000) (h3 : ∀ n ∈ V.2, n.2.length ≤ 1000000) : ViewR w v V := by
  obtain ⟨ro, rc, no, nc, F, e, a, b, c⟩ := H
  obtain ⟨_, _, e', hr, -, -⟩ := a.rd
  cases e'
  exact ⟨ro, rc, _, F, e, hr, b, h1, h2, h3⟩

end Go.Proofs.Ytjifdalflepcoab

namespace Go.Proofs.Ytjifdalflepcoab
set_option linter.unusedVariables false
set_option linter.unusedSimpArgs false
variable {τ : Type}

end Go.Proofs.Ytjifdalflepcoab

namespace Go.Proofs.Ytjifdalflepcoab
set_option linter.unusedVariables false
set_option linter.unusedSimpArgs false

/-- A thing i keeps j, if S is alive. -/
def Leads (G : Gr) (wait : List (Int × Int)) (S : Int → Prop) (i j : Int) : Prop :=
  (((G i).1 = 1 ∨ (G i).1 = 2) ∧ ((3, j) : Vl) ∈ (G i).2) ∨
  ((G i).1 = 3 ∧ (G i).2[1]? = some (3, j)) ∨
  ((G i).1 = 4 ∧ (G i).2[1]? = some (3, j) ∧ ∀ v, (G i).2[0]? = some v → v.1 = 3 → S v.2) ∨
  ((G i).1 = 5 ∧ (i, j) ∈ wait)

def Closed (G : Gr) (wait : List (Int × Int)) (S : Int → Prop) : Prop := ∀ i j, S i → Leads G wait S i j → S j

/-- What X keeps alive. -/
def Alive (G : Gr) (wait : List (Int × Int)) (X : Int → Prop) (i : Int) : Prop := ∀ S : Int → Prop, (∀ j, X j → S j) → Closed G wait S → S i

section
variable {G : Gr} {wait wait' : List (Int × Int)} {S S' X Y : Int → Prop} {i j : Int}

theorem Leads.mono (h : ∀ k, S k → S' k) (hw : ∀ e ∈ wait, e ∈ wait') (hl : Leads G wait S i j) : Leads G wait' S' i j := by
  rcases hl with h1 | h1 | ⟨h1, h2, h3⟩ | ⟨h1, h2⟩
  · exact .inl h1
  · exact .inr (.inl h1)
  · exact .inr (.inr (.inl ⟨h1, h2, fun v hv h3' => h _ (h3 v hv h3')⟩))
  · exact .inr (.inr (.inr ⟨h1, hw _ h2⟩))

theorem Alive.base (h : X i) : Alive G wait X i := fun _ hX _ => hX i h

theorem Alive.closed (G : Gr) (wait : List (Int × Int)) (X : Int → Prop) : Closed G wait (Alive G wait X) := fun i j hi hl S hX hS =>
  hS i j (hi S hX hS) (hl.mono (fun k hk => hk S hX hS) (fun _ h => h))

theorem Alive.mono (h : Alive G wait X i) (hX : ∀ k, X k → Alive G wait' Y k) (hw : ∀ e ∈ wait, e ∈ wait') : Alive G wait' Y i :=
  h _ hX (fun a b ha hl => Alive.closed G wait' Y a b ha (hl.mono (fun _ h => h) hw))

end

/-- A thing of a world. -/
structure Th where
  k : Int
  fs : List Vl
  old : Bool
  dead : Bool

/-- A world: things, as they came; roots; what is registered, what waits; words of the nursery, of the old space. -/
structure Wd where
  T : List Th
  roots : List Vl
  regs : List (Int × Int)
  wait : List (Int × Int)
  most : Int
  grow : Int

def Th.none : Th := ⟨0, [], false, true⟩
def Wd.th (W : Wd) (i : Int) : Th := W.T.getD i.toNat Th.none
def Th.words (t : Th) : Int := 1 + t.fs.length

def sumW (l : List Th) (p : Th → Bool) : Int := (l.map fun t => if p t then t.words else 0).sum

def Wd.young (W : Wd) : Int := sumW W.T fun t => !t.dead && !t.old
def Wd.olds (W : Wd) : Int := sumW W.T fun t => !t.dead && t.old

/-- What is alive of itself. -/
def Wd.first (W : Wd) (major : Bool) : List Bool :=
  (List.range W.T.length).map fun (i : Nat) => ((W.th (i : Int)).old && !(W.th (i : Int)).dead && !major) || W.roots.any fun v => v.1 == 3 && v.2 == (i : Int)

end Go.Proofs.Ytjifdalflepcoab

namespace Go.Proofs.Ytjifdalflepcoab
set_option linter.unusedVariables false
set_option linter.unusedSimpArgs false

def Wd.live (W : Wd) (i : Int) : Prop := 0 ≤ i ∧ i < W.T.length ∧ (W.th i).dead = false

/-- A value that may stand in a world. -/
def Wd.okV (W : Wd) (v : Vl) : Prop := (v.1 = 0 ∧ v.2 = 0) ∨ (v.1 = 1 ∧ -big ≤ v.2 ∧ v.2 < big) ∨ (v.1 = 2 ∧ v.2 = 0) ∨ (v.1 = 3 ∧ W.live v.2)

def Wd.okE (W : Wd) (e : Int × Int) : Prop := W.live e.1 ∧ (W.th e.1).k = 5 ∧ W.live e.2

structure Wd.ok (W : Wd) : Prop where
  hr : W.roots.length = 12
  rv : ∀ v ∈ W.roots, W.okV v
  tk : ∀ i, W.live i → fitsW (W.th i).k (W.th i).fs.length = true
  tv : ∀ i, W.live i → ∀ v ∈ (W.th i).fs, W.okV v
  gv : ∀ e ∈ W.regs, W.okE e
  wv : ∀ e ∈ W.wait, W.okE e
  hq : W.regs.length + W.wait.length ≤ 24
  m1 : 16 ≤ W.most
  m2 : W.most ≤ 256
  g1 : 0 ≤ W.grow
  g2 : W.grow ≤ 1024
  uy : W.young ≤ W.most
  uo : W.olds ≤ W.grow

/-! Cuts. -/

end Go.Proofs.Ytjifdalflepcoab

namespace Go.Proofs.Ytjifdalflepcoab
set_option linter.unusedVariables false
set_option linter.unusedSimpArgs false

end Go.Proofs.Ytjifdalflepcoab

namespace Go.Proofs.Ytjifdalflepcoab
set_option linter.unusedVariables false
set_option linter.unusedSimpArgs false

/-- Things from a place up to another, without anything between. -/
def Tile (A : Ar) : List Int → Int → Int → Prop
  | [], a, b => a = b
  | p :: l, a, b => p = a ∧ (A.thing p).2.2 = 0 ∧ Tile A l (p + 1 + (A.thing p).2.1) b

theorem Tile.le {A : Ar} : ∀ {l : List Int} {a b : Int}, Tile A l a b → a ≤ b
  | [], a, b, h => by have : a = b := h; omega
  | p :: l, a, b, h => by
    have := Tile.le h.2.2
    have := A.thing_fields p
    have := h.1
    omega

theorem Tile.list {A : Ar} : ∀ {l : List Int} {a b : Int} {n : Nat}, Tile A l a b → (b - a).toNat ≤ n → A.list n a b = l
  | [], a, b, n, h, hn => by
    have : a = b := h
    subst this
    exact Ar.list_end (fun h => by omega)
  | p :: l, a, b, n, h, hn => by
    have hle := Tile.le h.2.2
    have hf := A.thing_fields p
    have he := h.1
    subst he
    obtain ⟨n, rfl⟩ : ∃ m, n = m + 1 := ⟨n - 1, by omega⟩
    rw [Ar.list_step (by omega) h.2.1, Tile.list h.2.2 (by omega)]

theorem Ar.load_store {A : Ar} (h : A.ok) (p q x : Int) : (A.store p x).load q = if q = p ∧ A.inUse p = true then x else A.load q := by
  have hu : ∀ r, (A.store p x).inUse r = A.inUse r := fun r => by
    unfold Ar.inUse Ar.young Ar.old
    rw [A.store_yng, A.store_nur, A.store_grn]
  unfold Ar.load
  rw [hu]
  by_cases hp : A.inUse p = true
  · have hl := h.use_lt hp
    have e : A.store p x = { A with ws := A.ws.set p.toNat x } := by unfold Ar.store; rw [if_pos hp]
    by_cases hq : A.inUse q = true
    · have hlq := h.use_lt hq
      rw [if_pos hq, if_pos hq, e]
      show (A.ws.set p.toNat x).getD q.toNat 0 = _
      simp only [List.getD_eq_getElem?_getD, List.getElem?_set]
      by_cases e2 : q = p
      · subst e2; rw [if_pos rfl, if_pos (by omega), if_pos ⟨rfl, hp⟩]; rfl
      · rw [if_neg (by omega), if_neg (fun h => e2 h.1)]
    · rw [if_neg hq, if_neg hq, if_neg (fun hh => by rw [hh.1] at hq; exact hq hh.2)]
  · have e : A.store p x = A := by unfold Ar.store; rw [if_neg hp]
    rw [e, if_neg (fun hh : q = p ∧ A.inUse p = true => hp hh.2)]

end Go.Proofs.Ytjifdalflepcoab

namespace Go.Proofs.Ytjifdalflepcoab
set_option linter.unusedVariables false
set_option linter.unusedSimpArgs false

end Go.Proofs.Ytjifdalflepcoab

namespace Go.Proofs.Ytjifdalflepcoab
set_option linter.unusedVariables false
set_option linter.unusedSimpArgs false

section
variable {O : Wo} {W : Wd} {φ : Int → Int}

theorem young_iff {A : Ar} {i : Int} : A.young i = true ↔ 0 ≤ i ∧ i < A.yng := by simp [Ar.young]
theorem old_iff {A : Ar} {i : Int} : A.old i = true ↔ (A.nur : Int) ≤ i ∧ i < A.grn := by simp [Ar.old]

/-! What is seen. -/

/-! How many words. -/

/-- The live things that are old, or young. -/
def Wd.idx (W : Wd) (old : Bool) : List Int := ((List.range W.T.length).map (Int.ofNat ·)).filter fun i => !(W.th i).dead && ((W.th i).old == old)

end
end Go.Proofs.Ytjifdalflepcoab

namespace Go.Proofs.Ytjifdalflepcoab
set_option linter.unusedVariables false
set_option linter.unusedSimpArgs false

section
variable {O : Wo} {W : Wd} {φ ψ : Int → Int}

theorem thing_of_load {A B : Ar} {p : Int} (h : B.load p = A.load p) : B.thing p = A.thing p := by unfold Ar.thing; rw [h]

theorem lay_head {l m : List Int} {i : Nat} {x : Int} (h : i + (x :: m).length ≤ l.length) : (lay l i (x :: m)).getD i 0 = x := by
  rw [lay_getD h, if_pos ⟨Nat.le_refl _, by simp⟩]; simp

/-- What a new thing changes. -/
theorem Ar.make_loads {A : Ar} (hA : A.ok) {k f : Int} (h : fitsW k f = true ∧ 1 + f ≤ (A.nur : Int) - A.yng) :
    (∀ q, A.inUse q = true → (A.make k f).2.load q = A.load q) ∧ (A.make k f).2.load A.yng = 16 * f + k ∧ (∀ j : Int, 0 ≤ j → j < f → (A.make k f).2.load (A.yng + 1 + j) = 2) ∧ ((A.make k f).2.yng : Int) = A.yng + (1 + f) ∧
    (A.make k f).2.nur = A.nur ∧ (A.make k f).2.grn = A.grn ∧ (A.make k f).2.ws.length = A.ws.length := by
  have hf := fitsW_spec h.1
  have hl := thingW_length (k := k) hf.2.2.1
  have a1 := hA.h1; have a2 := hA.h2; have a3 := hA.h3
  have hle : A.yng + (thingW k f).length ≤ A.ws.length := by rw [hl]; omega
  rw [Ar.make_yes h]
  have hload : ∀ q : Int, 0 ≤ q → q < A.yng + (1 + f) → Ar.load { A with yng := A.yng + (1 + f).toNat, ws := lay A.ws A.yng (thingW k f) } q = (lay A.ws A.yng (thingW k f)).getD q.toNat 0 := by
    intro q h0 h1
    unfold Ar.load
    rw [if_pos]
    unfold Ar.inUse
    rw [Bool.or_eq_true]
    left
    rw [young_iff]
    refine ⟨h0, ?_⟩
    show q < ((A.yng + (1 + f).toNat : Nat) : Int)
    omega
  refine ⟨fun q hq => ?_, ?_, fun j h0 h1 => ?_, ?_, rfl, rfl, ?_⟩
  · have hu : Ar.inUse { A with yng := A.yng + (1 + f).toNat, ws := lay A.ws A.yng (thingW k f) } q = true := by
      unfold Ar.inUse at *
      rw [Bool.or_eq_true] at *
      rw [young_iff, old_iff] at *
      dsimp only
      omega
    unfold Ar.load
    rw [hu, hq]
    simp only [if_true]
    rw [lay_getD hle, if_neg]
    rw [hl]
    unfold Ar.inUse at hq
    rw [Bool.or_eq_true, young_iff, old_iff] at hq
    omega
  · rw [hload _ (by omega) (by omega)]
    unfold thingW at *
    rw [Int.toNat_natCast]
    exact lay_head hle
  · rw [hload _ (by omega) (by omega), lay_getD hle, if_pos (by rw [hl]; omega)]
    unfold thingW
    rw [show ((A.yng : Int) + 1 + j).toNat - A.yng = j.toNat + 1 by omega, List.getD_cons_succ]
    simp only [List.getD_eq_getElem?_getD]
    rw [List.getElem?_replicate, if_pos (by omega)]; rfl
  · dsimp only; omega
  · dsimp only; exact lay_length hle

theorem partsW_of {k f : Int} (h : fitsW k f = true) : partsW (16 * f + k) = (k, f, 0) := by
  have hf := fitsW_spec h
  unfold partsW
  rw [show (16 * f + k) % 16 = k by omega, show (16 * f + k) / 16 = f by omega, if_pos h]

/-! Fields. -/

/-! What stands beside. -/

end
end Go.Proofs.Ytjifdalflepcoab

namespace Go.Proofs.Ytjifdalflepcoab
open Go.RowKit
set_option linter.unusedVariables false
set_option linter.unusedSimpArgs false

section
variable {w w' : World} {h : WH} {O : Wo}

theorem WoodAt.roots (H : WoodAt w h O) : ∃ g o cap, h.ro = .slice (some ⟨g, o, none⟩) O.rt.length cap ∧ ownB h.ro g ∧ g < w.heap.size ∧ w.cell? ⟨h.p, 3, none⟩ = some (.slice (some ⟨g, o, none⟩) O.rt.length cap) ∧ (∀ k, w.frozen? ⟨g, k, none⟩ = false) ∧
    ∀ k, k < O.rt.length → w.cell? ⟨g, o + k, none⟩ = some (.int .i64 (O.rt.getD k 0)) := by
  obtain ⟨ao, cap, e, hrd, -, -⟩ := H.hr.rd
  have h12 := H.ok.h12
  obtain ⟨g, o, rfl, hg, hc⟩ := hrd (by intro e; have := congrArg List.length e; rw [List.length_map, h12] at this; cases this)
  have hown : ownB h.ro g := by rw [e]; rfl
  obtain ⟨-, cur, hb⟩ := H.hr.own hown
  refine ⟨g, o, cap, e, hown, hg, by have := H.ptrs.2.2.2; rw [e] at this; exact this, fun k => hb.free k, fun k hk => ?_⟩
  rw [hc k (by simpa using hk)]
  simp [List.getD, hk]

theorem WoodAt.setRoot (H : WoodAt w h O) {g o cap k : Nat} {x : Int} (e : h.ro = .slice (some ⟨g, o, none⟩) O.rt.length cap) (hk : k < O.rt.length) (hx : R64 x) :
    WoodAt (w.setCell ⟨g, o + k, none⟩ (.int .i64 x)) h { O with rt := O.rt.set k x } ∧ Keeps (ownB h.ro) w (w.setCell ⟨g, o + k, none⟩ (.int .i64 x)) := by
  have hown : ownB h.ro g := by rw [e]; rfl
  have kk : Keeps (ownB h.ro) w (w.setCell ⟨g, o + k, none⟩ (.int .i64 x)) := (Keeps.refl _ _).setCell (p := ⟨g, o + k, none⟩) (.inl hown) _
  refine ⟨⟨kk.blk H.hp (H.ro_ne H.hp (by decide)), H.ha.keep kk (H.ro_ne H.ha.hp (by decide)) H.ap, H.hc.keep kk (H.ro_ne H.hc.hp (by decide)) (H.ro_ne H.hc.hq (by decide)), H.hs.keep kk (fun b hb => ?_), ?_, H.ap, { H.ok with h12 := by simpa using H.ok.h12, hR := fun y hy => ?_ }⟩, kk⟩
  · obtain ⟨c, T, hc, hT⟩ := H.hs.fp_type hb
    rcases hT with rfl | rfl
    · exact H.ro_ne hc (by decide)
    · exact H.ro_ne hc (by decide)
  · have hs := H.hr
    rw [e] at hs ⊢
    have := hs.set (j := k) (u := .int .i64 x) (by omega)
    show Sl _ _ _ _ (O.rt.set k x).length ((O.rt.set k x).map _)
    rw [List.length_set, List.map_set]
    exact this
  · rcases List.mem_or_eq_of_mem_set hy with h1 | rfl
    · exact H.ok.hR y h1
    · exact hx

theorem WoodTo.setRoot (H : WoodAt w h O) {g o cap k : Nat} {x : Int} (e : h.ro = .slice (some ⟨g, o, none⟩) O.rt.length cap) (hk : k < O.rt.length) (hx : R64 x) : WoodTo w h (w.setCell ⟨g, o + k, none⟩ (.int .i64 x)) { O with rt := O.rt.set k x } :=
  ⟨h, (H.setRoot e hk hx).1, rfl, (H.setRoot e hk hx).2.mono (fun b _ hb => .inr (.inr (.inr (.inr hb)))), fun b hb => .inl hb⟩
end

def wB1 : Wo := { Wo.new 16 8 with ar := ((Ar.new 16 8).make 1 2).2 }
def wB2 : Wo := { wB1 with rt := wB1.rt.set 0 1 }
def wB3 : Wo := (wB2.set 1 1 20).2
theorem wb1 : ((Ar.new 16 8).make 1 2).1 = 0 := by decide +kernel
theorem wb2 : (wB2.set 1 1 20).1 = 0 := by decide +kernel
theorem wb3 : wB3.ar.get 1 1 = (20, 0) := by decide +kernel
theorem wb4 : wB3.view = ([(3, 0), (0, 0), (0, 0), (0, 0), (0, 0), (0, 0), (0, 0), (0, 0), (0, 0), (0, 0), (0, 0), (0, 0)], [(1, [(0, 0), (1, 5)])]) := by decide +kernel

theorem Ref0_c (w : World) : Calls Try.prog 43 #[.int .i64 0] w fun e w' => e = .returned (.int .i64 1) ∧ w = w' := Ref_c 0 w (by decide) (by decide)

set_option maxHeartbeats 4000000 in
set_option maxRecDepth 100000 in
theorem woodBegun_c (w : World) : Calls Try.prog 41 #[] w fun e w' => e = .returned (.bool true) ∧ Keeps (fun _ => False) w w' := by
  go_enter Try.func41, Try.ntmps41
  go_wp2_with fail
  refine (WNew_yes 16 8 _ (by decide +kernel)).mono ?_
  rintro e w1 ⟨h, rfl, H1, k1, o1⟩
  have HA := Lib.hid H1; have HK := Lib.hid k1; have HO := Lib.hid o1
  obtain ⟨g, o, cap, hro, hown, hgl, c3, -, -⟩ := H1.roots
  have e12 : (Wo.new 16 8).rt.length = 12 := rfl
  rw [e12] at c3 hro
  have HRO := Lib.hid hro
  have c0 := H1.ptrs.1; have pl := H1.hp.lt
  clear H1 k1 o1 hro
  go_wp2_with fail
  have hka := (Keeps.refl (fun _ => False) w1).alloc (.cells #[.int .i64 0, .int .i64 0] 26)
  have HA2 := Lib.hid (HA.out.keep hka (fun _ _ h => h)); have HK2 := Lib.hid (HK.out.trans hka)
  generalize w1.alloc (.cells #[.int .i64 0, .int .i64 0] 26) = w2 at *
  clear c0 c3 pl hka HA HK hgl hown
  have okk : R64 2 := by unfold R64; decide
  refine (Make_c 1 2 _ HA2.out.ha okk).mono ?_
  rintro e w3 ⟨rfl, ht⟩
  have ht2 := HA2.out.arenaTo ht (by decide +kernel)
  have e0 : ((Wo.new 16 8).ar.make 1 2).1 = 0 := wb1
  rw [e0]
  obtain ⟨h3, H3, e3, k3, o3⟩ := ht2
  have H3' : WoodAt w3 h3 wB1 := H3
  have HA3 := Lib.hid H3'; have HK3 := Lib.hid (HK2.out.then k3 (fun b hb => .inr (HO.out b hb)))
  have HO3 : Hid (∀ b, h3.Own b → w.heap.size ≤ b) := fun b hb => by
    rcases o3 b hb with h | h
    · exact HO.out b h
    · have := HK2.out.size; omega
  rw [← e3]
  clear ht H3 H3' k3 o3 e3 HRO
  obtain ⟨g, o, cap, hro, hown, hgl, c3, fz, rc⟩ := HA3.out.roots
  have e12 : wB1.rt.length = 12 := by decide +kernel
  rw [e12] at c3 hro rc
  have HRO := Lib.hid hro
  have r0 := rc 0 (by decide)
  rw [Nat.add_zero] at r0
  have pl := HA3.out.hp.lt
  have f0 := fz o
  clear rc hro fz
  go_wp2_with fail
  refine wp_region_ro (.free 0 (.free 1 (.free 2 (.free 4 (.pure 3 (.run 5 (.free 6 (.run 7 (.swi [] (.fin)))))))))) [7] (fun w' => w'.cell? ⟨h3.p, 3, none⟩ = some (.slice (some ⟨g, o, none⟩) 12 cap)) (by kernel_rfl) (by kernel_rfl) c3 ?_
  first | (refine wpRO_free rfl rfl _ (fun w' => by go_simp; exact Gives.mk _ _) (fun K hK => ?_); go_simp; refine hK _ ?_; clear hK K) | (refine wpRO_skipF rfl rfl (fun K hK => ?_); go_simp; refine hK _ ?_; clear hK K)
  first | (refine wpRO_free rfl rfl _ (fun w' => by go_simp; exact Gives.mk _ _) (fun K hK => ?_); go_simp; refine hK _ ?_; clear hK K) | (refine wpRO_skipF rfl rfl (fun K hK => ?_); go_simp; refine hK _ ?_; clear hK K)
  first | (refine wpRO_free rfl rfl _ (fun w' => by go_simp; exact Gives.mk _ _) (fun K hK => ?_); go_simp; refine hK _ ?_; clear hK K) | (refine wpRO_skipF rfl rfl (fun K hK => ?_); go_simp; refine hK _ ?_; clear hK K)
  first | (refine wpRO_free rfl rfl _ (fun w' => by go_simp; exact Gives.mk _ _) (fun K hK => ?_); go_simp; refine hK _ ?_; clear hK K) | (refine wpRO_skipF rfl rfl (fun K hK => ?_); go_simp; refine hK _ ?_; clear hK K)
  first | (refine wpRO_pure rfl rfl _ (fun w' hG => by obtain g0 := hG; exact gives_agg2 rfl (by decide +kernel) rfl (by assumption) (by assumption)) (fun K hK => ?_); go_simp; refine hK _ ?_; clear hK K) | (refine wpRO_pure rfl rfl _ (fun w' hG => by obtain g0 := hG; go_simp; exact Gives.mk _ _) (fun K hK => ?_); go_simp; refine hK _ ?_; clear hK K) | (refine wpRO_skip rfl rfl (fun K hK => ?_); go_simp; refine hK _ ?_; clear hK K)
  refine wpRO_run rfl rfl (fun K hK => ?_); unfold gRun; go_simp
  refine (Ref0_c _).mono ?_
  rintro e w4 ⟨rfl, rfl⟩
  refine hK _ _ (fun _ => c3) ?_
  clear hK K
  first | (refine wpRO_free rfl rfl _ (fun w' => by go_simp; exact Gives.mk _ _) (fun K hK => ?_); go_simp; refine hK _ ?_; clear hK K) | (refine wpRO_skipF rfl rfl (fun K hK => ?_); go_simp; refine hK _ ?_; clear hK K)
  refine wpRO_chg rfl rfl rfl (fun K hK => ?_); unfold gRun; go_simp
  refine hK _ _ ?_
  clear hK K
  refine wpRO_swi (fun _ => True) trivial (wpRO_fin ?_)
  have ht4 := WoodTo.setRoot (k := 0) (x := 1) HA3.out HRO.out (by decide) (by unfold R64; decide)
  rw [Nat.add_zero] at ht4
  obtain ⟨h4, H4, e4, k4, o4⟩ := ht4
  rw [← e4]
  have HA4 : Hid (WoodAt (w3.setCell ⟨g, o, none⟩ (.int .i64 1)).drew h4 wB2) := H4.keep ((Keeps.refl (fun _ => False) _).drew) (fun _ _ h => h)
  have HK4 := Lib.hid ((HK3.out.then k4 (fun b hb => .inr (HO3.out b hb))).drew)
  have HO4 : Hid (∀ b, h4.Own b → w.heap.size ≤ b) := fun b hb => by
    rcases o4 b hb with h | h
    · exact HO3.out b h
    · have := HK3.out.size; omega
  clear H4 k4 o4 e4 r0 f0 hgl hown c3 pl HK3 HO3 HA3 HRO e12
  generalize (w3.setCell ⟨g, o, none⟩ (.int .i64 1)).drew = w5 at *
  go_wp2_with fail
  refine (Ref0_c _).mono ?_
  rintro e w6 ⟨rfl, rfl⟩
  go_wp2_with fail
  refine (WSet_c 1 1 20 HA4.out (by unfold R64; decide)).mono ?_
  rintro e w6 ⟨rfl, ht⟩
  rw [wb2]
  obtain ⟨h6, H6, e6, k6, o6⟩ := ht
  have HA6 : Hid (WoodAt w6 h6 wB3) := H6
  have HK6 := Lib.hid (HK4.out.then k6 (fun b hb => .inr (HO4.out b hb)))
  rw [← e6]
  clear H6 k6 o6 e6 HA4 HK4 HO4
  go_wp2_with fail
  refine (Ref0_c _).mono ?_
  rintro e w7 ⟨rfl, rfl⟩
  go_wp2_with fail
  refine (Get_c 1 1 HA6.out).mono ?_
  rintro e w7 ⟨rfl, rfl⟩
  rw [wb3]
  dsimp only
  go_wp2_with fail
  refine (View_c _ HA6.out).mono ?_
  rintro e w7 ⟨v, rfl, hv, hk7⟩
  rw [wb4] at hv
  have HK7 := Lib.hid (HK6.out.trans hk7)
  obtain ⟨ro, rc, no, nc, F, rfl, hs1, hn, -⟩ := hv
  obtain ⟨no', nc', e', N⟩ := hn.nth
  cases e'
  obtain ⟨g1, o1, ao, ac, rfl, hgl, x0, x1, rd1, -⟩ := N 0 (by decide)
  obtain ⟨_, _, e', rd0, -, -⟩ := hs1.rd
  cases e'
  obtain ⟨g2, o2, rfl, hg2, y0, y1⟩ := rd0.val 0 (by decide)
  obtain ⟨g3, o3, rfl, hg3, z0, z1⟩ := rd1.val 1 (by decide)
  simp only [List.getD_cons_zero, List.getD_cons_succ, Nat.zero_mul, Nat.add_zero, Nat.one_mul] at x0 x1 y0 y1 z0 z1
  clear hs1 hn N rd1 rd0 hk7
  go_wp2_with fail
  go_ret
  exact ⟨rfl, HK7.out.alloc _⟩

end Go.Proofs.Ytjifdalflepcoab

namespace Go.Proofs.Ytjifdalflepcoab
open Go.RowKit
set_option linter.unusedVariables false
set_option linter.unusedSimpArgs false

/-- Of a list the values from number i on, those that p tells as u has them. -/
def overL (p : Nat → Bool) (u : Nat → Value) : Nat → List Value → List Value
  | _, [] => []
  | i, v :: l => (bif p i then u i else v) :: overL p u (i + 1) l

def overA (a : Act) (p : Nat → Bool) (u : Nat → Value) : Act := { a with tmps := (overL p u 0 a.tmps.toList).toArray }

/-- The slots of a frame. -/
def slotsOf (a : Act) (i : Nat) : Value := a.tmps.toList.getD i undef

/-- A frame like a, but for the slots that p tells; R holds of it. -/
def Meets (a : Act) (p : Nat → Bool) (R : (Nat → Value) → World → Prop) (a' : Act) (w' : World) : Prop := a' = overA a p (slotsOf a') ∧ R (slotsOf a') w'

def Again (a : Act) (p : Nat → Bool) (R : (Nat → Value) → World → Prop) (mu : (Nat → Value) → World → Nat) (n : Nat) (a' : Act) (w' : World) : Prop := Meets a p R a' w' ∧ mu (slotsOf a') w' < n

variable {P : Program} {a : Act} {w : World} {c : Code} {Q : Exit → Act → World → Prop}

theorem overL_self (p : Nat → Bool) (u : Nat → Value) : ∀ (l : List Value) (i : Nat), (∀ j, j < l.length → u (i + j) = l.getD j undef) → overL p u i l = l
  | [], i, _ => rfl
  | v :: l, i, h => by
    have h0 := h 0 (by simp)
    simp only [Nat.add_zero, List.getD_cons_zero] at h0
    have ih := overL_self p u l (i + 1) (fun j hj => by
      have := h (j + 1) (by simp; omega)
      rw [show i + (j + 1) = i + 1 + j by omega, List.getD_cons_succ] at this
      exact this)
    simp only [overL, ih, h0]
    cases p i <;> rfl

theorem overA_self (a : Act) (p : Nat → Bool) : a = overA a p (slotsOf a) := by
  cases a with
  | mk t d =>
    unfold overA slotsOf
    dsimp only
    rw [overL_self p _ t.toList 0 (fun j hj => by rw [Nat.zero_add])]

theorem wp_loop_over (p : Nat → Bool) (R : (Nat → Value) → World → Prop) (mu : (Nat → Value) → World → Nat) (h0 : R (slotsOf a) w)
    (round : ∀ (u : Nat → Value) (w' : World), R (slotsOf (overA a p u)) w' → ∀ K : Act → World → Prop, (∀ a'' w'', Again a p R mu (mu (slotsOf (overA a p u)) w') a'' w'' → K a'' w'') → c.wp P (Exit.then K Q) (overA a p u) w') :
    (Code.loop c).wp P Q a w := by
  refine wp_loop (Meets a p R) (fun a' w' => mu (slotsOf a') w') ⟨overA_self a p, h0⟩ ?_
  rintro a' w' ⟨e, hR⟩
  obtain ⟨u, hu⟩ : ∃ u, u = slotsOf a' := ⟨_, rfl⟩
  rw [← hu] at e
  subst e
  exact round u w' hR _ (fun a'' w'' h => h)

theorem wp_cut_over {K : Act → World → Prop} (p : Nat → Bool) (R : (Nat → Value) → World → Prop)
    (first : ∀ K' : Act → World → Prop, (∀ a'' w'', Meets a p R a'' w'' → K' a'' w'') → c.wp P (Exit.then K' Q) a w)
    (rest : ∀ (u : Nat → Value) (w' : World), R (slotsOf (overA a p u)) w' → K (overA a p u) w') : c.wp P (Exit.then K Q) a w := by
  refine wp_mono (first (Meets a p R) (fun _ _ h => h)) ?_
  intro e a' w' hq
  cases e with
  | normal =>
    obtain ⟨e, hR⟩ := hq
    obtain ⟨u, hu⟩ : ∃ u, u = slotsOf a' := ⟨_, rfl⟩
    rw [← hu] at e
    subst e
    exact rest u w' hR
  | exit id => exact hq
  | goto l => exact hq
  | ret => exact hq
  | panic ch => exact hq
  | outgrown => exact hq

end Go.Proofs.Ytjifdalflepcoab

namespace Go.Proofs.Ytjifdalflepcoab
set_option linter.unusedVariables false
set_option linter.unusedSimpArgs false

section
variable {W : Wd}

/-- All that is live. -/
def Wd.all (W : Wd) : List Int := W.idx false ++ W.idx true

end
end Go.Proofs.Ytjifdalflepcoab

namespace Go.Proofs.Ytjifdalflepcoab
open Go.RowKit
set_option linter.unusedVariables false
set_option linter.unusedSimpArgs false

/-- A number of 64 bits, read as one without a sign. -/
def unS (x : Int) : Nat := (x % 18446744073709551616).toNat

theorem unS_wrap (x : Int) : IntKind.u64.wrap x = (unS x : Int) := by
  unfold unS
  rw [Int.toNat_of_nonneg (Int.emod_nonneg _ (by decide))]
  rfl

/-- The root of a number. -/
def rootN (x : Int) : Nat := unS x % 12

theorem rootN_lt (x : Int) : rootN x < 12 := Nat.mod_lt _ (by decide)
theorem rootN_tmod (x : Int) : ((unS x : Int)).tmod 12 = (rootN x : Int) := by
  rw [Int.tmod_eq_emod_of_nonneg (by omega)]; rfl
theorem rootN_mod (x : Int) : ((unS x : Int)) % 12 = (rootN x : Int) := rfl
theorem rootN_wrap (x : Int) : IntKind.i64.wrap (rootN x : Int) = (rootN x : Int) := IntWalk.i64_in _ (by have := rootN_lt x; omega)

theorem meas_lt {m k : Nat} {x y : Value} (hx : x = .int .i64 ((k + 1 : Nat) : Int)) (hy : y = .int .i64 (k : Int)) (h : k < m) : m - (intOf x).toNat < m - (intOf y).toNat := by
  subst hx; subst hy; simp [intOf]; omega

/-- The wood of a statement: all its blocks are new. -/
structure WM (w0 w : World) (p : Nat) (h : WH) (O : Wo) : Prop where
  H : WoodAt w h O
  e : h.p = p
  K : Keeps (fun _ => False) w0 w
  own : ∀ k, h.Own k → w0.heap.size ≤ k

section
variable {w0 w w' : World} {p : Nat} {h : WH} {O O' : Wo}

theorem WM.same (M : WM w0 w p h O) (k : Keeps (fun _ => False) w w') : WM w0 w' p h O := ⟨M.H.keep k (fun _ _ h => h), M.e, M.K.trans k, M.own⟩

end

end Go.Proofs.Ytjifdalflepcoab

namespace Go.Proofs.Ytjifdalflepcoab
open Go.RowKit
set_option linter.unusedVariables false
set_option linter.unusedSimpArgs false

set_option maxHeartbeats 2000000 in
theorem Fits_c (k f : Int) (w : World) (h1 : -9223372036854775808 ≤ f) (h2 : f ≤ 9223372036854775807) :
    Calls Try.prog 51 #[.int .i64 k, .int .i64 f] w fun e w' => e = .returned (.int .i64 (headW k f).2) ∧ w = w' := by
  by_cases hk : k = 1 ∨ k = 2 ∨ k = 3 ∨ k = 4 ∨ k = 5
  · rcases hk with rfl | rfl | rfl | rfl | rfl
    · by_cases c : f = 2
      · subst c
        have HE := Lib.hid (headW_yes (k := 1) (f := 2) (by omega) (by decide))
        go_enter Try.func51, Try.ntmps51
        go_wp2
        go_ret
        exact ⟨by rw [HE.out]; rfl, rfl⟩
      · have hne : (f != 2) = true := by simpa using c
        have HE := Lib.hid (headW_no (k := 1) (f := f) (by omega) (by rw [fitsW_2 (by omega)]; simpa using c)); clear c
        go_enter Try.func51, Try.ntmps51
        go_wp2
        go_ret
        exact ⟨by rw [HE.out]; rfl, rfl⟩
    · by_cases c1 : f < 0
      · have HE := Lib.hid (headW_no (k := 2) (f := f) (by omega) (by rw [fitsW_vec]; simp; omega))
        go_enter Try.func51, Try.ntmps51
        go_wp2
        go_ret
        exact ⟨by rw [HE.out]; rfl, rfl⟩
      by_cases c2 : 12 < f
      · have HE := Lib.hid (headW_no (k := 2) (f := f) (by omega) (by rw [fitsW_vec]; simp; omega))
        go_enter Try.func51, Try.ntmps51
        go_wp2
        go_ret
        exact ⟨by rw [HE.out]; rfl, rfl⟩
      have HE := Lib.hid (headW_yes (k := 2) (f := f) (by omega) (by rw [fitsW_vec]; simp; omega))
      go_enter Try.func51, Try.ntmps51
      go_wp2
      go_ret
      exact ⟨by rw [HE.out]; rfl, rfl⟩
    · by_cases c : f = 2
      · subst c
        have HE := Lib.hid (headW_yes (k := 3) (f := 2) (by omega) (by decide))
        go_enter Try.func51, Try.ntmps51
        go_wp2
        go_ret
        exact ⟨by rw [HE.out]; rfl, rfl⟩
      · have hne : (f != 2) = true := by simpa using c
        have HE := Lib.hid (headW_no (k := 3) (f := f) (by omega) (by rw [fitsW_2 (by omega)]; simpa using c)); clear c
        go_enter Try.func51, Try.ntmps51
        go_wp2
        go_ret
        exact ⟨by rw [HE.out]; rfl, rfl⟩
    · by_cases c : f = 2
      · subst c
        have HE := Lib.hid (headW_yes (k := 4) (f := 2) (by omega) (by decide))
        go_enter Try.func51, Try.ntmps51
        go_wp2
        go_ret
        exact ⟨by rw [HE.out]; rfl, rfl⟩
      · have hne : (f != 2) = true := by simpa using c
        have HE := Lib.hid (headW_no (k := 4) (f := f) (by omega) (by rw [fitsW_2 (by omega)]; simpa using c)); clear c
        go_enter Try.func51, Try.ntmps51
        go_wp2
        go_ret
        exact ⟨by rw [HE.out]; rfl, rfl⟩
    · by_cases c : f = 0
      · subst c
        have HE := Lib.hid (headW_yes (k := 5) (f := 0) (by omega) (by decide))
        go_enter Try.func51, Try.ntmps51
        go_wp2
        go_ret
        exact ⟨by rw [HE.out]; rfl, rfl⟩
      · have hne : (f != 0) = true := by simpa using c
        have HE := Lib.hid (headW_no (k := 5) (f := f) (by omega) (by rw [fitsW_5]; simpa using c)); clear c
        go_enter Try.func51, Try.ntmps51
        go_wp2
        go_ret
        exact ⟨by rw [HE.out]; rfl, rfl⟩
  · have HE := Lib.hid (headW_kind (k := k) (f := f) (by omega))
    have e1 : (k == 1) = false := by simp; omega
    have e2 : (k == 2) = false := by simp; omega
    have e3 : (k == 3) = false := by simp; omega
    have e4 : (k == 4) = false := by simp; omega
    have e5 : (k == 5) = false := by simp; omega
    clear hk
    go_enter Try.func51, Try.ntmps51
    go_wp2
    go_ret
    exact ⟨by rw [HE.out]; rfl, rfl⟩

set_option maxHeartbeats 1000000 in
theorem HeadOf_c (k f : Int) (w : World) (h1 : -9223372036854775808 ≤ f) (h2 : f ≤ 9223372036854775807) :
    Calls Try.prog 82 #[.int .i64 k, .int .i64 f] w fun e w' => e = .returned (.tuple #[.int .i64 (headW k f).1, .int .i64 (headW k f).2]) ∧ w = w' := by
  cases hf : fitsW k f
  · have HC := Lib.hid (headW_code hf).1
    have hc := (headW_code hf).2
    have HF := Lib.hid hf; clear hf
    go_enter Try.func82, Try.ntmps82
    go_wp2_with fail
    refine (Fits_c k f _ h1 h2).mono ?_
    rintro e w' ⟨rfl, rfl⟩
    go_wp2_with fail
    go_ret2
    exact ⟨by rw [HC.out]; rfl, rfl⟩
  · have HC := Lib.hid (headW_fits hf)
    have hb := fitsW_spec hf
    obtain ⟨b1, b2, b3, b4⟩ := hb
    have HF := Lib.hid hf; clear hf
    go_enter Try.func82, Try.ntmps82
    go_wp2_with fail
    refine (Fits_c k f _ h1 h2).mono ?_
    rintro e w' ⟨rfl, rfl⟩
    rw [HC.out]
    go_wp2_with fail
    go_ret2
    exact ⟨by rw [HC.out]; rfl, rfl⟩

end Go.Proofs.Ytjifdalflepcoab

namespace Go.Proofs.Ytjifdalflepcoab
open Go.RowKit
set_option linter.unusedVariables false
set_option linter.unusedSimpArgs false

/-- No kind below k, and at k no number below n, has this first word. -/
def NoneW (h : Int) (k n : Nat) : Prop := ∀ (i j : Nat), (i < k ∨ i = k ∧ j < n) → fitsW i j = true → 16 * (j : Int) + i ≠ h

theorem NoneW.all {h : Int} (hn : NoneW h 6 0) : partsW h = (0, 0, 7) := by
  apply partsW_no
  cases hf : fitsW (h % 16) (h / 16)
  · rfl
  · have hb := fitsW_spec hf
    have := hn (h % 16).toNat (h / 16).toNat (.inl (by omega)) (by
      rw [Int.toNat_of_nonneg (by omega), Int.toNat_of_nonneg (by omega)]; exact hf)
    exfalso; apply this
    rw [Int.toNat_of_nonneg (by omega), Int.toNat_of_nonneg (by omega)]; omega

theorem NoneW.next {h : Int} {k n : Nat} (hn : NoneW h k n) (hx : fitsW k n = true → 16 * (n : Int) + k ≠ h) : NoneW h k (n + 1) := by
  intro i j hij hf
  by_cases e : i = k ∧ j = n
  · obtain ⟨rfl, rfl⟩ := e; exact hx hf
  · exact hn i j (by omega) hf

theorem NoneW.row {h : Int} {k : Nat} (hn : NoneW h k 13) : NoneW h (k + 1) 0 := by
  intro i j hij hf
  have := fitsW_spec hf
  exact hn i j (by omega) hf

theorem found {h : Int} {k n : Int} (hf : fitsW k n = true) (e : 16 * n + k = h) : partsW h = (k, n, 0) := by
  have hb := fitsW_spec hf
  have h1 : h % 16 = k := by omega
  have h2 : h / 16 = n := by omega
  rw [partsW_yes (by rw [h1, h2]; exact hf), h1, h2]

set_option maxHeartbeats 2000000 in
theorem PartsOf_c (h : Int) (w : World) :
    Calls Try.prog 85 #[.int .i64 h] w fun e w' => e = .returned (.tuple #[.int .i64 (partsW h).1, .int .i64 (partsW h).2.1, .int .i64 (partsW h).2.2]) ∧ w = w' := by
  go_enter Try.func85, Try.ntmps85
  go_wp2_with fail
  go_loop [5] (fun i => ∃ k : Nat, 1 ≤ k ∧ k ≤ 6 ∧ i = .int .i64 k ∧ NoneW h k 0) (fun i => 6 - (intOf i).toNat)
  case atStart => exact ⟨1, by omega, by omega, rfl, by intro i j hij hf; have := fitsW_spec hf; omega⟩
  case round =>
    obtain ⟨k, hk1, hk, rfl, hnone⟩ := hrel
    have HN := Lib.hid hnone; clear hnone
    by_cases hlt : k ≤ 5
    · go_wp2_with fail
      go_loop [6] (fun i => ∃ n : Nat, n ≤ 13 ∧ i = .int .i64 n ∧ NoneW h k n) (fun i => 13 - (intOf i).toNat)
      case atStart => exact ⟨0, by omega, rfl, HN.out⟩
      case round =>
        obtain ⟨n, hn, rfl, hno⟩ := hrel
        have HO := Lib.hid hno; clear hno
        by_cases hlt2 : n ≤ 12
        · cases hf : fitsW k n
          · have hc := (headW_code hf).2
            have hc' : ((headW k n).2 == 0) = false := by simpa using hc
            clear hc
            have HF := Lib.hid hf; clear hf
            go_wp2_with fail
            refine (HeadOf_c k n _ (by omega) (by omega)).mono ?_
            rintro e w' ⟨rfl, rfl⟩
            go_wp2
            go_round
            case rel => exact ⟨n + 1, by omega, by go_num, HO.out.next (by rw [HF.out]; intro h; cases h)⟩
            case measure => simp [intOf]; omega
          · have HC := Lib.hid (headW_fits hf)
            have HF := Lib.hid hf; clear hf
            by_cases e : 16 * (n : Int) + k = h
            · have he : (16 * (n : Int) + k == h) = true := by simpa using e
              have HE := Lib.hid (found HF.out e); clear e
              go_wp2_with fail
              refine (HeadOf_c k n _ (by omega) (by omega)).mono ?_
              rintro e w' ⟨rfl, rfl⟩
              rw [HC.out]
              go_wp2
              go_ret3
              exact ⟨ret_three HE.out, rfl⟩
            · have he : (16 * (n : Int) + k == h) = false := by simpa using e
              have HE := Lib.hid e; clear e
              go_wp2_with fail
              refine (HeadOf_c k n _ (by omega) (by omega)).mono ?_
              rintro e w' ⟨rfl, rfl⟩
              rw [HC.out]
              go_wp2
              go_round
              case rel => exact ⟨n + 1, by omega, by go_num, HO.out.next (fun _ => HE.out)⟩
              case measure => simp [intOf]; omega
        · obtain rfl : n = 13 := by omega
          go_wp2
          go_round
          case rel => exact ⟨k + 1, by omega, by omega, by go_num, HO.out.row⟩
          case measure => simp [intOf]; omega
    · obtain rfl : k = 6 := by omega
      have HE := Lib.hid HN.out.all
      go_wp2
      go_ret3
      exact ⟨ret_three HE.out, rfl⟩

end Go.Proofs.Ytjifdalflepcoab

namespace Go.Proofs.Ytjifdalflepcoab
open Go.RowKit
set_option linter.unusedVariables false
set_option linter.unusedSimpArgs false

/-- At block p lies a Room, its words at block g. -/
structure RoomAt (w : World) (p g : Nat) (A : Ar) : Prop where
  hp : Blk w p [.slice (some ⟨g, 0, none⟩) A.ws.length A.ws.length, .int .i64 A.nur, .int .i64 A.yng, .int .i64 ((A.grn - A.nur : Nat) : Int)] 44
  hg : Blk w g (A.ws.map (Value.int .i64)) 2
  ok : A.ok

theorem RoomAt.ne {w : World} {p g : Nat} {A : Ar} (h : RoomAt w p g A) : p ≠ g := h.hp.ne h.hg (by decide)

theorem RoomAt.keep {w w' : World} {p g : Nat} {A : Ar} {S : Nat → Prop} (h : RoomAt w p g A) (k : Keeps S w w') (h1 : ¬ S p) (h2 : ¬ S g) : RoomAt w' p g A :=
  ⟨k.blk h.hp h1, k.blk h.hg h2, h.ok⟩

theorem RoomAt.cells {w : World} {p g : Nat} {A : Ar} (h : RoomAt w p g A) :
    w.cell? ⟨p, 0, none⟩ = some (.slice (some ⟨g, 0, none⟩) A.ws.length A.ws.length) ∧ w.cell? ⟨p, 1, none⟩ = some (.int .i64 A.nur) ∧ w.cell? ⟨p, 2, none⟩ = some (.int .i64 A.yng) ∧ w.cell? ⟨p, 3, none⟩ = some (.int .i64 ((A.grn - A.nur : Nat) : Int)) :=
  ⟨h.hp.cell 0, h.hp.cell 1, h.hp.cell 2, h.hp.cell 3⟩

theorem RoomAt.word {w : World} {p g : Nat} {A : Ar} (h : RoomAt w p g A) (i : Nat) (hi : i < A.ws.length) : w.cell? ⟨g, i, none⟩ = some (.int .i64 (A.ws.getD i 0)) := by
  rw [h.hg.cell i, List.getElem?_map, List.getElem?_eq_getElem hi]
  simp [List.getD, hi]

structure RoomTo (w : World) (p g : Nat) (w' : World) (A : Ar) : Prop where
  at_ : RoomAt w' p g A
  k : Keeps (fun b => b = p ∨ b = g) w w'

section
variable {p g : Nat} {A : Ar}

set_option maxHeartbeats 1000000 in
set_option maxRecDepth 100000 in
theorem IsYoung_c (i : Int) (w : World) (h : RoomAt w p g A) :
    Calls Try.prog 22 #[.pointer (some ⟨p, 0, none⟩), .int .i64 i] w fun e w' => e = .returned (.bool (A.young i)) ∧ w = w' := by
  obtain ⟨c0, c1, c2, c3⟩ := h.cells
  have pl := h.hp.lt
  have HY : Hid (A.young i = (decide (0 ≤ i) && decide (i < A.yng))) := rfl
  clear h c0 c1 c3
  by_cases hi : 0 ≤ i
  · have hd : decide (0 ≤ i) = true := by simpa using hi
    have HX := Lib.hid (show A.young i = decide (i < (A.yng : Int)) by rw [HY.out, hd]; rfl)
    clear HY
    go_enter Try.func22, Try.ntmps22
    go_wp2_with fail
    go_ret
    exact ⟨ret_bool HX.out.symm, rfl⟩
  · have hd : decide (0 ≤ i) = false := by simpa using hi
    have HX := Lib.hid (show A.young i = false by rw [HY.out, hd]; rfl)
    clear HY
    go_enter Try.func22, Try.ntmps22
    go_wp2_with fail
    go_ret
    exact ⟨ret_bool HX.out.symm, rfl⟩

set_option maxHeartbeats 1000000 in
set_option maxRecDepth 100000 in
theorem IsOld_c (i : Int) (w : World) (h : RoomAt w p g A) (hi64 : R64 i) :
    Calls Try.prog 23 #[.pointer (some ⟨p, 0, none⟩), .int .i64 i] w fun e w' => e = .returned (.bool (A.old i)) ∧ Keeps (fun _ => False) w w' := by
  obtain ⟨c0, c1, c2, c3⟩ := h.cells
  have pl := h.hp.lt
  have o1 := h.ok.h1; have o2 := h.ok.h2; have o3 := h.ok.h3; have o4 := h.ok.h4
  have HY : Hid (A.old i = (decide ((A.nur : Int) ≤ i) && decide (i < A.grn))) := rfl
  clear h c0 c2
  by_cases hi : (A.nur : Int) ≤ i
  · have hd : decide ((A.nur : Int) ≤ i) = true := by simpa using hi
    have hw : IntKind.i64.wrap (i - A.nur) = i - A.nur := IntWalk.i64_in _ (by have := hi64.2; omega)
    have HX := Lib.hid (show A.old i = decide (i - A.nur < ((A.grn - A.nur : Nat) : Int)) by
      rw [HY.out, hd, Bool.true_and]
      exact decide_eq_decide.2 (by omega))
    clear HY hi64
    go_enter Try.func23, Try.ntmps23
    go_wp2_with fail
    refine wp_region_ro (.free 0 (.free 1 (.free 2 (.free 3 (.pure 4 (.free 5 (.free 6 (.free 7 (.free 8 (.free 9 (.free 10 (.free 13 (.free 14 (.free 15 (.pure 11 (.free 12 (.pure 16 (.free 17 (.free 18 (.free 19 (.fin))))))))))))))))))))) [] (fun w' => w'.cell? ⟨p, 1, none⟩ = some (.int .i64 A.nur) ∧ w'.cell? ⟨p, 3, none⟩ = some (.int .i64 ((A.grn - A.nur : Nat) : Int))) (by kernel_rfl) (by kernel_rfl) ⟨c1, c3⟩ ?_
    first | (refine wpRO_free rfl rfl _ (fun w' => by go_simp; exact Gives.mk _ _) (fun K hK => ?_); go_simp; refine hK _ ?_; clear hK K) | (refine wpRO_skipF rfl rfl (fun K hK => ?_); go_simp; refine hK _ ?_; clear hK K)
    first | (refine wpRO_free rfl rfl _ (fun w' => by go_simp; exact Gives.mk _ _) (fun K hK => ?_); go_simp; refine hK _ ?_; clear hK K) | (refine wpRO_skipF rfl rfl (fun K hK => ?_); go_simp; refine hK _ ?_; clear hK K)
    first | (refine wpRO_free rfl rfl _ (fun w' => by go_simp; exact Gives.mk _ _) (fun K hK => ?_); go_simp; refine hK _ ?_; clear hK K) | (refine wpRO_skipF rfl rfl (fun K hK => ?_); go_simp; refine hK _ ?_; clear hK K)
    first | (refine wpRO_free rfl rfl _ (fun w' => by go_simp; exact Gives.mk _ _) (fun K hK => ?_); go_simp; refine hK _ ?_; clear hK K) | (refine wpRO_skipF rfl rfl (fun K hK => ?_); go_simp; refine hK _ ?_; clear hK K)
    first | (refine wpRO_pure rfl rfl _ (fun w' hG => by obtain ⟨g0, g1⟩ := hG; exact gives_agg2 rfl (by decide +kernel) rfl (by assumption) (by assumption)) (fun K hK => ?_); go_simp; refine hK _ ?_; clear hK K) | (refine wpRO_pure rfl rfl _ (fun w' hG => by obtain ⟨g0, g1⟩ := hG; go_simp; exact Gives.mk _ _) (fun K hK => ?_); go_simp; refine hK _ ?_; clear hK K) | (refine wpRO_skip rfl rfl (fun K hK => ?_); go_simp; refine hK _ ?_; clear hK K)
    first | (refine wpRO_free rfl rfl _ (fun w' => by go_simp; exact Gives.mk _ _) (fun K hK => ?_); go_simp; refine hK _ ?_; clear hK K) | (refine wpRO_skipF rfl rfl (fun K hK => ?_); go_simp; refine hK _ ?_; clear hK K)
    first | (refine wpRO_free rfl rfl _ (fun w' => by go_simp; exact Gives.mk _ _) (fun K hK => ?_); go_simp; refine hK _ ?_; clear hK K) | (refine wpRO_skipF rfl rfl (fun K hK => ?_); go_simp; refine hK _ ?_; clear hK K)
    first | (refine wpRO_free rfl rfl _ (fun w' => by go_simp; exact Gives.mk _ _) (fun K hK => ?_); go_simp; refine hK _ ?_; clear hK K) | (refine wpRO_skipF rfl rfl (fun K hK => ?_); go_simp; refine hK _ ?_; clear hK K)
    first | (refine wpRO_free rfl rfl _ (fun w' => by go_simp; exact Gives.mk _ _) (fun K hK => ?_); go_simp; refine hK _ ?_; clear hK K) | (refine wpRO_skipF rfl rfl (fun K hK => ?_); go_simp; refine hK _ ?_; clear hK K)
    first | (refine wpRO_free rfl rfl _ (fun w' => by go_simp; exact Gives.mk _ _) (fun K hK => ?_); go_simp; refine hK _ ?_; clear hK K) | (refine wpRO_skipF rfl rfl (fun K hK => ?_); go_simp; refine hK _ ?_; clear hK K)
    first | (refine wpRO_free rfl rfl _ (fun w' => by go_simp; exact Gives.mk _ _) (fun K hK => ?_); go_simp; refine hK _ ?_; clear hK K) | (refine wpRO_skipF rfl rfl (fun K hK => ?_); go_simp; refine hK _ ?_; clear hK K)
    first | (refine wpRO_free rfl rfl _ (fun w' => by go_simp; exact Gives.mk _ _) (fun K hK => ?_); go_simp; refine hK _ ?_; clear hK K) | (refine wpRO_skipF rfl rfl (fun K hK => ?_); go_simp; refine hK _ ?_; clear hK K)
    first | (refine wpRO_free rfl rfl _ (fun w' => by go_simp; exact Gives.mk _ _) (fun K hK => ?_); go_simp; refine hK _ ?_; clear hK K) | (refine wpRO_skipF rfl rfl (fun K hK => ?_); go_simp; refine hK _ ?_; clear hK K)
    first | (refine wpRO_free rfl rfl _ (fun w' => by go_simp; exact Gives.mk _ _) (fun K hK => ?_); go_simp; refine hK _ ?_; clear hK K) | (refine wpRO_skipF rfl rfl (fun K hK => ?_); go_simp; refine hK _ ?_; clear hK K)
    first | (refine wpRO_pure rfl rfl _ (fun w' hG => by obtain ⟨g0, g1⟩ := hG; exact gives_agg2 rfl (by decide +kernel) rfl (by assumption) (by assumption)) (fun K hK => ?_); go_simp; refine hK _ ?_; clear hK K) | (refine wpRO_pure rfl rfl _ (fun w' hG => by obtain ⟨g0, g1⟩ := hG; go_simp; exact Gives.mk _ _) (fun K hK => ?_); go_simp; refine hK _ ?_; clear hK K) | (refine wpRO_skip rfl rfl (fun K hK => ?_); go_simp; refine hK _ ?_; clear hK K)
    first | (refine wpRO_free rfl rfl _ (fun w' => by go_simp; exact Gives.mk _ _) (fun K hK => ?_); go_simp; refine hK _ ?_; clear hK K) | (refine wpRO_skipF rfl rfl (fun K hK => ?_); go_simp; refine hK _ ?_; clear hK K)
    first | (refine wpRO_pure rfl rfl _ (fun w' hG => by obtain ⟨g0, g1⟩ := hG; exact gives_agg2 rfl (by decide +kernel) rfl (by assumption) (by assumption)) (fun K hK => ?_); go_simp; refine hK _ ?_; clear hK K) | (refine wpRO_pure rfl rfl _ (fun w' hG => by obtain ⟨g0, g1⟩ := hG; go_simp; exact Gives.mk _ _) (fun K hK => ?_); go_simp; refine hK _ ?_; clear hK K) | (refine wpRO_skip rfl rfl (fun K hK => ?_); go_simp; refine hK _ ?_; clear hK K)
    first | (refine wpRO_free rfl rfl _ (fun w' => by go_simp; exact Gives.mk _ _) (fun K hK => ?_); go_simp; refine hK _ ?_; clear hK K) | (refine wpRO_skipF rfl rfl (fun K hK => ?_); go_simp; refine hK _ ?_; clear hK K)
    first | (refine wpRO_free rfl rfl _ (fun w' => by go_simp; exact Gives.mk _ _) (fun K hK => ?_); go_simp; refine hK _ ?_; clear hK K) | (refine wpRO_skipF rfl rfl (fun K hK => ?_); go_simp; refine hK _ ?_; clear hK K)
    first | (refine wpRO_free rfl rfl _ (fun w' => by go_simp; exact Gives.mk _ _) (fun K hK => ?_); go_simp; refine hK _ ?_; clear hK K) | (refine wpRO_skipF rfl rfl (fun K hK => ?_); go_simp; refine hK _ ?_; clear hK K)
    refine wpRO_fin ?_
    go_wp2_with fail
    go_ret
    exact ⟨ret_bool HX.out.symm, (Keeps.refl _ _).drew⟩
  · have hd : decide ((A.nur : Int) ≤ i) = false := by simpa using hi
    have HX := Lib.hid (show A.old i = false by rw [HY.out, hd]; rfl)
    clear HY
    go_enter Try.func23, Try.ntmps23
    go_wp2_with fail
    refine wp_region_ro (.free 0 (.free 1 (.free 2 (.free 3 (.pure 4 (.free 5 (.free 6 (.free 7 (.free 8 (.free 9 (.free 10 (.free 13 (.free 14 (.free 15 (.pure 11 (.free 12 (.pure 16 (.free 17 (.free 18 (.free 19 (.fin))))))))))))))))))))) [] (fun w' => w'.cell? ⟨p, 1, none⟩ = some (.int .i64 A.nur) ∧ w'.cell? ⟨p, 3, none⟩ = some (.int .i64 ((A.grn - A.nur : Nat) : Int))) (by kernel_rfl) (by kernel_rfl) ⟨c1, c3⟩ ?_
    first | (refine wpRO_free rfl rfl _ (fun w' => by go_simp; exact Gives.mk _ _) (fun K hK => ?_); go_simp; refine hK _ ?_; clear hK K) | (refine wpRO_skipF rfl rfl (fun K hK => ?_); go_simp; refine hK _ ?_; clear hK K)
    first | (refine wpRO_free rfl rfl _ (fun w' => by go_simp; exact Gives.mk _ _) (fun K hK => ?_); go_simp; refine hK _ ?_; clear hK K) | (refine wpRO_skipF rfl rfl (fun K hK => ?_); go_simp; refine hK _ ?_; clear hK K)
    first | (refine wpRO_free rfl rfl _ (fun w' => by go_simp; exact Gives.mk _ _) (fun K hK => ?_); go_simp; refine hK _ ?_; clear hK K) | (refine wpRO_skipF rfl rfl (fun K hK => ?_); go_simp; refine hK _ ?_; clear hK K)
    first | (refine wpRO_free rfl rfl _ (fun w' => by go_simp; exact Gives.mk _ _) (fun K hK => ?_); go_simp; refine hK _ ?_; clear hK K) | (refine wpRO_skipF rfl rfl (fun K hK => ?_); go_simp; refine hK _ ?_; clear hK K)
    first | (refine wpRO_pure rfl rfl _ (fun w' hG => by obtain ⟨g0, g1⟩ := hG; exact gives_agg2 rfl (by decide +kernel) rfl (by assumption) (by assumption)) (fun K hK => ?_); go_simp; refine hK _ ?_; clear hK K) | (refine wpRO_pure rfl rfl _ (fun w' hG => by obtain ⟨g0, g1⟩ := hG; go_simp; exact Gives.mk _ _) (fun K hK => ?_); go_simp; refine hK _ ?_; clear hK K) | (refine wpRO_skip rfl rfl (fun K hK => ?_); go_simp; refine hK _ ?_; clear hK K)
    first | (refine wpRO_free rfl rfl _ (fun w' => by go_simp; exact Gives.mk _ _) (fun K hK => ?_); go_simp; refine hK _ ?_; clear hK K) | (refine wpRO_skipF rfl rfl (fun K hK => ?_); go_simp; refine hK _ ?_; clear hK K)
    first | (refine wpRO_free rfl rfl _ (fun w' => by go_simp; exact Gives.mk _ _) (fun K hK => ?_); go_simp; refine hK _ ?_; clear hK K) | (refine wpRO_skipF rfl rfl (fun K hK => ?_); go_simp; refine hK _ ?_; clear hK K)
    first | (refine wpRO_free rfl rfl _ (fun w' => by go_simp; exact Gives.mk _ _) (fun K hK => ?_); go_simp; refine hK _ ?_; clear hK K) | (refine wpRO_skipF rfl rfl (fun K hK => ?_); go_simp; refine hK _ ?_; clear hK K)
    first | (refine wpRO_free rfl rfl _ (fun w' => by go_simp; exact Gives.mk _ _) (fun K hK => ?_); go_simp; refine hK _ ?_; clear hK K) | (refine wpRO_skipF rfl rfl (fun K hK => ?_); go_simp; refine hK _ ?_; clear hK K)
    first | (refine wpRO_free rfl rfl _ (fun w' => by go_simp; exact Gives.mk _ _) (fun K hK => ?_); go_simp; refine hK _ ?_; clear hK K) | (refine wpRO_skipF rfl rfl (fun K hK => ?_); go_simp; refine hK _ ?_; clear hK K)
    first | (refine wpRO_free rfl rfl _ (fun w' => by go_simp; exact Gives.mk _ _) (fun K hK => ?_); go_simp; refine hK _ ?_; clear hK K) | (refine wpRO_skipF rfl rfl (fun K hK => ?_); go_simp; refine hK _ ?_; clear hK K)
    first | (refine wpRO_free rfl rfl _ (fun w' => by go_simp; exact Gives.mk _ _) (fun K hK => ?_); go_simp; refine hK _ ?_; clear hK K) | (refine wpRO_skipF rfl rfl (fun K hK => ?_); go_simp; refine hK _ ?_; clear hK K)
    first | (refine wpRO_free rfl rfl _ (fun w' => by go_simp; exact Gives.mk _ _) (fun K hK => ?_); go_simp; refine hK _ ?_; clear hK K) | (refine wpRO_skipF rfl rfl (fun K hK => ?_); go_simp; refine hK _ ?_; clear hK K)
    first | (refine wpRO_free rfl rfl _ (fun w' => by go_simp; exact Gives.mk _ _) (fun K hK => ?_); go_simp; refine hK _ ?_; clear hK K) | (refine wpRO_skipF rfl rfl (fun K hK => ?_); go_simp; refine hK _ ?_; clear hK K)
    first | (refine wpRO_pure rfl rfl _ (fun w' hG => by obtain ⟨g0, g1⟩ := hG; exact gives_agg2 rfl (by decide +kernel) rfl (by assumption) (by assumption)) (fun K hK => ?_); go_simp; refine hK _ ?_; clear hK K) | (refine wpRO_pure rfl rfl _ (fun w' hG => by obtain ⟨g0, g1⟩ := hG; go_simp; exact Gives.mk _ _) (fun K hK => ?_); go_simp; refine hK _ ?_; clear hK K) | (refine wpRO_skip rfl rfl (fun K hK => ?_); go_simp; refine hK _ ?_; clear hK K)
    first | (refine wpRO_free rfl rfl _ (fun w' => by go_simp; exact Gives.mk _ _) (fun K hK => ?_); go_simp; refine hK _ ?_; clear hK K) | (refine wpRO_skipF rfl rfl (fun K hK => ?_); go_simp; refine hK _ ?_; clear hK K)
    first | (refine wpRO_pure rfl rfl _ (fun w' hG => by obtain ⟨g0, g1⟩ := hG; exact gives_agg2 rfl (by decide +kernel) rfl (by assumption) (by assumption)) (fun K hK => ?_); go_simp; refine hK _ ?_; clear hK K) | (refine wpRO_pure rfl rfl _ (fun w' hG => by obtain ⟨g0, g1⟩ := hG; go_simp; exact Gives.mk _ _) (fun K hK => ?_); go_simp; refine hK _ ?_; clear hK K) | (refine wpRO_skip rfl rfl (fun K hK => ?_); go_simp; refine hK _ ?_; clear hK K)
    first | (refine wpRO_free rfl rfl _ (fun w' => by go_simp; exact Gives.mk _ _) (fun K hK => ?_); go_simp; refine hK _ ?_; clear hK K) | (refine wpRO_skipF rfl rfl (fun K hK => ?_); go_simp; refine hK _ ?_; clear hK K)
    first | (refine wpRO_free rfl rfl _ (fun w' => by go_simp; exact Gives.mk _ _) (fun K hK => ?_); go_simp; refine hK _ ?_; clear hK K) | (refine wpRO_skipF rfl rfl (fun K hK => ?_); go_simp; refine hK _ ?_; clear hK K)
    first | (refine wpRO_free rfl rfl _ (fun w' => by go_simp; exact Gives.mk _ _) (fun K hK => ?_); go_simp; refine hK _ ?_; clear hK K) | (refine wpRO_skipF rfl rfl (fun K hK => ?_); go_simp; refine hK _ ?_; clear hK K)
    refine wpRO_fin ?_
    go_wp2_with fail
    go_ret
    exact ⟨ret_bool HX.out.symm, (Keeps.refl _ _).drew⟩

set_option maxHeartbeats 1000000 in
set_option maxRecDepth 100000 in
theorem RLoad_c (i : Int) (w : World) (h : RoomAt w p g A) (hi64 : R64 i) :
    Calls Try.prog 38 #[.pointer (some ⟨p, 0, none⟩), .int .i64 i] w fun e w' => e = .returned (.int .i64 (A.load i)) ∧ Keeps (fun _ => False) w w' := by
  have H := Lib.hid h; have HI := Lib.hid hi64
  have hok := h.ok
  cases hy : A.young i
  · cases ho : A.old i
    · have HX := Lib.hid (show A.load i = 0 by unfold Ar.load Ar.inUse; rw [hy, ho]; rfl)
      clear h
      go_enter Try.func38, Try.ntmps38
      go_wp2_with fail
      refine (IsYoung_c i _ H.out).mono ?_
      rintro e w1 ⟨rfl, rfl⟩
      rw [hy]
      go_wp2_with fail
      refine (IsOld_c i _ H.out HI.out).mono ?_
      rintro e w1 ⟨rfl, hk⟩
      rw [ho]
      go_wp2_with fail
      go_ret
      exact ⟨ret_int HX.out.symm, hk⟩
    · have hlt := h.ok.old_lt ho
      have HX := Lib.hid (show A.load i = A.ws.getD i.toNat 0 by unfold Ar.load Ar.inUse; rw [hy, ho]; rfl)
      obtain ⟨n, rfl⟩ : ∃ n : Nat, i = n := ⟨i.toNat, by omega⟩
      have hlt2 : (n : Int) < A.ws.length := hlt.2
      clear h hlt
      go_enter Try.func38, Try.ntmps38
      go_wp2_with fail
      refine (IsYoung_c n _ H.out).mono ?_
      rintro e w1 ⟨rfl, rfl⟩
      rw [hy]
      go_wp2_with fail
      refine (IsOld_c n _ H.out HI.out).mono ?_
      rintro e w1 ⟨rfl, hk⟩
      rw [ho]
      have h1 := H.out.keep hk (fun h => h) (fun h => h)
      obtain ⟨c0, -, -, -⟩ := h1.cells
      have c4 := h1.word n (by omega)
      have pl := h1.hp.lt
      clear h1
      go_wp2_with fail
      go_ret
      exact ⟨ret_int (by rw [HX.out]; simp), hk⟩
  · have hlt := h.ok.young_lt hy
    have HX := Lib.hid (show A.load i = A.ws.getD i.toNat 0 by unfold Ar.load Ar.inUse; rw [hy]; rfl)
    obtain ⟨n, rfl⟩ : ∃ n : Nat, i = n := ⟨i.toNat, by omega⟩
    have c4 := h.word n (by omega)
    have hlt2 : (n : Int) < A.ws.length := hlt.2
    obtain ⟨c0, -, -, -⟩ := h.cells
    have pl := h.hp.lt
    clear h hlt
    go_enter Try.func38, Try.ntmps38
    go_wp2_with fail
    refine (IsYoung_c n _ H.out).mono ?_
    rintro e w1 ⟨rfl, rfl⟩
    rw [hy]
    go_wp2_with fail
    go_ret
    exact ⟨ret_int (by rw [HX.out]; simp), Keeps.refl _ _⟩

set_option maxHeartbeats 1000000 in
set_option maxRecDepth 100000 in
theorem RThing_c (i : Int) (w : World) (h : RoomAt w p g A) (hi64 : R64 i) :
    Calls Try.prog 33 #[.pointer (some ⟨p, 0, none⟩), .int .i64 i] w fun e w' => e = .returned (.tuple #[.int .i64 (A.thing i).1, .int .i64 (A.thing i).2.1, .int .i64 (A.thing i).2.2]) ∧ Keeps (fun _ => False) w w' := by
  go_enter Try.func33, Try.ntmps33
  go_wp2_with fail
  refine (RLoad_c i _ h hi64).mono ?_
  rintro e w1 ⟨rfl, hk⟩
  go_wp2_with fail
  refine (PartsOf_c (A.load i) _).mono ?_
  rintro e w2 ⟨rfl, rfl⟩
  go_wp2_with fail
  go_ret3
  exact ⟨rfl, hk⟩
end

end Go.Proofs.Ytjifdalflepcoab

namespace Go.Proofs.Ytjifdalflepcoab
open Go.RowKit
set_option linter.unusedVariables false
set_option linter.unusedSimpArgs false

section
variable {p g : Nat} {A : Ar}

theorem RoomTo.refl {w w' : World} (h : RoomAt w p g A) (k : Keeps (fun _ => False) w w') : RoomTo w p g w' A := ⟨h.keep k (fun h => h) (fun h => h), k.self⟩

set_option maxHeartbeats 4000000 in
set_option maxRecDepth 100000 in
theorem RMake_c (k f : Int) (w : World) (h : RoomAt w p g A) (hf : R64 f) :
    Calls Try.prog 24 #[.pointer (some ⟨p, 0, none⟩), .int .i64 k, .int .i64 f] w fun e w' => e = .returned (.int .i64 (A.make k f).1) ∧ RoomTo w p g w' (A.make k f).2 := by
  have H := Lib.hid h
  have o1 := h.ok.h1; have o2 := h.ok.h2; have o3 := h.ok.h3; have o4 := h.ok.h4
  have HOK := Lib.hid (h.ok.make k f)
  have HF := Lib.hid hf
  obtain ⟨c0, c1, c2, -⟩ := h.cells
  have pl := h.hp.lt; have gl := h.hg.lt; have p2 := h.hp.free 2
  have hne := h.ne; have hne2 := h.ne.symm
  clear h hf
  cases hfit : fitsW k f
  · have HE := Lib.hid (Ar.make_no (A := A) (k := k) (f := f) (by rw [hfit]; simp))
    have hcode := (headW_code hfit).2
    clear hfit
    go_enter Try.func24, Try.ntmps24
    go_wp2_with fail
    refine (HeadOf_c k f _ HF.out.1 HF.out.2).mono ?_
    rintro e w1 ⟨rfl, rfl⟩
    go_wp2_with fail
    refine wp_region_ro (.free 0 (.free 1 (.free 2 (.free 3 (.free 4 (.free 5 (.free 6 (.free 7 (.free 9 (.free 10 (.free 11 (.pure 8 (.pure 12 (.free 13 (.free 14 (.free 15 (.fin))))))))))))))))) [] (fun _ => True) (by kernel_rfl) (by kernel_rfl) trivial ?_
    first | (refine wpRO_free rfl rfl _ (fun w' => by go_simp; exact Gives.mk _ _) (fun K hK => ?_); go_simp; refine hK _ ?_; clear hK K) | (refine wpRO_skipF rfl rfl (fun K hK => ?_); go_simp; refine hK _ ?_; clear hK K)
    first | (refine wpRO_free rfl rfl _ (fun w' => by go_simp; exact Gives.mk _ _) (fun K hK => ?_); go_simp; refine hK _ ?_; clear hK K) | (refine wpRO_skipF rfl rfl (fun K hK => ?_); go_simp; refine hK _ ?_; clear hK K)
    first | (refine wpRO_free rfl rfl _ (fun w' => by go_simp; exact Gives.mk _ _) (fun K hK => ?_); go_simp; refine hK _ ?_; clear hK K) | (refine wpRO_skipF rfl rfl (fun K hK => ?_); go_simp; refine hK _ ?_; clear hK K)
    first | (refine wpRO_free rfl rfl _ (fun w' => by go_simp; exact Gives.mk _ _) (fun K hK => ?_); go_simp; refine hK _ ?_; clear hK K) | (refine wpRO_skipF rfl rfl (fun K hK => ?_); go_simp; refine hK _ ?_; clear hK K)
    first | (refine wpRO_free rfl rfl _ (fun w' => by go_simp; exact Gives.mk _ _) (fun K hK => ?_); go_simp; refine hK _ ?_; clear hK K) | (refine wpRO_skipF rfl rfl (fun K hK => ?_); go_simp; refine hK _ ?_; clear hK K)
    first | (refine wpRO_free rfl rfl _ (fun w' => by go_simp; exact Gives.mk _ _) (fun K hK => ?_); go_simp; refine hK _ ?_; clear hK K) | (refine wpRO_skipF rfl rfl (fun K hK => ?_); go_simp; refine hK _ ?_; clear hK K)
    first | (refine wpRO_free rfl rfl _ (fun w' => by go_simp; exact Gives.mk _ _) (fun K hK => ?_); go_simp; refine hK _ ?_; clear hK K) | (refine wpRO_skipF rfl rfl (fun K hK => ?_); go_simp; refine hK _ ?_; clear hK K)
    first | (refine wpRO_free rfl rfl _ (fun w' => by go_simp; exact Gives.mk _ _) (fun K hK => ?_); go_simp; refine hK _ ?_; clear hK K) | (refine wpRO_skipF rfl rfl (fun K hK => ?_); go_simp; refine hK _ ?_; clear hK K)
    first | (refine wpRO_free rfl rfl _ (fun w' => by go_simp; exact Gives.mk _ _) (fun K hK => ?_); go_simp; refine hK _ ?_; clear hK K) | (refine wpRO_skipF rfl rfl (fun K hK => ?_); go_simp; refine hK _ ?_; clear hK K)
    first | (refine wpRO_free rfl rfl _ (fun w' => by go_simp; exact Gives.mk _ _) (fun K hK => ?_); go_simp; refine hK _ ?_; clear hK K) | (refine wpRO_skipF rfl rfl (fun K hK => ?_); go_simp; refine hK _ ?_; clear hK K)
    first | (refine wpRO_free rfl rfl _ (fun w' => by go_simp; exact Gives.mk _ _) (fun K hK => ?_); go_simp; refine hK _ ?_; clear hK K) | (refine wpRO_skipF rfl rfl (fun K hK => ?_); go_simp; refine hK _ ?_; clear hK K)
    first | (refine wpRO_pure rfl rfl _ (fun w' hG => by obtain _ := hG; exact gives_agg2 rfl (by decide +kernel) rfl (by assumption) (by assumption)) (fun K hK => ?_); go_simp; refine hK _ ?_; clear hK K) | (refine wpRO_pure rfl rfl _ (fun w' hG => by obtain _ := hG; go_simp; exact Gives.mk _ _) (fun K hK => ?_); go_simp; refine hK _ ?_; clear hK K) | (refine wpRO_skip rfl rfl (fun K hK => ?_); go_simp; refine hK _ ?_; clear hK K)
    first | (refine wpRO_pure rfl rfl _ (fun w' hG => by obtain _ := hG; exact gives_agg2 rfl (by decide +kernel) rfl (by assumption) (by assumption)) (fun K hK => ?_); go_simp; refine hK _ ?_; clear hK K) | (refine wpRO_pure rfl rfl _ (fun w' hG => by obtain _ := hG; go_simp; exact Gives.mk _ _) (fun K hK => ?_); go_simp; refine hK _ ?_; clear hK K) | (refine wpRO_skip rfl rfl (fun K hK => ?_); go_simp; refine hK _ ?_; clear hK K)
    first | (refine wpRO_free rfl rfl _ (fun w' => by go_simp; exact Gives.mk _ _) (fun K hK => ?_); go_simp; refine hK _ ?_; clear hK K) | (refine wpRO_skipF rfl rfl (fun K hK => ?_); go_simp; refine hK _ ?_; clear hK K)
    first | (refine wpRO_free rfl rfl _ (fun w' => by go_simp; exact Gives.mk _ _) (fun K hK => ?_); go_simp; refine hK _ ?_; clear hK K) | (refine wpRO_skipF rfl rfl (fun K hK => ?_); go_simp; refine hK _ ?_; clear hK K)
    first | (refine wpRO_free rfl rfl _ (fun w' => by go_simp; exact Gives.mk _ _) (fun K hK => ?_); go_simp; refine hK _ ?_; clear hK K) | (refine wpRO_skipF rfl rfl (fun K hK => ?_); go_simp; refine hK _ ?_; clear hK K)
    refine wpRO_fin ?_
    go_wp2_with fail
    go_ret
    rw [HE.out]
    exact ⟨rfl, RoomTo.refl H.out ((Keeps.refl _ _).drew)⟩
  · have hs := fitsW_spec hfit
    obtain ⟨n, rfl⟩ : ∃ n : Nat, f = n := ⟨f.toNat, by omega⟩
    have hn : n ≤ 12 := by omega
    have HH := Lib.hid (headW_fits hfit)
    have hw1 : IntKind.i64.wrap ((n : Int) + 1) = (n : Int) + 1 := IntWalk.i64_in _ (by omega)
    have hw2 : IntKind.i64.wrap ((A.nur : Int) - A.yng) = (A.nur : Int) - A.yng := IntWalk.i64_in _ (by omega)
    by_cases hroom : 1 + (n : Int) ≤ (A.nur : Int) - A.yng
    · have HE := Lib.hid (show A.make k n = ((A.yng : Int), { A with yng := A.yng + (1 + (n : Int)).toNat, ws := lay A.ws A.yng (thingW k n) }) from if_pos ⟨hfit, hroom⟩)
      have hk1 := hs.1; have hk2 := hs.2.1
      have hd : decide ((A.nur : Int) - A.yng < (n : Int) + 1) = false := by simp; omega
      have c4 := H.out.word A.yng (by omega)
      have f4 := H.out.hg.free A.yng
      have hlt : (A.yng : Int) < A.ws.length := by omega
      clear hfit hs
      go_enter Try.func24, Try.ntmps24
      go_wp2_with fail
      refine (HeadOf_c k n _ HF.out.1 HF.out.2).mono ?_
      rintro e w1 ⟨rfl, rfl⟩
      rw [HH.out]
      go_wp2_with fail
      refine wp_region_ro (.free 0 (.free 1 (.free 2 (.free 3 (.free 4 (.free 5 (.free 6 (.free 7 (.free 9 (.free 10 (.free 11 (.pure 8 (.pure 12 (.free 13 (.free 14 (.free 15 (.fin))))))))))))))))) [] (fun w' => w'.cell? ⟨p, 1, none⟩ = some (.int .i64 A.nur) ∧ w'.cell? ⟨p, 2, none⟩ = some (.int .i64 A.yng)) (by kernel_rfl) (by kernel_rfl) ⟨c1, c2⟩ ?_
      first | (refine wpRO_free rfl rfl _ (fun w' => by go_simp; exact Gives.mk _ _) (fun K hK => ?_); go_simp; refine hK _ ?_; clear hK K) | (refine wpRO_skipF rfl rfl (fun K hK => ?_); go_simp; refine hK _ ?_; clear hK K)
      first | (refine wpRO_free rfl rfl _ (fun w' => by go_simp; exact Gives.mk _ _) (fun K hK => ?_); go_simp; refine hK _ ?_; clear hK K) | (refine wpRO_skipF rfl rfl (fun K hK => ?_); go_simp; refine hK _ ?_; clear hK K)
      first | (refine wpRO_free rfl rfl _ (fun w' => by go_simp; exact Gives.mk _ _) (fun K hK => ?_); go_simp; refine hK _ ?_; clear hK K) | (refine wpRO_skipF rfl rfl (fun K hK => ?_); go_simp; refine hK _ ?_; clear hK K)
      first | (refine wpRO_free rfl rfl _ (fun w' => by go_simp; exact Gives.mk _ _) (fun K hK => ?_); go_simp; refine hK _ ?_; clear hK K) | (refine wpRO_skipF rfl rfl (fun K hK => ?_); go_simp; refine hK _ ?_; clear hK K)
      first | (refine wpRO_free rfl rfl _ (fun w' => by go_simp; exact Gives.mk _ _) (fun K hK => ?_); go_simp; refine hK _ ?_; clear hK K) | (refine wpRO_skipF rfl rfl (fun K hK => ?_); go_simp; refine hK _ ?_; clear hK K)
      first | (refine wpRO_free rfl rfl _ (fun w' => by go_simp; exact Gives.mk _ _) (fun K hK => ?_); go_simp; refine hK _ ?_; clear hK K) | (refine wpRO_skipF rfl rfl (fun K hK => ?_); go_simp; refine hK _ ?_; clear hK K)
      first | (refine wpRO_free rfl rfl _ (fun w' => by go_simp; exact Gives.mk _ _) (fun K hK => ?_); go_simp; refine hK _ ?_; clear hK K) | (refine wpRO_skipF rfl rfl (fun K hK => ?_); go_simp; refine hK _ ?_; clear hK K)
      first | (refine wpRO_free rfl rfl _ (fun w' => by go_simp; exact Gives.mk _ _) (fun K hK => ?_); go_simp; refine hK _ ?_; clear hK K) | (refine wpRO_skipF rfl rfl (fun K hK => ?_); go_simp; refine hK _ ?_; clear hK K)
      first | (refine wpRO_free rfl rfl _ (fun w' => by go_simp; exact Gives.mk _ _) (fun K hK => ?_); go_simp; refine hK _ ?_; clear hK K) | (refine wpRO_skipF rfl rfl (fun K hK => ?_); go_simp; refine hK _ ?_; clear hK K)
      first | (refine wpRO_free rfl rfl _ (fun w' => by go_simp; exact Gives.mk _ _) (fun K hK => ?_); go_simp; refine hK _ ?_; clear hK K) | (refine wpRO_skipF rfl rfl (fun K hK => ?_); go_simp; refine hK _ ?_; clear hK K)
      first | (refine wpRO_free rfl rfl _ (fun w' => by go_simp; exact Gives.mk _ _) (fun K hK => ?_); go_simp; refine hK _ ?_; clear hK K) | (refine wpRO_skipF rfl rfl (fun K hK => ?_); go_simp; refine hK _ ?_; clear hK K)
      first | (refine wpRO_pure rfl rfl _ (fun w' hG => by obtain ⟨g0, g1⟩ := hG; exact gives_agg2 rfl (by decide +kernel) rfl (by assumption) (by assumption)) (fun K hK => ?_); go_simp; refine hK _ ?_; clear hK K) | (refine wpRO_pure rfl rfl _ (fun w' hG => by obtain ⟨g0, g1⟩ := hG; go_simp; exact Gives.mk _ _) (fun K hK => ?_); go_simp; refine hK _ ?_; clear hK K) | (refine wpRO_skip rfl rfl (fun K hK => ?_); go_simp; refine hK _ ?_; clear hK K)
      first | (refine wpRO_pure rfl rfl _ (fun w' hG => by obtain ⟨g0, g1⟩ := hG; exact gives_agg2 rfl (by decide +kernel) rfl (by assumption) (by assumption)) (fun K hK => ?_); go_simp; refine hK _ ?_; clear hK K) | (refine wpRO_pure rfl rfl _ (fun w' hG => by obtain ⟨g0, g1⟩ := hG; go_simp; exact Gives.mk _ _) (fun K hK => ?_); go_simp; refine hK _ ?_; clear hK K) | (refine wpRO_skip rfl rfl (fun K hK => ?_); go_simp; refine hK _ ?_; clear hK K)
      first | (refine wpRO_free rfl rfl _ (fun w' => by go_simp; exact Gives.mk _ _) (fun K hK => ?_); go_simp; refine hK _ ?_; clear hK K) | (refine wpRO_skipF rfl rfl (fun K hK => ?_); go_simp; refine hK _ ?_; clear hK K)
      first | (refine wpRO_free rfl rfl _ (fun w' => by go_simp; exact Gives.mk _ _) (fun K hK => ?_); go_simp; refine hK _ ?_; clear hK K) | (refine wpRO_skipF rfl rfl (fun K hK => ?_); go_simp; refine hK _ ?_; clear hK K)
      first | (refine wpRO_free rfl rfl _ (fun w' => by go_simp; exact Gives.mk _ _) (fun K hK => ?_); go_simp; refine hK _ ?_; clear hK K) | (refine wpRO_skipF rfl rfl (fun K hK => ?_); go_simp; refine hK _ ?_; clear hK K)
      refine wpRO_fin ?_
      clear hw1 hw2
      have HD := Lib.hid (Keeps.refl (fun _ => False) w).drew
      go_upto_region 7 with fail
      have hb0 := ((H.out.hg.setOther (a := ⟨p, 2, none⟩) hne2 (.int .i64 ((A.yng : Int) + ((n : Int) + 1)))).setSame A.yng (.int .i64 (16 * (n : Int) + k))).drew
      have hp0 := ((H.out.hp.setSame 2 (.int .i64 ((A.yng : Int) + ((n : Int) + 1)))).setOther (a := ⟨g, A.yng, none⟩) hne (.int .i64 (16 * (n : Int) + k))).drew
      have hk0 := (((Keeps.refl (fun b => b = p ∨ b = g) w).setCell (p := ⟨p, 2, none⟩) (.inl (.inl rfl)) (.int .i64 ((A.yng : Int) + ((n : Int) + 1)))).setCell (p := ⟨g, A.yng, none⟩) (.inl (.inr rfl)) (.int .i64 (16 * (n : Int) + k))).drew
      rw [← List.map_set, lay_one (by omega)] at hb0
      simp only [List.set_cons_zero, List.set_cons_succ] at hp0
      generalize (((w.setCell ⟨p, 2, none⟩ (.int .i64 ((A.yng : Int) + ((n : Int) + 1)))).setCell ⟨g, A.yng, none⟩ (.int .i64 (16 * (n : Int) + k))).drew) = w3 at *
      have HB0 := Lib.hid hb0; have HP0 := Lib.hid hp0; have HK0 := Lib.hid hk0
      clear hb0 hp0 hk0 c0 c1 c2 c4 f4 p2 HD
      go_wp2_with fail
      go_loopw [10] (fun i wr => ∃ j : Nat, j ≤ n ∧ i = .int .i64 j ∧ Blk wr g ((lay A.ws A.yng ((16 * (n : Int) + k) :: List.replicate j 2)).map (Value.int .i64)) 2 ∧ Keeps (fun b => b = g) w3 wr) (fun i _ => n - (intOf i).toNat)
      case atStart => exact ⟨0, Nat.zero_le _, rfl, HB0.out, Keeps.refl _ _⟩
      case round =>
        obtain ⟨j, hj, rfl, hb, hk⟩ := hrel
        have HB := Lib.hid hb; have HK := Lib.hid hk
        have hpr := hk.blk HP0.out hne
        have c0 := hpr.cell 0
        have pl := hpr.lt; have gl := hb.lt
        simp only [List.getElem?_cons_zero] at c0
        have HPR := Lib.hid hpr
        by_cases hlt2 : j < n
        · have f4 := hb.free (A.yng + 1 + j)
          have c4 : ∃ v, wr.cell? ⟨g, A.yng + 1 + j, none⟩ = some v := by
            have hl : (lay A.ws A.yng ((16 * (n : Int) + k) :: List.replicate j 2)).length = A.ws.length := lay_length (by simp; omega)
            rw [hb.cell, List.getElem?_map, List.getElem?_eq_getElem (by rw [hl]; omega)]
            exact ⟨_, rfl⟩
          obtain ⟨v4, c4⟩ := c4
          have hix : (A.yng : Int) + 1 + j < A.ws.length := by omega
          have hw3 : ((A.yng : Int) + 1 + j).toNat = A.yng + 1 + j := by omega
          clear hb hk hpr
          go_wp2_with fail
          have hset := lay_set (l := A.ws) (i := A.yng) (j := j) (h := 16 * (n : Int) + k) (by omega)
          have hb2 : Blk (wr.setCell ⟨g, A.yng + 1 + j, none⟩ (.int .i64 2)) g ((lay A.ws A.yng ((16 * (n : Int) + k) :: List.replicate (j + 1) 2)).map (Value.int .i64)) 2 := by
            rw [← hset, List.map_set]; exact HB.out.setSame _ _
          have HB2 := Lib.hid hb2
          have HK2 := Lib.hid (HK.out.setCell (p := ⟨g, A.yng + 1 + j, none⟩) (.inl rfl) (.int .i64 2))
          clear hset hb2 c0 c4 f4
          go_wp2_with fail
          go_roundw
          case rel => exact ⟨j + 1, by omega, by go_num, HB2.out, HK2.out⟩
          case measure => simp [intOf]; omega
        · obtain rfl : j = n := by omega
          clear hb hk hpr
          go_wp2_with fail
          go_ret
          have hok := HOK.out
          rw [HE.out] at hok ⊢
          have hl : (lay A.ws A.yng (thingW k j)).length = A.ws.length := lay_length (by rw [thingW_length (by omega)]; omega)
          refine ⟨rfl, ⟨?_, HB.out, hok⟩, HK0.out.trans (HK.out.mono fun _ _ h => .inr h)⟩
          have := HPR.out
          dsimp only
          rw [hl, show ((A.yng + (1 + (j : Int)).toNat : Nat) : Int) = (A.yng : Int) + ((j : Int) + 1) by omega]; exact this
    · have HE := Lib.hid (Ar.make_no (A := A) (k := k) (f := n) (fun h => hroom h.2))
      have hd : decide ((A.nur : Int) - A.yng < (n : Int) + 1) = true := by simp; omega
      clear hfit hs hroom
      go_enter Try.func24, Try.ntmps24
      go_wp2_with fail
      refine (HeadOf_c k n _ HF.out.1 HF.out.2).mono ?_
      rintro e w1 ⟨rfl, rfl⟩
      rw [HH.out]
      go_wp2_with fail
      refine wp_region_ro (.free 0 (.free 1 (.free 2 (.free 3 (.free 4 (.free 5 (.free 6 (.free 7 (.free 9 (.free 10 (.free 11 (.pure 8 (.pure 12 (.free 13 (.free 14 (.free 15 (.fin))))))))))))))))) [] (fun w' => w'.cell? ⟨p, 1, none⟩ = some (.int .i64 A.nur) ∧ w'.cell? ⟨p, 2, none⟩ = some (.int .i64 A.yng)) (by kernel_rfl) (by kernel_rfl) ⟨c1, c2⟩ ?_
      first | (refine wpRO_free rfl rfl _ (fun w' => by go_simp; exact Gives.mk _ _) (fun K hK => ?_); go_simp; refine hK _ ?_; clear hK K) | (refine wpRO_skipF rfl rfl (fun K hK => ?_); go_simp; refine hK _ ?_; clear hK K)
      first | (refine wpRO_free rfl rfl _ (fun w' => by go_simp; exact Gives.mk _ _) (fun K hK => ?_); go_simp; refine hK _ ?_; clear hK K) | (refine wpRO_skipF rfl rfl (fun K hK => ?_); go_simp; refine hK _ ?_; clear hK K)
      first | (refine wpRO_free rfl rfl _ (fun w' => by go_simp; exact Gives.mk _ _) (fun K hK => ?_); go_simp; refine hK _ ?_; clear hK K) | (refine wpRO_skipF rfl rfl (fun K hK => ?_); go_simp; refine hK _ ?_; clear hK K)
      first | (refine wpRO_free rfl rfl _ (fun w' => by go_simp; exact Gives.mk _ _) (fun K hK => ?_); go_simp; refine hK _ ?_; clear hK K) | (refine wpRO_skipF rfl rfl (fun K hK => ?_); go_simp; refine hK _ ?_; clear hK K)
      first | (refine wpRO_free rfl rfl _ (fun w' => by go_simp; exact Gives.mk _ _) (fun K hK => ?_); go_simp; refine hK _ ?_; clear hK K) | (refine wpRO_skipF rfl rfl (fun K hK => ?_); go_simp; refine hK _ ?_; clear hK K)
      first | (refine wpRO_free rfl rfl _ (fun w' => by go_simp; exact Gives.mk _ _) (fun K hK => ?_); go_simp; refine hK _ ?_; clear hK K) | (refine wpRO_skipF rfl rfl (fun K hK => ?_); go_simp; refine hK _ ?_; clear hK K)
      first | (refine wpRO_free rfl rfl _ (fun w' => by go_simp; exact Gives.mk _ _) (fun K hK => ?_); go_simp; refine hK _ ?_; clear hK K) | (refine wpRO_skipF rfl rfl (fun K hK => ?_); go_simp; refine hK _ ?_; clear hK K)
      first | (refine wpRO_free rfl rfl _ (fun w' => by go_simp; exact Gives.mk _ _) (fun K hK => ?_); go_simp; refine hK _ ?_; clear hK K) | (refine wpRO_skipF rfl rfl (fun K hK => ?_); go_simp; refine hK _ ?_; clear hK K)
      first | (refine wpRO_free rfl rfl _ (fun w' => by go_simp; exact Gives.mk _ _) (fun K hK => ?_); go_simp; refine hK _ ?_; clear hK K) | (refine wpRO_skipF rfl rfl (fun K hK => ?_); go_simp; refine hK _ ?_; clear hK K)
      first | (refine wpRO_free rfl rfl _ (fun w' => by go_simp; exact Gives.mk _ _) (fun K hK => ?_); go_simp; refine hK _ ?_; clear hK K) | (refine wpRO_skipF rfl rfl (fun K hK => ?_); go_simp; refine hK _ ?_; clear hK K)
      first | (refine wpRO_free rfl rfl _ (fun w' => by go_simp; exact Gives.mk _ _) (fun K hK => ?_); go_simp; refine hK _ ?_; clear hK K) | (refine wpRO_skipF rfl rfl (fun K hK => ?_); go_simp; refine hK _ ?_; clear hK K)
      first | (refine wpRO_pure rfl rfl _ (fun w' hG => by obtain ⟨g0, g1⟩ := hG; exact gives_agg2 rfl (by decide +kernel) rfl (by assumption) (by assumption)) (fun K hK => ?_); go_simp; refine hK _ ?_; clear hK K) | (refine wpRO_pure rfl rfl _ (fun w' hG => by obtain ⟨g0, g1⟩ := hG; go_simp; exact Gives.mk _ _) (fun K hK => ?_); go_simp; refine hK _ ?_; clear hK K) | (refine wpRO_skip rfl rfl (fun K hK => ?_); go_simp; refine hK _ ?_; clear hK K)
      first | (refine wpRO_pure rfl rfl _ (fun w' hG => by obtain ⟨g0, g1⟩ := hG; exact gives_agg2 rfl (by decide +kernel) rfl (by assumption) (by assumption)) (fun K hK => ?_); go_simp; refine hK _ ?_; clear hK K) | (refine wpRO_pure rfl rfl _ (fun w' hG => by obtain ⟨g0, g1⟩ := hG; go_simp; exact Gives.mk _ _) (fun K hK => ?_); go_simp; refine hK _ ?_; clear hK K) | (refine wpRO_skip rfl rfl (fun K hK => ?_); go_simp; refine hK _ ?_; clear hK K)
      first | (refine wpRO_free rfl rfl _ (fun w' => by go_simp; exact Gives.mk _ _) (fun K hK => ?_); go_simp; refine hK _ ?_; clear hK K) | (refine wpRO_skipF rfl rfl (fun K hK => ?_); go_simp; refine hK _ ?_; clear hK K)
      first | (refine wpRO_free rfl rfl _ (fun w' => by go_simp; exact Gives.mk _ _) (fun K hK => ?_); go_simp; refine hK _ ?_; clear hK K) | (refine wpRO_skipF rfl rfl (fun K hK => ?_); go_simp; refine hK _ ?_; clear hK K)
      first | (refine wpRO_free rfl rfl _ (fun w' => by go_simp; exact Gives.mk _ _) (fun K hK => ?_); go_simp; refine hK _ ?_; clear hK K) | (refine wpRO_skipF rfl rfl (fun K hK => ?_); go_simp; refine hK _ ?_; clear hK K)
      refine wpRO_fin ?_
      clear hw1 hw2
      go_wp2_with fail
      go_ret
      rw [HE.out]
      exact ⟨rfl, RoomTo.refl H.out ((Keeps.refl _ _).drew)⟩
end

/-- A new Room is returned. -/
def RoomRet (w : World) (n o : Int) (e : Ending) (w' : World) : Prop :=
  ∃ p g, e = .returned (.pointer (some ⟨p, 0, none⟩)) ∧ RoomAt w' p g (Ar.new n o) ∧ Keeps (fun _ => False) w w' ∧ w.heap.size ≤ p ∧ w.heap.size ≤ g

set_option maxHeartbeats 2000000 in
set_option maxRecDepth 100000 in
theorem NewRoom_c (n o : Int) (w : World) (h : Ar.fits n o = true) :
    Calls Try.prog 21 #[.int .i64 n, .int .i64 o] w fun e w' => RoomRet w n o e w' := by
  have HOK := Lib.hid (Ar.new_ok h)
  simp [Ar.fits] at h
  obtain ⟨⟨⟨h1, h2⟩, h3⟩, h4⟩ := h
  obtain ⟨a, rfl⟩ : ∃ a : Nat, n = a := ⟨n.toNat, by omega⟩
  obtain ⟨b, rfl⟩ : ∃ b : Nat, o = b := ⟨o.toNat, by omega⟩
  obtain ⟨i0, hi, hz0, hz1, hz2⟩ := info_parts info_i64
  have hmk := fun (wx : World) => run_make_one (P := Try.prog) wx 22 2 i0 (.int .i64 0) Try.underlying22 hi hz0 rfl hz1 (a + b) (by rw [hz2]; omega) (by omega)
  have hcast : ((a + b : Nat) : Int) = (a : Int) + (b : Int) := by omega
  simp only [hcast] at hmk
  have HNEW := Lib.hid (show Ar.new a b = ⟨List.replicate (a + b) 0, a, 0, a⟩ by unfold Ar.new; congr 1)
  clear hi hz0 hz1 hz2 hcast
  go_enter Try.func21, Try.ntmps21
  go_wp2_with fail
  go_ret
  refine ⟨w.heap.size + 1, w.heap.size, rfl, ?_, ((Keeps.refl _ _).alloc _).alloc _, by omega, by omega⟩
  have hok := HOK.out
  rw [HNEW.out] at hok ⊢
  refine ⟨?_, ?_, hok⟩
  · refine Blk.newAt _ (by simp) ?_
    simp
  · refine (Blk.newAt _ (by simp) ?_).alloc _
    simp

/-- The fault of New. -/
def faultM (n o : Int) : Int × Int := if Ar.fits n o = true then (0, 0) else (1, -1)

set_option maxHeartbeats 2000000 in
set_option maxRecDepth 100000 in
theorem F_c (a b : Int) (w : World) :
    Calls Try.prog 81 #[.int .i64 a, .int .i64 b] w fun e w' => e = .returned (.agg #[.int .i64 a, .int .i64 b]) ∧ Keeps (fun _ => False) w w' := by
  go_enter Try.func81, Try.ntmps81
  go_wp2_with fail
  exact bodyPost_ret (v := .agg #[.int .i64 a, .int .i64 b]) (by simp [results, Try.results81, go_sem]) rfl ⟨rfl, (Keeps.refl _ _).alloc _⟩

set_option maxHeartbeats 2000000 in
set_option maxRecDepth 100000 in
theorem RoomFault_c (n o : Int) (w : World) :
    Calls Try.prog 20 #[.int .i64 n, .int .i64 o] w fun e w' => e = .returned (.agg #[.int .i64 (faultM n o).1, .int .i64 (faultM n o).2]) ∧ Keeps (fun _ => False) w w' := by
  cases hf : Ar.fits n o
  · have HE := Lib.hid (show faultM n o = (1, -1) by unfold faultM; rw [hf]; rfl)
    have hc : n < 16 ∨ 256 < n ∨ o < 0 ∨ 1024 < o := by
      by_cases h1 : 16 ≤ n
      · by_cases h2 : n ≤ 256
        · by_cases h3 : 0 ≤ o
          · by_cases h4 : o ≤ 1024
            · simp [Ar.fits, h1, h2, h3, h4] at hf
            · omega
          · omega
        · omega
      · omega
    clear hf
    by_cases c1 : n < 16
    · have d1 : decide (n < 16) = true := by simpa using c1
      clear hc
      go_enter Try.func20, Try.ntmps20
      go_wp2_with fail
      refine (F_c 1 (-1) _).mono ?_
      rintro e w1 ⟨rfl, hk⟩
      have hka := (Keeps.refl (fun _ => False) w).alloc (.cells #[.int .i64 0, .int .i64 0] 26)
      have hb := hk.blk (show Blk (w.alloc (.cells #[.int .i64 0, .int .i64 0] 26)) w.heap.size [.int .i64 0, .int .i64 0] 26 from Blk.newAt _ rfl rfl) (fun h => h)
      have HKA := Lib.hid (hka.trans hk); have HB := Lib.hid hb
      have l0 := hb.cell 0; have l1 := hb.cell 1; have ll := hb.lt; have f0 := hb.free 0; have f1 := hb.free 1
      simp only [List.getElem?_cons_zero, List.getElem?_cons_succ] at l0 l1
      clear hk hka hb
      go_wp2_with fail
      have hb3 := (HB.out.setSame 0 (.int .i64 1)).setSame 1 (.int .i64 (-1))
      have x0 := hb3.cell 0; have x1 := hb3.cell 1
      simp only [List.set_cons_zero, List.set_cons_succ, List.getElem?_cons_zero, List.getElem?_cons_succ] at x0 x1
      refine bodyPost_ret (v := .agg #[.int .i64 1, .int .i64 (-1)]) (by simp [results, Try.results20, go_sem, x0, x1]) rfl ⟨by rw [HE.out], ?_⟩
      exact (HKA.out.setCell (p := ⟨w.heap.size, 0, none⟩) (.inr (Nat.le_refl _)) _).setCell (p := ⟨w.heap.size, 1, none⟩) (.inr (Nat.le_refl _)) _
    have d1 : decide (n < 16) = false := by simpa using c1
    by_cases c2 : 256 < n
    · have d2 : decide (256 < n) = true := by simpa using c2
      clear hc
      go_enter Try.func20, Try.ntmps20
      go_wp2_with fail
      refine (F_c 1 (-1) _).mono ?_
      rintro e w1 ⟨rfl, hk⟩
      have hka := (Keeps.refl (fun _ => False) w).alloc (.cells #[.int .i64 0, .int .i64 0] 26)
      have hb := hk.blk (show Blk (w.alloc (.cells #[.int .i64 0, .int .i64 0] 26)) w.heap.size [.int .i64 0, .int .i64 0] 26 from Blk.newAt _ rfl rfl) (fun h => h)
      have HKA := Lib.hid (hka.trans hk); have HB := Lib.hid hb
      have l0 := hb.cell 0; have l1 := hb.cell 1; have ll := hb.lt; have f0 := hb.free 0; have f1 := hb.free 1
      simp only [List.getElem?_cons_zero, List.getElem?_cons_succ] at l0 l1
      clear hk hka hb
      go_wp2_with fail
      have hb3 := (HB.out.setSame 0 (.int .i64 1)).setSame 1 (.int .i64 (-1))
      have x0 := hb3.cell 0; have x1 := hb3.cell 1
      simp only [List.set_cons_zero, List.set_cons_succ, List.getElem?_cons_zero, List.getElem?_cons_succ] at x0 x1
      refine bodyPost_ret (v := .agg #[.int .i64 1, .int .i64 (-1)]) (by simp [results, Try.results20, go_sem, x0, x1]) rfl ⟨by rw [HE.out], ?_⟩
      exact (HKA.out.setCell (p := ⟨w.heap.size, 0, none⟩) (.inr (Nat.le_refl _)) _).setCell (p := ⟨w.heap.size, 1, none⟩) (.inr (Nat.le_refl _)) _
    have d2 : decide (256 < n) = false := by simpa using c2
    by_cases c3 : o < 0
    · have d3 : decide (o < 0) = true := by simpa using c3
      clear hc
      go_enter Try.func20, Try.ntmps20
      go_wp2_with fail
      refine (F_c 1 (-1) _).mono ?_
      rintro e w1 ⟨rfl, hk⟩
      have hka := (Keeps.refl (fun _ => False) w).alloc (.cells #[.int .i64 0, .int .i64 0] 26)
      have hb := hk.blk (show Blk (w.alloc (.cells #[.int .i64 0, .int .i64 0] 26)) w.heap.size [.int .i64 0, .int .i64 0] 26 from Blk.newAt _ rfl rfl) (fun h => h)
      have HKA := Lib.hid (hka.trans hk); have HB := Lib.hid hb
      have l0 := hb.cell 0; have l1 := hb.cell 1; have ll := hb.lt; have f0 := hb.free 0; have f1 := hb.free 1
      simp only [List.getElem?_cons_zero, List.getElem?_cons_succ] at l0 l1
      clear hk hka hb
      go_wp2_with fail
      have hb3 := (HB.out.setSame 0 (.int .i64 1)).setSame 1 (.int .i64 (-1))
      have x0 := hb3.cell 0; have x1 := hb3.cell 1
      simp only [List.set_cons_zero, List.set_cons_succ, List.getElem?_cons_zero, List.getElem?_cons_succ] at x0 x1
      refine bodyPost_ret (v := .agg #[.int .i64 1, .int .i64 (-1)]) (by simp [results, Try.results20, go_sem, x0, x1]) rfl ⟨by rw [HE.out], ?_⟩
      exact (HKA.out.setCell (p := ⟨w.heap.size, 0, none⟩) (.inr (Nat.le_refl _)) _).setCell (p := ⟨w.heap.size, 1, none⟩) (.inr (Nat.le_refl _)) _
    have d3 : decide (o < 0) = false := by simpa using c3
    have d4 : decide (1024 < o) = true := by simp; omega
    clear hc
    go_enter Try.func20, Try.ntmps20
    go_wp2_with fail
    refine (F_c 1 (-1) _).mono ?_
    rintro e w1 ⟨rfl, hk⟩
    have hka := (Keeps.refl (fun _ => False) w).alloc (.cells #[.int .i64 0, .int .i64 0] 26)
    have hb := hk.blk (show Blk (w.alloc (.cells #[.int .i64 0, .int .i64 0] 26)) w.heap.size [.int .i64 0, .int .i64 0] 26 from Blk.newAt _ rfl rfl) (fun h => h)
    have HKA := Lib.hid (hka.trans hk); have HB := Lib.hid hb
    have l0 := hb.cell 0; have l1 := hb.cell 1; have ll := hb.lt; have f0 := hb.free 0; have f1 := hb.free 1
    simp only [List.getElem?_cons_zero, List.getElem?_cons_succ] at l0 l1
    clear hk hka hb
    go_wp2_with fail
    have hb3 := (HB.out.setSame 0 (.int .i64 1)).setSame 1 (.int .i64 (-1))
    have x0 := hb3.cell 0; have x1 := hb3.cell 1
    simp only [List.set_cons_zero, List.set_cons_succ, List.getElem?_cons_zero, List.getElem?_cons_succ] at x0 x1
    refine bodyPost_ret (v := .agg #[.int .i64 1, .int .i64 (-1)]) (by simp [results, Try.results20, go_sem, x0, x1]) rfl ⟨by rw [HE.out], ?_⟩
    exact (HKA.out.setCell (p := ⟨w.heap.size, 0, none⟩) (.inr (Nat.le_refl _)) _).setCell (p := ⟨w.heap.size, 1, none⟩) (.inr (Nat.le_refl _)) _
  · have HE := Lib.hid (show faultM n o = (0, 0) by unfold faultM; rw [hf]; rfl)
    simp [Ar.fits] at hf
    have d1 : decide (n < 16) = false := by simp; omega
    have d2 : decide (256 < n) = false := by simp; omega
    have d3 : decide (o < 0) = false := by simp; omega
    have d4 : decide (1024 < o) = false := by simp; omega
    clear hf
    go_enter Try.func20, Try.ntmps20
    go_wp2_with fail
    refine bodyPost_ret (v := .agg #[.int .i64 0, .int .i64 0]) (by simp [results, Try.results20, go_sem]) rfl ⟨?_, (Keeps.refl _ _).alloc _⟩
    rw [HE.out]

end Go.Proofs.Ytjifdalflepcoab

namespace Go.Proofs.Ytjifdalflepcoab
set_option linter.unusedVariables false
set_option linter.unusedSimpArgs false

section
variable {A : Ar} {k f : Int}

theorem Ar.make_nur : (A.make k f).2.nur = A.nur := by
  unfold Ar.make; split <;> rfl
theorem Ar.make_len (h : A.ok) : (A.make k f).2.ws.length = A.ws.length := by
  unfold Ar.make
  split
  · rename_i hc
    have hs := fitsW_spec hc.1
    have h1 := h.h1; have h2 := h.h2; have h3 := h.h3
    exact lay_length (by rw [thingW_length hs.2.2.1]; omega)
  · rfl

theorem Ar.copy_cases (i : Int) : (A.copy i = (-1, A)) ∨ ((A.thing i).2.2 = 0 ∧ A.whole i (A.thing i).2.1 = true ∧ 1 + (A.thing i).2.1 ≤ (A.ws.length : Int) - A.grn ∧
    A.copy i = ((A.grn : Int), { A with grn := A.grn + (1 + (A.thing i).2.1).toNat, ws := lay A.ws A.grn ((A.ws.drop i.toNat).take (1 + (A.thing i).2.1).toNat) })) := by
  by_cases hc : (A.thing i).2.2 = 0 ∧ A.whole i (A.thing i).2.1 = true ∧ 1 + (A.thing i).2.1 ≤ (A.ws.length : Int) - A.grn
  · exact .inr ⟨hc.1, hc.2.1, hc.2.2, Ar.copy_yes hc⟩
  · exact .inl (Ar.copy_no hc)

theorem Ar.copy_nur (i : Int) : (A.copy i).2.nur = A.nur := by
  rcases A.copy_cases i with h | ⟨_, _, _, h⟩ <;> rw [h]
theorem Ar.copy_len (h : A.ok) (i : Int) : (A.copy i).2.ws.length = A.ws.length := by
  rcases A.copy_cases i with hc | ⟨h1, h2, h3, hc⟩
  · rw [hc]
  · have hf := A.thing_fields i
    have hs := Ar.whole_spec h hf.1 h2
    have := h.h1; have := h.h2; have := h.h3
    rw [hc]
    exact lay_length (by simp; omega)

end

end Go.Proofs.Ytjifdalflepcoab

namespace Go.Proofs.Ytjifdalflepcoab
open Go.RowKit
set_option linter.unusedVariables false
set_option linter.unusedSimpArgs false

/-- A number in a slice. -/
theorem Rd.nth {w : World} {ao : Option Addr} {l : List Int} (h : Rd w ao (l.map (Value.int .i64))) (i : Nat) (hi : i < l.length) :
    ∃ g o, ao = some ⟨g, o, none⟩ ∧ g < w.heap.size ∧ w.cell? ⟨g, o + i, none⟩ = some (.int .i64 (l.getD i 0)) := by
  obtain ⟨g, o, rfl, hg, hc⟩ := h (by intro e; simp at e; subst e; simp at hi)
  refine ⟨g, o, rfl, hg, ?_⟩
  rw [hc i (by simpa using hi)]
  simp [List.getD, hi]

end Go.Proofs.Ytjifdalflepcoab

namespace Go.Proofs.Ytjifdalflepcoab
open Go.RowKit
set_option linter.unusedVariables false
set_option linter.unusedSimpArgs false

section
variable {p g : Nat} {A : Ar}

theorem lay_more {l m : List Int} {i j : Nat} (hj : j < m.length) (hl : i + m.length ≤ l.length) : (lay l i (m.take j)).set (i + j) (m.getD j 0) = lay l i (m.take (j + 1)) := by
  have e1 : (m.take j).length = j := by simp; omega
  have e2 : (m.take (j + 1)).length = j + 1 := by simp; omega
  have hl1 : (lay l i (m.take j)).length = l.length := lay_length (by rw [e1]; omega)
  apply List.ext_getElem?
  intro k
  rw [List.getElem?_set, lay_get (by rw [e1]; omega), lay_get (by rw [e2]; omega), e1, e2, hl1]
  by_cases hk : i + j = k
  · subst hk
    rw [if_pos rfl, if_pos (by omega), if_pos (by omega), show i + j - i = j by omega, List.getElem?_take, if_pos (by omega), List.getElem?_eq_getElem hj]
    simp [List.getD, hj]
  · rw [if_neg hk]
    by_cases h2 : i ≤ k ∧ k < i + j
    · rw [if_pos h2, if_pos (by omega), List.getElem?_take, List.getElem?_take, if_pos (by omega), if_pos (by omega)]
    · rw [if_neg h2, if_neg (by omega)]

theorem lay_nil (l : List Int) (i : Nat) : lay l i [] = l := by unfold lay; simp

/-- Is a word of a thing where the first one is? -/
def okC (A : Ar) (i : Int) (j : Nat) : Prop := (A.young i = true → A.young (i + j) = true) ∧ (A.old i = true → A.old (i + j) = true)

theorem okC_whole {i : Int} {n : Nat} (h : A.ok) (hu : A.inUse i = true) : (∀ j : Nat, j ≤ n → okC A i j) ↔ A.whole i n = true := by
  have h1 := h.h1; have h2 := h.h2
  unfold Ar.whole okC
  simp only [Ar.inUse, Ar.young, Ar.old, Bool.or_eq_true, Bool.and_eq_true, decide_eq_true_eq] at hu ⊢
  constructor
  · intro hh
    have := hh n (Nat.le_refl _)
    omega
  · intro hh j hj
    omega

set_option maxHeartbeats 4000000 in
set_option maxRecDepth 100000 in
theorem RCopy_c (i : Int) (w : World) (h : RoomAt w p g A) (hi64 : R64 i) :
    Calls Try.prog 26 #[.pointer (some ⟨p, 0, none⟩), .int .i64 i] w fun e w' => e = .returned (.int .i64 (A.copy i).1) ∧ RoomTo w p g w' (A.copy i).2 := by
  have H := Lib.hid h; have HI := Lib.hid hi64
  have o1 := h.ok.h1; have o2 := h.ok.h2; have o3 := h.ok.h3; have o4 := h.ok.h4
  have HOK := Lib.hid (h.ok.copy i)
  have HOA := Lib.hid h.ok
  have hfl := A.thing_fields i
  have hno := Ar.copy_no (A := A) (i := i)
  have hyes := Ar.copy_yes (A := A) (i := i)
  have hws := fun n hn hw => Ar.whole_spec (A := A) h.ok (i := i) (n := n) hn hw
  have husel := fun hu => h.ok.use_lt (i := i) hu
  have huse : (A.thing i).2.2 = 0 → A.inUse i = true := Ar.thing_use
  obtain ⟨⟨k, n, c⟩, hT⟩ : ∃ t, A.thing i = t := ⟨_, rfl⟩
  rw [hT] at hfl hno hyes huse
  dsimp only at hfl hno hyes huse
  have HT := Lib.hid hT
  have hw0 : IntKind.i64.wrap ((A.nur : Int) + ((A.grn - A.nur : Nat) : Int)) = (A.grn : Int) := by rw [show (A.nur : Int) + ((A.grn - A.nur : Nat) : Int) = (A.grn : Int) by omega]; exact IntWalk.i64_in _ (by omega)
  have HW0 := Lib.hid hw0
  obtain ⟨i0, hi, hz0, hz1, hz2⟩ := info_parts info_i64
  have Hi := Lib.hid hi; have Hz0 := Lib.hid hz0; have Hz1 := Lib.hid hz1; have Hz2 := Lib.hid hz2; clear hi hz0 hz1 hz2
  clear h hi64 hT hw0
  by_cases hc : c = 0
  · subst hc
    have hu := huse rfl
    have hul := husel hu
    obtain ⟨m, rfl⟩ : ∃ m : Nat, i = m := ⟨i.toNat, by omega⟩
    obtain ⟨f, rfl⟩ : ∃ f : Nat, n = f := ⟨n.toNat, by omega⟩
    by_cases hr : 1 + (f : Int) ≤ (A.ws.length : Int) - A.grn
    · have hd : decide ((A.ws.length : Int) - A.grn < (f : Int) + 1) = false := by simp; omega
      cases hwh : A.whole m f
      · have HE := Lib.hid (hno (fun h => by rw [hwh] at h; cases h.2.1))
        have HBAD := Lib.hid (show ¬ okC A m f from fun hh => by
          have : A.whole m f = true := (okC_whole HOA.out hu).1 (fun j hj => by
            unfold okC at hh ⊢
            have h1 := HOA.out.h1; have h2 := HOA.out.h2
            simp only [Ar.young, Ar.old, Bool.and_eq_true, decide_eq_true_eq] at hh ⊢
            omega)
          rw [hwh] at this; cases this)
        have HUSE := Lib.hid hu
        clear hno hyes huse hu hwh
        go_enter Try.func26, Try.ntmps26
        go_wp2_with fail
        refine (RThing_c m _ H.out HI.out).mono ?_
        rintro e w1 ⟨rfl, hk1⟩
        rw [HT.out]
        dsimp only
        have H1 := Lib.hid (H.out.keep hk1 (fun h => h) (fun h => h)); have HK1 := Lib.hid hk1
        clear hk1
        obtain ⟨c0, c1, -, c3⟩ := H1.out.cells
        have pl := H1.out.hp.lt
        go_wp2_with fail
        refine wp_region_ro (.free 0 (.free 1 (.free 2 (.free 4 (.free 5 (.free 6 (.pure 3 (.pure 7 (.free 8 (.free 9 (.fin))))))))))) [] (fun w' => w'.cell? ⟨p, 1, none⟩ = some (.int .i64 A.nur) ∧ w'.cell? ⟨p, 3, none⟩ = some (.int .i64 ((A.grn - A.nur : Nat) : Int))) (by kernel_rfl) (by kernel_rfl) ⟨c1, c3⟩ ?_
        first | (refine wpRO_free rfl rfl _ (fun w' => by go_simp; exact Gives.mk _ _) (fun K hK => ?_); go_simp; refine hK _ ?_; clear hK K) | (refine wpRO_skipF rfl rfl (fun K hK => ?_); go_simp; refine hK _ ?_; clear hK K)
        first | (refine wpRO_free rfl rfl _ (fun w' => by go_simp; exact Gives.mk _ _) (fun K hK => ?_); go_simp; refine hK _ ?_; clear hK K) | (refine wpRO_skipF rfl rfl (fun K hK => ?_); go_simp; refine hK _ ?_; clear hK K)
        first | (refine wpRO_free rfl rfl _ (fun w' => by go_simp; exact Gives.mk _ _) (fun K hK => ?_); go_simp; refine hK _ ?_; clear hK K) | (refine wpRO_skipF rfl rfl (fun K hK => ?_); go_simp; refine hK _ ?_; clear hK K)
        first | (refine wpRO_free rfl rfl _ (fun w' => by go_simp; exact Gives.mk _ _) (fun K hK => ?_); go_simp; refine hK _ ?_; clear hK K) | (refine wpRO_skipF rfl rfl (fun K hK => ?_); go_simp; refine hK _ ?_; clear hK K)
        first | (refine wpRO_free rfl rfl _ (fun w' => by go_simp; exact Gives.mk _ _) (fun K hK => ?_); go_simp; refine hK _ ?_; clear hK K) | (refine wpRO_skipF rfl rfl (fun K hK => ?_); go_simp; refine hK _ ?_; clear hK K)
        first | (refine wpRO_free rfl rfl _ (fun w' => by go_simp; exact Gives.mk _ _) (fun K hK => ?_); go_simp; refine hK _ ?_; clear hK K) | (refine wpRO_skipF rfl rfl (fun K hK => ?_); go_simp; refine hK _ ?_; clear hK K)
        first | (refine wpRO_pure rfl rfl _ (fun w' hG => by obtain ⟨g0, g1⟩ := hG; exact gives_agg2 rfl (by decide +kernel) rfl (by assumption) (by assumption)) (fun K hK => ?_); go_simp; refine hK _ ?_; clear hK K) | (refine wpRO_pure rfl rfl _ (fun w' hG => by obtain ⟨g0, g1⟩ := hG; go_simp; exact Gives.mk _ _) (fun K hK => ?_); go_simp; refine hK _ ?_; clear hK K) | (refine wpRO_skip rfl rfl (fun K hK => ?_); go_simp; refine hK _ ?_; clear hK K)
        first | (refine wpRO_pure rfl rfl _ (fun w' hG => by obtain ⟨g0, g1⟩ := hG; exact gives_agg2 rfl (by decide +kernel) rfl (by assumption) (by assumption)) (fun K hK => ?_); go_simp; refine hK _ ?_; clear hK K) | (refine wpRO_pure rfl rfl _ (fun w' hG => by obtain ⟨g0, g1⟩ := hG; go_simp; exact Gives.mk _ _) (fun K hK => ?_); go_simp; refine hK _ ?_; clear hK K) | (refine wpRO_skip rfl rfl (fun K hK => ?_); go_simp; refine hK _ ?_; clear hK K)
        first | (refine wpRO_free rfl rfl _ (fun w' => by go_simp; exact Gives.mk _ _) (fun K hK => ?_); go_simp; refine hK _ ?_; clear hK K) | (refine wpRO_skipF rfl rfl (fun K hK => ?_); go_simp; refine hK _ ?_; clear hK K)
        first | (refine wpRO_free rfl rfl _ (fun w' => by go_simp; exact Gives.mk _ _) (fun K hK => ?_); go_simp; refine hK _ ?_; clear hK K) | (refine wpRO_skipF rfl rfl (fun K hK => ?_); go_simp; refine hK _ ?_; clear hK K)
        refine wpRO_fin ?_
        rw [HW0.out]
        have H2 := Lib.hid (H1.out.keep (Keeps.refl (fun _ => False) w1).drew (fun h => h) (fun h => h)); have HK2 := Lib.hid (HK1.out.drew)
        clear c0 c1 c3 pl
        generalize w1.drew = w2 at *
        obtain ⟨c0, -, -, -⟩ := H2.out.cells
        have pl := H2.out.hp.lt
        go_wp2_with fail
        clear c0 pl hd
        go_loopw [9] (fun i wr => ∃ j : Nat, j ≤ f ∧ i = .int .i64 j ∧ Keeps (fun _ => False) w2 wr) (fun i _ => f + 1 - (intOf i).toNat)
        case atStart => exact ⟨0, Nat.zero_le _, rfl, Keeps.refl _ _⟩
        case round =>
          obtain ⟨j, hj, rfl, hk⟩ := hrel
          have HK := Lib.hid hk; clear hk
          cases hy : A.young m
          · have ho : A.old m = true := by have := HUSE.out; unfold Ar.inUse at this; rw [hy] at this; simpa using this
            cases hoj : A.old ((m : Int) + j)
            · have HOKJ := Lib.hid (show ¬ okC A m j from fun h => by have := h.2 ho; rw [hoj] at this; cases this)
              go_wp2_with fail
              refine (IsYoung_c m _ (H2.out.keep HK.out (fun h => h) (fun h => h))).mono ?_
              rintro e w3 ⟨rfl, rfl⟩
              rw [hy]
              go_wp2_with fail
              refine (IsOld_c m _ (H2.out.keep HK.out (fun h => h) (fun h => h)) HI.out).mono ?_
              rintro e w3 ⟨rfl, hk3⟩
              rw [ho]
              have HK3 := Lib.hid (HK.out.trans hk3)
              clear hk3
              go_wp2_with fail
              refine (IsOld_c ((m : Int) + j) _ (H2.out.keep HK3.out (fun h => h) (fun h => h)) (by unfold R64; omega)).mono ?_
              rintro e w4 ⟨rfl, hk4⟩
              rw [hoj]
              have HK4 := Lib.hid (HK3.out.trans hk4)
              clear hk4
              go_wp2_with fail
              go_ret
              rw [HE.out]
              exact ⟨rfl, RoomTo.refl H.out (HK2.out.trans HK4.out)⟩
            · have HOKJ := Lib.hid (show okC A m j from ⟨fun h => by (rw [hy] at h; cases h), fun _ => hoj⟩)
              go_wp2_with fail
              refine (IsYoung_c m _ (H2.out.keep HK.out (fun h => h) (fun h => h))).mono ?_
              rintro e w3 ⟨rfl, rfl⟩
              rw [hy]
              go_wp2_with fail
              refine (IsOld_c m _ (H2.out.keep HK.out (fun h => h) (fun h => h)) HI.out).mono ?_
              rintro e w3 ⟨rfl, hk3⟩
              rw [ho]
              have HK3 := Lib.hid (HK.out.trans hk3)
              clear hk3
              go_wp2_with fail
              refine (IsOld_c ((m : Int) + j) _ (H2.out.keep HK3.out (fun h => h) (fun h => h)) (by unfold R64; omega)).mono ?_
              rintro e w4 ⟨rfl, hk4⟩
              rw [hoj]
              have HK4 := Lib.hid (HK3.out.trans hk4)
              clear hk4
              go_wp2_with fail
              go_roundw
              case rel => exact ⟨j + 1, by (have h1 : j ≠ f := fun e => by (subst e; exact HBAD.out HOKJ.out)); omega, by go_num, HK4.out⟩
              case measure => simp [intOf]; omega
          · have ho : A.old m = false := by
              have h1 := HOA.out.h1
              simp [Ar.young] at hy; simp [Ar.old]; omega
            cases hyj : A.young ((m : Int) + j)
            · have HOKJ := Lib.hid (show ¬ okC A m j from fun h => by have := h.1 hy; rw [hyj] at this; cases this)
              go_wp2_with fail
              refine (IsYoung_c m _ (H2.out.keep HK.out (fun h => h) (fun h => h))).mono ?_
              rintro e w3 ⟨rfl, rfl⟩
              rw [hy]
              go_wp2_with fail
              refine (IsYoung_c ((m : Int) + j) _ (H2.out.keep HK.out (fun h => h) (fun h => h))).mono ?_
              rintro e w3 ⟨rfl, rfl⟩
              rw [hyj]
              have HK4 := Lib.hid HK.out
              go_wp2_with fail
              go_ret
              rw [HE.out]
              exact ⟨rfl, RoomTo.refl H.out (HK2.out.trans HK4.out)⟩
            · have HOKJ := Lib.hid (show okC A m j from ⟨fun _ => hyj, fun h => by (rw [ho] at h; cases h)⟩)
              go_wp2_with fail
              refine (IsYoung_c m _ (H2.out.keep HK.out (fun h => h) (fun h => h))).mono ?_
              rintro e w3 ⟨rfl, rfl⟩
              rw [hy]
              go_wp2_with fail
              refine (IsYoung_c ((m : Int) + j) _ (H2.out.keep HK.out (fun h => h) (fun h => h))).mono ?_
              rintro e w3 ⟨rfl, rfl⟩
              rw [hyj]
              go_wp2_with fail
              refine (IsOld_c m _ (H2.out.keep HK.out (fun h => h) (fun h => h)) HI.out).mono ?_
              rintro e w3 ⟨rfl, hk3⟩
              rw [ho]
              have HK4 := Lib.hid (HK.out.trans hk3)
              clear hk3
              go_wp2_with fail
              go_roundw
              case rel => exact ⟨j + 1, by (have h1 : j ≠ f := fun e => by (subst e; exact HBAD.out HOKJ.out)); omega, by go_num, HK4.out⟩
              case measure => simp [intOf]; omega
      · skip
        have HE := Lib.hid (hyes ⟨rfl, hwh, hr⟩)
        have HWS := hws f (by omega) hwh
        have HUSE := Lib.hid hu
        have HGOOD := Lib.hid ((okC_whole (n := f) HOA.out hu).2 hwh)
        clear hno hyes huse hu hwh hws husel
        go_enter Try.func26, Try.ntmps26
        go_wp2_with fail
        refine (RThing_c m _ H.out HI.out).mono ?_
        rintro e w1 ⟨rfl, hk1⟩
        rw [HT.out]
        dsimp only
        have H1 := Lib.hid (H.out.keep hk1 (fun h => h) (fun h => h)); have HK1 := Lib.hid hk1
        clear hk1
        obtain ⟨c0, c1, -, c3⟩ := H1.out.cells
        have pl := H1.out.hp.lt
        go_wp2_with fail
        refine wp_region_ro (.free 0 (.free 1 (.free 2 (.free 4 (.free 5 (.free 6 (.pure 3 (.pure 7 (.free 8 (.free 9 (.fin))))))))))) [] (fun w' => w'.cell? ⟨p, 1, none⟩ = some (.int .i64 A.nur) ∧ w'.cell? ⟨p, 3, none⟩ = some (.int .i64 ((A.grn - A.nur : Nat) : Int))) (by kernel_rfl) (by kernel_rfl) ⟨c1, c3⟩ ?_
        first | (refine wpRO_free rfl rfl _ (fun w' => by go_simp; exact Gives.mk _ _) (fun K hK => ?_); go_simp; refine hK _ ?_; clear hK K) | (refine wpRO_skipF rfl rfl (fun K hK => ?_); go_simp; refine hK _ ?_; clear hK K)
        first | (refine wpRO_free rfl rfl _ (fun w' => by go_simp; exact Gives.mk _ _) (fun K hK => ?_); go_simp; refine hK _ ?_; clear hK K) | (refine wpRO_skipF rfl rfl (fun K hK => ?_); go_simp; refine hK _ ?_; clear hK K)
        first | (refine wpRO_free rfl rfl _ (fun w' => by go_simp; exact Gives.mk _ _) (fun K hK => ?_); go_simp; refine hK _ ?_; clear hK K) | (refine wpRO_skipF rfl rfl (fun K hK => ?_); go_simp; refine hK _ ?_; clear hK K)
        first | (refine wpRO_free rfl rfl _ (fun w' => by go_simp; exact Gives.mk _ _) (fun K hK => ?_); go_simp; refine hK _ ?_; clear hK K) | (refine wpRO_skipF rfl rfl (fun K hK => ?_); go_simp; refine hK _ ?_; clear hK K)
        first | (refine wpRO_free rfl rfl _ (fun w' => by go_simp; exact Gives.mk _ _) (fun K hK => ?_); go_simp; refine hK _ ?_; clear hK K) | (refine wpRO_skipF rfl rfl (fun K hK => ?_); go_simp; refine hK _ ?_; clear hK K)
        first | (refine wpRO_free rfl rfl _ (fun w' => by go_simp; exact Gives.mk _ _) (fun K hK => ?_); go_simp; refine hK _ ?_; clear hK K) | (refine wpRO_skipF rfl rfl (fun K hK => ?_); go_simp; refine hK _ ?_; clear hK K)
        first | (refine wpRO_pure rfl rfl _ (fun w' hG => by obtain ⟨g0, g1⟩ := hG; exact gives_agg2 rfl (by decide +kernel) rfl (by assumption) (by assumption)) (fun K hK => ?_); go_simp; refine hK _ ?_; clear hK K) | (refine wpRO_pure rfl rfl _ (fun w' hG => by obtain ⟨g0, g1⟩ := hG; go_simp; exact Gives.mk _ _) (fun K hK => ?_); go_simp; refine hK _ ?_; clear hK K) | (refine wpRO_skip rfl rfl (fun K hK => ?_); go_simp; refine hK _ ?_; clear hK K)
        first | (refine wpRO_pure rfl rfl _ (fun w' hG => by obtain ⟨g0, g1⟩ := hG; exact gives_agg2 rfl (by decide +kernel) rfl (by assumption) (by assumption)) (fun K hK => ?_); go_simp; refine hK _ ?_; clear hK K) | (refine wpRO_pure rfl rfl _ (fun w' hG => by obtain ⟨g0, g1⟩ := hG; go_simp; exact Gives.mk _ _) (fun K hK => ?_); go_simp; refine hK _ ?_; clear hK K) | (refine wpRO_skip rfl rfl (fun K hK => ?_); go_simp; refine hK _ ?_; clear hK K)
        first | (refine wpRO_free rfl rfl _ (fun w' => by go_simp; exact Gives.mk _ _) (fun K hK => ?_); go_simp; refine hK _ ?_; clear hK K) | (refine wpRO_skipF rfl rfl (fun K hK => ?_); go_simp; refine hK _ ?_; clear hK K)
        first | (refine wpRO_free rfl rfl _ (fun w' => by go_simp; exact Gives.mk _ _) (fun K hK => ?_); go_simp; refine hK _ ?_; clear hK K) | (refine wpRO_skipF rfl rfl (fun K hK => ?_); go_simp; refine hK _ ?_; clear hK K)
        refine wpRO_fin ?_
        rw [HW0.out]
        have H2 := Lib.hid (H1.out.keep (Keeps.refl (fun _ => False) w1).drew (fun h => h) (fun h => h)); have HK2 := Lib.hid (HK1.out.drew)
        clear c0 c1 c3 pl
        generalize w1.drew = w2 at *
        obtain ⟨c0, -, -, -⟩ := H2.out.cells
        have pl := H2.out.hp.lt
        go_wp2_with fail
        clear c0 pl hd
        go_loopw [9] (fun i wr => ∃ j : Nat, j ≤ f + 1 ∧ i = .int .i64 j ∧ Keeps (fun _ => False) w2 wr) (fun i _ => f + 1 - (intOf i).toNat)
        case atStart => exact ⟨0, Nat.zero_le _, rfl, Keeps.refl _ _⟩
        case round =>
          obtain ⟨j, hj, rfl, hk⟩ := hrel
          have HK := Lib.hid hk; clear hk
          by_cases hjf : j ≤ f
          · skip
            cases hy : A.young m
            · have ho : A.old m = true := by have := HUSE.out; unfold Ar.inUse at this; rw [hy] at this; simpa using this
              cases hoj : A.old ((m : Int) + j)
              · have HOKJ := Lib.hid (show ¬ okC A m j from fun h => by have := h.2 ho; rw [hoj] at this; cases this)
                go_wp2_with fail
                refine (IsYoung_c m _ (H2.out.keep HK.out (fun h => h) (fun h => h))).mono ?_
                rintro e w3 ⟨rfl, rfl⟩
                rw [hy]
                go_wp2_with fail
                refine (IsOld_c m _ (H2.out.keep HK.out (fun h => h) (fun h => h)) HI.out).mono ?_
                rintro e w3 ⟨rfl, hk3⟩
                rw [ho]
                have HK3 := Lib.hid (HK.out.trans hk3)
                clear hk3
                go_wp2_with fail
                refine (IsOld_c ((m : Int) + j) _ (H2.out.keep HK3.out (fun h => h) (fun h => h)) (by unfold R64; omega)).mono ?_
                rintro e w4 ⟨rfl, hk4⟩
                rw [hoj]
                have HK4 := Lib.hid (HK3.out.trans hk4)
                clear hk4
                exact (HOKJ.out (HGOOD.out j (by omega))).elim
              · have HOKJ := Lib.hid (show okC A m j from ⟨fun h => by (rw [hy] at h; cases h), fun _ => hoj⟩)
                go_wp2_with fail
                refine (IsYoung_c m _ (H2.out.keep HK.out (fun h => h) (fun h => h))).mono ?_
                rintro e w3 ⟨rfl, rfl⟩
                rw [hy]
                go_wp2_with fail
                refine (IsOld_c m _ (H2.out.keep HK.out (fun h => h) (fun h => h)) HI.out).mono ?_
                rintro e w3 ⟨rfl, hk3⟩
                rw [ho]
                have HK3 := Lib.hid (HK.out.trans hk3)
                clear hk3
                go_wp2_with fail
                refine (IsOld_c ((m : Int) + j) _ (H2.out.keep HK3.out (fun h => h) (fun h => h)) (by unfold R64; omega)).mono ?_
                rintro e w4 ⟨rfl, hk4⟩
                rw [hoj]
                have HK4 := Lib.hid (HK3.out.trans hk4)
                clear hk4
                go_wp2_with fail
                go_roundw
                case rel => exact ⟨j + 1, by omega, by go_num, HK4.out⟩
                case measure => simp [intOf]; omega
            · have ho : A.old m = false := by
                have h1 := HOA.out.h1
                simp [Ar.young] at hy; simp [Ar.old]; omega
              cases hyj : A.young ((m : Int) + j)
              · have HOKJ := Lib.hid (show ¬ okC A m j from fun h => by have := h.1 hy; rw [hyj] at this; cases this)
                go_wp2_with fail
                refine (IsYoung_c m _ (H2.out.keep HK.out (fun h => h) (fun h => h))).mono ?_
                rintro e w3 ⟨rfl, rfl⟩
                rw [hy]
                go_wp2_with fail
                refine (IsYoung_c ((m : Int) + j) _ (H2.out.keep HK.out (fun h => h) (fun h => h))).mono ?_
                rintro e w3 ⟨rfl, rfl⟩
                rw [hyj]
                have HK4 := Lib.hid HK.out
                exact (HOKJ.out (HGOOD.out j (by omega))).elim
              · have HOKJ := Lib.hid (show okC A m j from ⟨fun _ => hyj, fun h => by (rw [ho] at h; cases h)⟩)
                go_wp2_with fail
                refine (IsYoung_c m _ (H2.out.keep HK.out (fun h => h) (fun h => h))).mono ?_
                rintro e w3 ⟨rfl, rfl⟩
                rw [hy]
                go_wp2_with fail
                refine (IsYoung_c ((m : Int) + j) _ (H2.out.keep HK.out (fun h => h) (fun h => h))).mono ?_
                rintro e w3 ⟨rfl, rfl⟩
                rw [hyj]
                go_wp2_with fail
                refine (IsOld_c m _ (H2.out.keep HK.out (fun h => h) (fun h => h)) HI.out).mono ?_
                rintro e w3 ⟨rfl, hk3⟩
                rw [ho]
                have HK4 := Lib.hid (HK.out.trans hk3)
                clear hk3
                go_wp2_with fail
                go_roundw
                case rel => exact ⟨j + 1, by omega, by go_num, HK4.out⟩
                case measure => simp [intOf]; omega
          · obtain rfl : j = f + 1 := by omega
            have H3 := Lib.hid (H2.out.keep HK.out (fun h => h) (fun h => h))
            obtain ⟨c0, -, -, c3⟩ := H3.out.cells
            have pl := H3.out.hp.lt
            have hsl : (((A.ws.drop m).take (1 + f)).map (Value.int .i64)).length = 1 + f := by simp; omega
            have HSL := Lib.hid hsl
            have gl := H3.out.hg.lt
            have hne := H3.out.ne; have hne2 := H3.out.ne.symm
            have p3 := H3.out.hp.free 3
            clear hsl hjf hj
            go_upto_region 12 with (at_builtin; refine wpList_appR rfl (.tmp 71) (.tmp 81) 22 rfl 2 i0 (.int .i64 0) 1 8 Try.underlying22 Hi.out Hz0.out Hz1.out Hz2.out rfl (by decide) _ 0 [] rfl (Sl.nil _ _ _) (some ⟨g, m, none⟩) (m + f + 1 - m) _ (((A.ws.drop m).take (1 + f)).map (Value.int .i64)) rfl (by rw [HSL.out]; omega) (Rd.blk H3.out.hg m _ (by rw [HSL.out, ← List.map_drop, ← List.map_take])) int_one' (by unfold maxLen; omega) (by omega) ?_)
            intro v5 w5 hs5 hk5 ho5
            have hk5' : Keeps (fun _ => False) wr w5 := hk5.mono (fun _ _ h => (nil_own h).elim)
            have H5 := Lib.hid (H3.out.keep hk5' (fun h => h) (fun h => h))
            have hnew : ∀ b, ownB v5 b → wr.heap.size ≤ b := fun b hb => by
              rcases ho5 b hb with h | h
              · exact (nil_own h).elim
              · exact h
            have hl5 : m + f + 1 - m = 1 + f := by omega
            rw [hl5] at hs5
            obtain ⟨vo, vc, rfl, -, -, -⟩ := hs5.rd
            have hs5 : Sl w5 2 1 (.slice vo (1 + f) vc) (1 + f) (((A.ws.drop m).take (1 + f)).map (Value.int .i64)) := by simpa [List.map_take, List.map_drop] using hs5
            have HS5 := Lib.hid hs5; have HNW := Lib.hid hnew; have HK5 := Lib.hid ((HK2.out.trans HK.out).trans hk5')
            have HNE5 := Lib.hid (show ∀ b, ownB (.slice vo (1 + f) vc) b → b ≠ g ∧ b ≠ p from fun b hb => by have := hnew b hb; omega)
            clear hs5 hk5 ho5 hk5' hnew hl5 c0 c3 pl gl p3
            obtain ⟨c0, -, -, c3⟩ := H5.out.cells
            have pl := H5.out.hp.lt; have gl := H5.out.hg.lt
            have p3 := H5.out.hp.free 3
            go_upto_region 13 with fail
            have hb0 := (H5.out.hg.setOther (a := ⟨p, 3, none⟩) hne2 (.int .i64 (((A.grn - A.nur : Nat) : Int) + ((f : Int) + 1))))
            have hp0 := (H5.out.hp.setSame 3 (.int .i64 (((A.grn - A.nur : Nat) : Int) + ((f : Int) + 1))))
            have hk0 := (Keeps.refl (fun b => b = p) w5).setCell (p := ⟨p, 3, none⟩) (.inl rfl) (.int .i64 (((A.grn - A.nur : Nat) : Int) + ((f : Int) + 1)))
            have hs0 := HS5.out.keep hk0 (fun b hb e => (HNE5.out b hb).2 e)
            simp only [List.set_cons_zero, List.set_cons_succ] at hp0
            have HB0 := Lib.hid hb0; have HP0 := Lib.hid hp0; have HK0 := Lib.hid hk0; have HS0 := Lib.hid hs0
            clear hb0 hp0 hk0 hs0 c0 c3 pl gl p3 HNW
            generalize w5.setCell ⟨p, 3, none⟩ (.int .i64 (((A.grn - A.nur : Nat) : Int) + ((f : Int) + 1))) = w6 at *
            have hsrcl : ((A.ws.drop m).take (1 + f)).length = 1 + f := by simp; omega
            generalize hsrc : (A.ws.drop m).take (1 + f) = src at *
            have HSRC := Lib.hid hsrc; have HSL2 := Lib.hid hsrcl
            clear hsrc hsrcl
            go_wp2_with fail
            go_loopw [11] (fun i wr => ∃ j : Nat, j ≤ 1 + f ∧ i = .int .i64 j ∧ Blk wr g ((lay A.ws A.grn (src.take j)).map (Value.int .i64)) 2 ∧ Keeps (fun b => b = g) w6 wr) (fun i _ => 1 + f - (intOf i).toNat)
            case atStart => exact ⟨0, Nat.zero_le _, rfl, by rw [List.take_zero, lay_nil]; exact HB0.out, Keeps.refl _ _⟩
            case round =>
              obtain ⟨j, hj, rfl, hb, hk⟩ := hrel
              have HB := Lib.hid hb; have HK6 := Lib.hid hk
              have hpr := hk.blk HP0.out hne
              have c0 := hpr.cell 0
              have pl := hpr.lt; have gl := hb.lt
              simp only [List.getElem?_cons_zero] at c0
              have HPR := Lib.hid hpr
              by_cases hlt2 : j < 1 + f
              · have f4 := hb.free (A.grn + j)
                have c4 : ∃ v, wr.cell? ⟨g, A.grn + j, none⟩ = some v := by
                  have hl : (lay A.ws A.grn (src.take j)).length = A.ws.length := lay_length (by rw [List.length_take, HSL2.out]; omega)
                  rw [hb.cell, List.getElem?_map, List.getElem?_eq_getElem (by rw [hl]; omega)]
                  exact ⟨_, rfl⟩
                obtain ⟨v4, c4⟩ := c4
                obtain ⟨_, _, e', hrd, -, -⟩ := (HS0.out.keep hk (fun b hb e => (HNE5.out b hb).1 e)).rd
                cases e'
                obtain ⟨gs, os, rfl, gsl, g0⟩ := hrd.nth j (by rw [HSL2.out]; exact hlt2)
                have hix : (A.grn : Int) + j < A.ws.length := by omega
                have hw3 : ((A.grn : Int) + j).toNat = A.grn + j := by omega
                have hw4 : (0 : Int) ≤ (A.grn : Int) + j := by omega
                have hw2 : IntKind.i64.wrap ((A.grn : Int) + j) = (A.grn : Int) + j := IntWalk.i64_in _ (by omega)
                have HST := Lib.hid (lay_more (l := A.ws) (m := src) (i := A.grn) (j := j) (by rw [HSL2.out]; exact hlt2) (by rw [HSL2.out]; omega))
                clear hb hk hpr hrd
                generalize src.getD j 0 = y at *
                go_wp2_with fail
                refine wp_region_ro (.free 0 (.free 1 (.free 2 (.free 4 (.free 5 (.free 6 (.free 7 (.free 8 (.free 9 (.pure 3 (.pure 10 (.free 11 (.run 12 (.swi [] (.fin))))))))))))))) [12] (fun w' => w'.cell? ⟨p, 0, none⟩ = some (.slice (some ⟨g, 0, none⟩) A.ws.length A.ws.length) ∧ w'.cell? ⟨gs, os + j, none⟩ = some (.int .i64 y)) (by kernel_rfl) (by kernel_rfl) ⟨c0, g0⟩ ?_
                first | (refine wpRO_free rfl rfl _ (fun w' => by go_simp; exact Gives.mk _ _) (fun K hK => ?_); go_simp; refine hK _ ?_; clear hK K) | (refine wpRO_skipF rfl rfl (fun K hK => ?_); go_simp; refine hK _ ?_; clear hK K)
                first | (refine wpRO_free rfl rfl _ (fun w' => by go_simp; exact Gives.mk _ _) (fun K hK => ?_); go_simp; refine hK _ ?_; clear hK K) | (refine wpRO_skipF rfl rfl (fun K hK => ?_); go_simp; refine hK _ ?_; clear hK K)
                first | (refine wpRO_free rfl rfl _ (fun w' => by go_simp; exact Gives.mk _ _) (fun K hK => ?_); go_simp; refine hK _ ?_; clear hK K) | (refine wpRO_skipF rfl rfl (fun K hK => ?_); go_simp; refine hK _ ?_; clear hK K)
                first | (refine wpRO_free rfl rfl _ (fun w' => by go_simp; exact Gives.mk _ _) (fun K hK => ?_); go_simp; refine hK _ ?_; clear hK K) | (refine wpRO_skipF rfl rfl (fun K hK => ?_); go_simp; refine hK _ ?_; clear hK K)
                first | (refine wpRO_free rfl rfl _ (fun w' => by go_simp; exact Gives.mk _ _) (fun K hK => ?_); go_simp; refine hK _ ?_; clear hK K) | (refine wpRO_skipF rfl rfl (fun K hK => ?_); go_simp; refine hK _ ?_; clear hK K)
                first | (refine wpRO_free rfl rfl _ (fun w' => by go_simp; exact Gives.mk _ _) (fun K hK => ?_); go_simp; refine hK _ ?_; clear hK K) | (refine wpRO_skipF rfl rfl (fun K hK => ?_); go_simp; refine hK _ ?_; clear hK K)
                first | (refine wpRO_free rfl rfl _ (fun w' => by go_simp; exact Gives.mk _ _) (fun K hK => ?_); go_simp; refine hK _ ?_; clear hK K) | (refine wpRO_skipF rfl rfl (fun K hK => ?_); go_simp; refine hK _ ?_; clear hK K)
                first | (refine wpRO_free rfl rfl _ (fun w' => by go_simp; exact Gives.mk _ _) (fun K hK => ?_); go_simp; refine hK _ ?_; clear hK K) | (refine wpRO_skipF rfl rfl (fun K hK => ?_); go_simp; refine hK _ ?_; clear hK K)
                first | (refine wpRO_free rfl rfl _ (fun w' => by go_simp; exact Gives.mk _ _) (fun K hK => ?_); go_simp; refine hK _ ?_; clear hK K) | (refine wpRO_skipF rfl rfl (fun K hK => ?_); go_simp; refine hK _ ?_; clear hK K)
                first | (refine wpRO_pure rfl rfl _ (fun w' hG => by obtain ⟨g0, g1⟩ := hG; exact gives_agg2 rfl (by decide +kernel) rfl (by assumption) (by assumption)) (fun K hK => ?_); go_simp; refine hK _ ?_; clear hK K) | (refine wpRO_pure rfl rfl _ (fun w' hG => by obtain ⟨g0, g1⟩ := hG; go_simp; exact Gives.mk _ _) (fun K hK => ?_); go_simp; refine hK _ ?_; clear hK K) | (refine wpRO_skip rfl rfl (fun K hK => ?_); go_simp; refine hK _ ?_; clear hK K)
                first | (refine wpRO_pure rfl rfl _ (fun w' hG => by obtain ⟨g0, g1⟩ := hG; exact gives_agg2 rfl (by decide +kernel) rfl (by assumption) (by assumption)) (fun K hK => ?_); go_simp; refine hK _ ?_; clear hK K) | (refine wpRO_pure rfl rfl _ (fun w' hG => by obtain ⟨g0, g1⟩ := hG; go_simp; exact Gives.mk _ _) (fun K hK => ?_); go_simp; refine hK _ ?_; clear hK K) | (refine wpRO_skip rfl rfl (fun K hK => ?_); go_simp; refine hK _ ?_; clear hK K)
                first | (refine wpRO_free rfl rfl _ (fun w' => by go_simp; exact Gives.mk _ _) (fun K hK => ?_); go_simp; refine hK _ ?_; clear hK K) | (refine wpRO_skipF rfl rfl (fun K hK => ?_); go_simp; refine hK _ ?_; clear hK K)
                refine wpRO_chg rfl rfl rfl (fun K hK => ?_); unfold gRun; go_simp
                refine hK _ _ ?_
                clear hK K
                refine wpRO_swi (fun _ => True) trivial (wpRO_fin ?_)
                clear hw2 hw3 hw4
                have hb2 : Blk (wr.setCell ⟨g, A.grn + j, none⟩ (.int .i64 y)) g ((lay A.ws A.grn (src.take (j + 1))).map (Value.int .i64)) 2 := by
                  rw [← HST.out, List.map_set]; exact HB.out.setSame _ _
                have HB2 := Lib.hid hb2
                have HK7 := Lib.hid (HK6.out.setCell (p := ⟨g, A.grn + j, none⟩) (.inl rfl) (.int .i64 y))
                clear hb2 c0 c4 f4 g0
                go_wp2_with fail
                go_roundw
                case rel => exact ⟨j + 1, by omega, by go_num, HB2.out.drew, HK7.out.drew⟩
                case measure => simp [intOf]; omega
              · obtain rfl : j = 1 + f := by omega
                clear hb hk hpr
                go_wp2_with fail
                go_ret
                have hok := HOK.out
                rw [HE.out] at hok ⊢
                have e1 : (1 + (f : Int)).toNat = 1 + f := by omega
                have e2 : ((m : Int)).toNat = m := by omega
                dsimp only at hok ⊢
                rw [e1, e2, HSRC.out] at hok ⊢
                have hb9 := HB.out
                rw [List.take_of_length_le (by rw [HSL2.out]; exact Nat.le_refl _)] at hb9
                have hl : (lay A.ws A.grn src).length = A.ws.length := lay_length (by rw [HSL2.out]; omega)
                refine ⟨rfl, ⟨?_, hb9, hok⟩, ?_⟩
                · have := HPR.out
                  dsimp only
                  rw [hl, show ((A.grn + (1 + f) - A.nur : Nat) : Int) = ((A.grn - A.nur : Nat) : Int) + ((f : Int) + 1) by omega]; exact this
                · exact ((HK5.out.mono (fun _ _ h => h.elim)).trans (HK0.out.mono (fun _ _ h => .inl h))).trans (HK6.out.mono (fun _ _ h => .inr h))
    · have HE := Lib.hid (hno (fun h => hr h.2.2))
      have hd : decide ((A.ws.length : Int) - A.grn < (f : Int) + 1) = true := by simp; omega
      clear hno hyes huse hu hr
      go_enter Try.func26, Try.ntmps26
      go_wp2_with fail
      refine (RThing_c m _ H.out HI.out).mono ?_
      rintro e w1 ⟨rfl, hk1⟩
      rw [HT.out]
      dsimp only
      have H1 := Lib.hid (H.out.keep hk1 (fun h => h) (fun h => h)); have HK1 := Lib.hid hk1
      clear hk1
      obtain ⟨c0, c1, -, c3⟩ := H1.out.cells
      have pl := H1.out.hp.lt
      go_wp2_with fail
      refine wp_region_ro (.free 0 (.free 1 (.free 2 (.free 4 (.free 5 (.free 6 (.pure 3 (.pure 7 (.free 8 (.free 9 (.fin))))))))))) [] (fun w' => w'.cell? ⟨p, 1, none⟩ = some (.int .i64 A.nur) ∧ w'.cell? ⟨p, 3, none⟩ = some (.int .i64 ((A.grn - A.nur : Nat) : Int))) (by kernel_rfl) (by kernel_rfl) ⟨c1, c3⟩ ?_
      first | (refine wpRO_free rfl rfl _ (fun w' => by go_simp; exact Gives.mk _ _) (fun K hK => ?_); go_simp; refine hK _ ?_; clear hK K) | (refine wpRO_skipF rfl rfl (fun K hK => ?_); go_simp; refine hK _ ?_; clear hK K)
      first | (refine wpRO_free rfl rfl _ (fun w' => by go_simp; exact Gives.mk _ _) (fun K hK => ?_); go_simp; refine hK _ ?_; clear hK K) | (refine wpRO_skipF rfl rfl (fun K hK => ?_); go_simp; refine hK _ ?_; clear hK K)
      first | (refine wpRO_free rfl rfl _ (fun w' => by go_simp; exact Gives.mk _ _) (fun K hK => ?_); go_simp; refine hK _ ?_; clear hK K) | (refine wpRO_skipF rfl rfl (fun K hK => ?_); go_simp; refine hK _ ?_; clear hK K)
      first | (refine wpRO_free rfl rfl _ (fun w' => by go_simp; exact Gives.mk _ _) (fun K hK => ?_); go_simp; refine hK _ ?_; clear hK K) | (refine wpRO_skipF rfl rfl (fun K hK => ?_); go_simp; refine hK _ ?_; clear hK K)
      first | (refine wpRO_free rfl rfl _ (fun w' => by go_simp; exact Gives.mk _ _) (fun K hK => ?_); go_simp; refine hK _ ?_; clear hK K) | (refine wpRO_skipF rfl rfl (fun K hK => ?_); go_simp; refine hK _ ?_; clear hK K)
      first | (refine wpRO_free rfl rfl _ (fun w' => by go_simp; exact Gives.mk _ _) (fun K hK => ?_); go_simp; refine hK _ ?_; clear hK K) | (refine wpRO_skipF rfl rfl (fun K hK => ?_); go_simp; refine hK _ ?_; clear hK K)
      first | (refine wpRO_pure rfl rfl _ (fun w' hG => by obtain ⟨g0, g1⟩ := hG; exact gives_agg2 rfl (by decide +kernel) rfl (by assumption) (by assumption)) (fun K hK => ?_); go_simp; refine hK _ ?_; clear hK K) | (refine wpRO_pure rfl rfl _ (fun w' hG => by obtain ⟨g0, g1⟩ := hG; go_simp; exact Gives.mk _ _) (fun K hK => ?_); go_simp; refine hK _ ?_; clear hK K) | (refine wpRO_skip rfl rfl (fun K hK => ?_); go_simp; refine hK _ ?_; clear hK K)
      first | (refine wpRO_pure rfl rfl _ (fun w' hG => by obtain ⟨g0, g1⟩ := hG; exact gives_agg2 rfl (by decide +kernel) rfl (by assumption) (by assumption)) (fun K hK => ?_); go_simp; refine hK _ ?_; clear hK K) | (refine wpRO_pure rfl rfl _ (fun w' hG => by obtain ⟨g0, g1⟩ := hG; go_simp; exact Gives.mk _ _) (fun K hK => ?_); go_simp; refine hK _ ?_; clear hK K) | (refine wpRO_skip rfl rfl (fun K hK => ?_); go_simp; refine hK _ ?_; clear hK K)
      first | (refine wpRO_free rfl rfl _ (fun w' => by go_simp; exact Gives.mk _ _) (fun K hK => ?_); go_simp; refine hK _ ?_; clear hK K) | (refine wpRO_skipF rfl rfl (fun K hK => ?_); go_simp; refine hK _ ?_; clear hK K)
      first | (refine wpRO_free rfl rfl _ (fun w' => by go_simp; exact Gives.mk _ _) (fun K hK => ?_); go_simp; refine hK _ ?_; clear hK K) | (refine wpRO_skipF rfl rfl (fun K hK => ?_); go_simp; refine hK _ ?_; clear hK K)
      refine wpRO_fin ?_
      rw [HW0.out]
      go_wp2_with fail
      go_ret
      rw [HE.out]
      exact ⟨rfl, RoomTo.refl H.out (HK1.out.drew)⟩
  · have HE := Lib.hid (hno (fun h => hc h.1))
    have hcb : (c != 0) = true := by simpa using hc
    clear hno hyes huse hc
    go_enter Try.func26, Try.ntmps26
    go_wp2_with fail
    refine (RThing_c i _ H.out HI.out).mono ?_
    rintro e w1 ⟨rfl, hk1⟩
    rw [HT.out]
    dsimp only
    have H1 := Lib.hid (H.out.keep hk1 (fun h => h) (fun h => h)); have HK1 := Lib.hid hk1
    clear hk1
    obtain ⟨c0, c1, -, c3⟩ := H1.out.cells
    have pl := H1.out.hp.lt
    go_wp2_with fail
    refine wp_region_ro (.free 0 (.free 1 (.free 2 (.free 4 (.free 5 (.free 6 (.pure 3 (.pure 7 (.free 8 (.free 9 (.fin))))))))))) [] (fun w' => w'.cell? ⟨p, 1, none⟩ = some (.int .i64 A.nur) ∧ w'.cell? ⟨p, 3, none⟩ = some (.int .i64 ((A.grn - A.nur : Nat) : Int))) (by kernel_rfl) (by kernel_rfl) ⟨c1, c3⟩ ?_
    first | (refine wpRO_free rfl rfl _ (fun w' => by go_simp; exact Gives.mk _ _) (fun K hK => ?_); go_simp; refine hK _ ?_; clear hK K) | (refine wpRO_skipF rfl rfl (fun K hK => ?_); go_simp; refine hK _ ?_; clear hK K)
    first | (refine wpRO_free rfl rfl _ (fun w' => by go_simp; exact Gives.mk _ _) (fun K hK => ?_); go_simp; refine hK _ ?_; clear hK K) | (refine wpRO_skipF rfl rfl (fun K hK => ?_); go_simp; refine hK _ ?_; clear hK K)
    first | (refine wpRO_free rfl rfl _ (fun w' => by go_simp; exact Gives.mk _ _) (fun K hK => ?_); go_simp; refine hK _ ?_; clear hK K) | (refine wpRO_skipF rfl rfl (fun K hK => ?_); go_simp; refine hK _ ?_; clear hK K)
    first | (refine wpRO_free rfl rfl _ (fun w' => by go_simp; exact Gives.mk _ _) (fun K hK => ?_); go_simp; refine hK _ ?_; clear hK K) | (refine wpRO_skipF rfl rfl (fun K hK => ?_); go_simp; refine hK _ ?_; clear hK K)
    first | (refine wpRO_free rfl rfl _ (fun w' => by go_simp; exact Gives.mk _ _) (fun K hK => ?_); go_simp; refine hK _ ?_; clear hK K) | (refine wpRO_skipF rfl rfl (fun K hK => ?_); go_simp; refine hK _ ?_; clear hK K)
    first | (refine wpRO_free rfl rfl _ (fun w' => by go_simp; exact Gives.mk _ _) (fun K hK => ?_); go_simp; refine hK _ ?_; clear hK K) | (refine wpRO_skipF rfl rfl (fun K hK => ?_); go_simp; refine hK _ ?_; clear hK K)
    first | (refine wpRO_pure rfl rfl _ (fun w' hG => by obtain ⟨g0, g1⟩ := hG; exact gives_agg2 rfl (by decide +kernel) rfl (by assumption) (by assumption)) (fun K hK => ?_); go_simp; refine hK _ ?_; clear hK K) | (refine wpRO_pure rfl rfl _ (fun w' hG => by obtain ⟨g0, g1⟩ := hG; go_simp; exact Gives.mk _ _) (fun K hK => ?_); go_simp; refine hK _ ?_; clear hK K) | (refine wpRO_skip rfl rfl (fun K hK => ?_); go_simp; refine hK _ ?_; clear hK K)
    first | (refine wpRO_pure rfl rfl _ (fun w' hG => by obtain ⟨g0, g1⟩ := hG; exact gives_agg2 rfl (by decide +kernel) rfl (by assumption) (by assumption)) (fun K hK => ?_); go_simp; refine hK _ ?_; clear hK K) | (refine wpRO_pure rfl rfl _ (fun w' hG => by obtain ⟨g0, g1⟩ := hG; go_simp; exact Gives.mk _ _) (fun K hK => ?_); go_simp; refine hK _ ?_; clear hK K) | (refine wpRO_skip rfl rfl (fun K hK => ?_); go_simp; refine hK _ ?_; clear hK K)
    first | (refine wpRO_free rfl rfl _ (fun w' => by go_simp; exact Gives.mk _ _) (fun K hK => ?_); go_simp; refine hK _ ?_; clear hK K) | (refine wpRO_skipF rfl rfl (fun K hK => ?_); go_simp; refine hK _ ?_; clear hK K)
    first | (refine wpRO_free rfl rfl _ (fun w' => by go_simp; exact Gives.mk _ _) (fun K hK => ?_); go_simp; refine hK _ ?_; clear hK K) | (refine wpRO_skipF rfl rfl (fun K hK => ?_); go_simp; refine hK _ ?_; clear hK K)
    refine wpRO_fin ?_
    go_wp2_with fail
    go_ret
    rw [HE.out]
    exact ⟨rfl, RoomTo.refl H.out (HK1.out.drew)⟩
end

end Go.Proofs.Ytjifdalflepcoab

namespace Go.Proofs.Ytjifdalflepcoab
open Go.RowKit
set_option linter.unusedVariables false
set_option linter.unusedSimpArgs false

theorem mem_at {l : List Int} {k : Nat} {n : Int} (h : k < l.length) (e : l.getD k 0 = n) : n ∈ l := by
  simp [List.getD, h] at e
  exact e ▸ List.getElem_mem h

theorem mem_step {l : List Int} {k : Nat} {n : Int} (h : k < l.length) (hno : n ∉ l.take k) (e : l.getD k 0 ≠ n) : n ∉ l.take (k + 1) := by
  rw [List.take_succ_eq_append_getElem h]
  simp only [List.getD, h, List.getElem?_eq_getElem, Option.getD_some] at e
  simp only [List.mem_append, List.mem_singleton]
  rintro (h1 | h1)
  · exact hno h1
  · exact e h1.symm

set_option maxHeartbeats 1000000 in
theorem In_c (ao : Option Addr) (cap : Nat) (l : List Int) (n : Int) (w : World) (h : Rd w ao (l.map (Value.int .i64))) (hl : l.length ≤ 9223372036854775806) :
    Calls Try.prog 53 #[.slice ao l.length cap, .int .i64 n] w fun e w' => e = .returned (.bool (decide (n ∈ l))) ∧ w = w' := by
  have HR := Lib.hid h; clear h
  go_enter Try.func53, Try.ntmps53
  go_wp2
  go_loop [5] (fun i => ∃ k : Nat, k ≤ l.length ∧ i = .int .i64 k ∧ n ∉ l.take k) (fun i => l.length - (intOf i).toNat)
  case atStart => exact ⟨0, Nat.zero_le _, rfl, by simp⟩
  case round =>
    obtain ⟨k, hk, rfl, hno⟩ := hrel
    have HN := Lib.hid hno; clear hno
    by_cases hlt : k < l.length
    · obtain ⟨g, o, rfl, hc⟩ := HR.out.int k hlt
      generalize hv : l.getD k 0 = v at *
      have HV := Lib.hid hv; clear hv
      by_cases e : v = n
      · have he : (v == n) = true := by simpa using e
        go_wp2
        go_ret
        exact ⟨ret_bool (decide_eq_true (mem_at hlt (by rw [HV.out]; exact e))).symm, rfl⟩
      · have he : (v == n) = false := by simpa using e
        go_wp2
        go_round
        case rel => exact ⟨k + 1, by omega, by go_num, mem_step hlt HN.out (by rw [HV.out]; exact e)⟩
        case measure => simp [intOf]; omega
    · go_wp2
      go_ret
      exact ⟨ret_bool (decide_eq_false (by have h := HN.out; rw [List.take_of_length_le (by omega)] at h; exact h)).symm, rfl⟩

theorem count_rep (n : Nat) : countL (List.replicate n false) = 0 := by simp [countL, List.filter_replicate]

theorem count_set {l : List Bool} : ∀ {k : Nat}, k < l.length → countL (l.set k true) = if l.getD k false then countL l else countL l + 1 := by
  induction l with
  | nil => intro k h; simp at h
  | cons a l ih =>
    intro k h
    cases k with
    | zero => cases a <;> simp [countL]
    | succ k =>
      have := ih (k := k) (by simpa using h)
      cases a <;> simp [countL] at this ⊢ <;> split at this <;> simp_all

end Go.Proofs.Ytjifdalflepcoab

namespace Go.Proofs.Ytjifdalflepcoab
open Go.RowKit
set_option linter.unusedVariables false
set_option linter.unusedSimpArgs false

/-- A wood; a Room, roots, a list of marked cards. -/
structure DW (w0 w : World) (p : Nat) (h : WH) (q gq gr : Nat) (O : Wo) (A : Ar) (L : List Int) (dv : Value) (ds : List Int) : Prop where
  M : WM w0 w p h O
  R : RoomAt w q gq A
  G : Blk w gr (L.map (Value.int .i64)) 2
  D : Sl w 3 1 dv ds.length (ds.map (Value.int .i64))
  aq : ¬ h.Own q
  ag : ¬ h.Own gq
  ar : ¬ h.Own gr
  ad : ∀ k, ownB dv k → ¬ h.Own k
  nq : w0.heap.size ≤ q
  ng : w0.heap.size ≤ gq
  nr : w0.heap.size ≤ gr
  nd : ∀ k, ownB dv k → w0.heap.size ≤ k
  ne : gq ≠ gr

section
variable {w0 w w' : World} {p : Nat} {h : WH} {q gq gr : Nat} {O O' : Wo} {A A' : Ar} {L : List Int} {dv : Value} {ds : List Int}

theorem DW.wood (D : DW w0 w p h q gq gr O A L dv ds) (t : WoodTo w h w' O') : ∃ h', DW w0 w' p h' q gq gr O' A L dv ds := by
  obtain ⟨h', H', e', k', o'⟩ := t
  have old : ∀ k, ¬ h.Own k → k < w.heap.size → ¬ h'.Own k := fun k hk hl hn => by
    rcases o' k hn with h1 | h1
    · exact hk h1
    · omega
  refine ⟨h', ⟨H', e'.trans D.M.e, D.M.K.then k' (fun b hb => .inr (D.M.own b hb)), fun b hb => ?_⟩, D.R.keep k' D.aq D.ag, k'.blk D.G D.ar, D.D.keep k' D.ad, old _ D.aq D.R.hp.lt, old _ D.ag D.R.hg.lt, old _ D.ar D.G.lt,
    fun k hk => old _ (D.ad k hk) (D.D.own hk).1, D.nq, D.ng, D.nr, D.nd, D.ne⟩
  rcases o' b hb with h1 | h1
  · exact D.M.own b h1
  · have := D.M.K.size; omega

theorem DW.room (D : DW w0 w p h q gq gr O A L dv ds) (t : RoomTo w q gq w' A') : DW w0 w' p h q gq gr O A' L dv ds := by
  refine ⟨⟨D.M.H.keep t.k ?_, D.M.e, D.M.K.then t.k ?_, D.M.own⟩, t.at_, t.k.blk D.G ?_, D.D.keep t.k ?_, D.aq, D.ag, D.ar, D.ad, D.nq, D.ng, D.nr, D.nd, D.ne⟩
  · rintro b hb (rfl | rfl)
    · exact D.aq hb
    · exact D.ag hb
  · rintro k (rfl | rfl)
    · exact .inr D.nq
    · exact .inr D.ng
  · rintro (e | e)
    · exact D.G.ne D.R.hp (by decide) e
    · exact D.ne e.symm
  · rintro k hk (e | e)
    · obtain ⟨-, cur, hb⟩ := D.D.own hk
      exact hb.ne D.R.hp (by decide) e
    · obtain ⟨-, cur, hb⟩ := D.D.own hk
      exact hb.ne D.R.hg (by decide) e

theorem DW.setL (D : DW w0 w p h q gq gr O A L dv ds) (k : Nat) (x : Int) : DW w0 (w.setCell ⟨gr, k, none⟩ (.int .i64 x)) p h q gq gr O A (L.set k x) dv ds := by
  have kk : Keeps (· = gr) w (w.setCell ⟨gr, k, none⟩ (.int .i64 x)) := (Keeps.refl (· = gr) w).setCell (p := ⟨gr, k, none⟩) (.inl rfl) _
  refine ⟨⟨D.M.H.keep kk ?_, D.M.e, D.M.K.then kk ?_, D.M.own⟩, D.R.keep kk ?_ ?_, ?_, D.D.keep kk ?_, D.aq, D.ag, D.ar, D.ad, D.nq, D.ng, D.nr, D.nd, D.ne⟩
  · rintro b hb rfl; exact D.ar hb
  · rintro k rfl; exact .inr D.nr
  · intro e; exact D.R.hp.ne D.G (by decide) e
  · exact D.ne
  · rw [List.map_set]; exact D.G.setSame k (.int .i64 x)
  · rintro k hk e
    obtain ⟨-, cur, hb⟩ := D.D.own hk
    exact hb.ne D.G (by decide) e

theorem DW.same (D : DW w0 w p h q gq gr O A L dv ds) (k : Keeps (fun _ => False) w w') : DW w0 w' p h q gq gr O A L dv ds :=
  ⟨D.M.same k, D.R.keep k (fun h => h) (fun h => h), k.blk D.G (fun h => h), D.D.keep k (fun _ _ h => h), D.aq, D.ag, D.ar, D.ad, D.nq, D.ng, D.nr, D.nd, D.ne⟩

theorem DW.app (D : DW w0 w p h q gq gr O A L dv ds) {v2 : Value} {x : Int} (hs : Sl w' 3 1 v2 (ds.length + 1) (ds.map (Value.int .i64) ++ [.int .i64 x])) (hk : Keeps (ownB dv) w w') (ho : ∀ k, ownB v2 k → ownB dv k ∨ w.heap.size ≤ k) :
    DW w0 w' p h q gq gr O A L v2 (ds ++ [x]) := by
  have tp : ∀ {k : Nat} {c : List Value} {T : TypeId}, Blk w k c T → T ≠ 3 → ¬ ownB dv k := fun hb hT hk => by
    obtain ⟨-, cur, hb2⟩ := D.D.own hk
    exact hb.ne hb2 hT rfl
  refine ⟨⟨D.M.H.keep hk (fun b hb hd => D.ad b hd hb), D.M.e, D.M.K.then hk (fun b hb => .inr (D.nd b hb)), D.M.own⟩, D.R.keep hk (tp D.R.hp (by decide)) (tp D.R.hg (by decide)), hk.blk D.G (tp D.G (by decide)), ?_, D.aq, D.ag, D.ar, fun k hk2 hn => ?_, D.nq, D.ng, D.nr, fun k hk2 => ?_, D.ne⟩
  · rw [List.length_append, List.map_append]; exact hs
  · rcases ho k hk2 with h1 | h1
    · exact D.ad k h1 hn
    · have := D.M.H.own_lt hn; omega
  · rcases ho k hk2 with h1 | h1
    · exact D.nd k h1
    · have := D.M.K.size; omega

/-- The box of a step is none of these blocks. -/
theorem DW.nb (D : DW w0 w p h q gq gr O A L dv ds) {b : Nat} {c : List Value} (hb : Blk w b c 61) : ¬ h.Own b ∧ ¬ (b = q ∨ b = gq) ∧ b ≠ gr ∧ ¬ ownB dv b := by
  refine ⟨fun hn => ?_, ?_, hb.ne D.G (by decide), fun hk => ?_⟩
  · obtain ⟨c2, T, hc, hT⟩ := D.M.H.own_type hn
    rcases hT with rfl | rfl | rfl | rfl | rfl | rfl | rfl <;> exact hb.ne hc (by decide) rfl
  · rintro (e | e)
    · exact hb.ne D.R.hp (by decide) e
    · exact hb.ne D.R.hg (by decide) e
  · obtain ⟨-, cur, hb2⟩ := D.D.own hk
    exact hb.ne hb2 (by decide) rfl

/-- The same, and a step's box. -/
structure DX (w0 w : World) (p : Nat) (h : WH) (q gq gr : Nat) (O : Wo) (A : Ar) (L : List Int) (dv : Value) (ds : List Int) (b : Nat) (c : List Value) : Prop where
  D : DW w0 w p h q gq gr O A L dv ds
  B : Blk w b c 61

variable {b : Nat} {c : List Value}

theorem DX.wood (D : DX w0 w p h q gq gr O A L dv ds b c) (t : WoodTo w h w' O') : ∃ h', DX w0 w' p h' q gq gr O' A L dv ds b c := by
  obtain ⟨h', D'⟩ := D.D.wood t
  obtain ⟨-, -, -, k', -⟩ := t
  exact ⟨h', D', k'.blk D.B (D.D.nb D.B).1⟩

theorem DX.setL (D : DX w0 w p h q gq gr O A L dv ds b c) (k : Nat) (x : Int) : DX w0 (w.setCell ⟨gr, k, none⟩ (.int .i64 x)) p h q gq gr O A (L.set k x) dv ds b c :=
  ⟨D.D.setL k x, D.B.setOther (a := ⟨gr, k, none⟩) (D.D.nb D.B).2.2.1 _⟩

theorem DX.arena (D : DX w0 w p h q gq gr O A L dv ds b c) {B : Ar} (t : ArenaTo w h.pa h.g w' B) (hn : B.nur = O.ar.nur) : DX w0 w' p h q gq gr { O with ar := B } A L dv ds b c := by
  have kk : Keeps h.Own w w' := t.k.mono (fun k _ hk => .inr (.inl hk))
  exact ⟨⟨⟨D.D.M.H.arena t hn, D.D.M.e, D.D.M.K.then kk (fun b hb => .inr (D.D.M.own b hb)), D.D.M.own⟩, D.D.R.keep kk D.D.aq D.D.ag, kk.blk D.D.G D.D.ar, D.D.D.keep kk D.D.ad, D.D.aq, D.D.ag, D.D.ar, D.D.ad, D.D.nq, D.D.ng, D.D.nr, D.D.nd, D.D.ne⟩, kk.blk D.B (D.D.nb D.B).1⟩

theorem DX.both (D : DX w0 w p h q gq gr O A L dv ds b c) {g o cap k : Nat} {x : Int} (e : h.ro = .slice (some ⟨g, o, none⟩) O.rt.length cap) (hk : k < O.rt.length) (hx : R64 x) :
    ∃ h', DX w0 ((w.setCell ⟨g, o + k, none⟩ (.int .i64 x)).setCell ⟨gr, k, none⟩ (.int .i64 x)) p h' q gq gr { O with rt := O.rt.set k x } A (L.set k x) dv ds b c := by
  obtain ⟨h', D'⟩ := D.wood (WoodTo.setRoot D.D.M.H e hk hx)
  exact ⟨h', D'.setL k x⟩

theorem DX.room (D : DX w0 w p h q gq gr O A L dv ds b c) (t : RoomTo w q gq w' A') : DX w0 w' p h q gq gr O A' L dv ds b c :=
  ⟨D.D.room t, t.k.blk D.B (D.D.nb D.B).2.1⟩

theorem DX.same (D : DX w0 w p h q gq gr O A L dv ds b c) (k : Keeps (fun _ => False) w w') : DX w0 w' p h q gq gr O A L dv ds b c := ⟨D.D.same k, k.blk D.B (fun h => h)⟩

theorem DX.app (D : DX w0 w p h q gq gr O A L dv ds b c) {v2 : Value} {x : Int} (hs : Sl w' 3 1 v2 (ds.length + 1) (ds.map (Value.int .i64) ++ [.int .i64 x])) (hk : Keeps (ownB dv) w w') (ho : ∀ k, ownB v2 k → ownB dv k ∨ w.heap.size ≤ k) :
    DX w0 w' p h q gq gr O A L v2 (ds ++ [x]) b c := ⟨D.D.app hs hk ho, hk.blk D.B (D.D.nb D.B).2.2.2⟩

theorem DW.root (D : DW w0 w p h q gq gr O A L dv ds) {k : Nat} (hk : k < L.length) : w.cell? ⟨gr, k, none⟩ = some (.int .i64 (L.getD k 0)) := by
  rw [D.G.cell, List.getElem?_map, List.getElem?_eq_getElem hk]
  simp [List.getD, hk]
end

/-- Marked cards, and their list. -/
structure DirtyOk (cd : List Bool) (ds : List Int) : Prop where
  n : countL cd = ds.length
  m : ∀ j : Nat, cd.getD j false = true ↔ (j : Int) ∈ ds

theorem DirtyOk.new (n : Nat) : DirtyOk (List.replicate n false) [] := by
  refine ⟨count_rep n, fun j => ?_⟩
  rw [List.getD_eq_getElem?_getD, List.getElem?_replicate]
  split <;> simp

theorem DirtyOk.mark {cd : List Bool} {ds : List Int} (H : DirtyOk cd ds) {j : Nat} (hj : j < cd.length) : DirtyOk (cd.set j true) (if (j : Int) ∈ ds then ds else ds ++ [(j : Int)]) := by
  have hn := H.n
  have hc := count_set hj
  have hm := H.m j
  have get : ∀ i : Nat, (cd.set j true).getD i false = true ↔ i = j ∨ cd.getD i false = true := fun i => by
    simp only [List.getD_eq_getElem?_getD, List.getElem?_set]
    by_cases e : j = i
    · subst e; simp [hj]
    · rw [if_neg e]
      constructor
      · intro h; exact .inr h
      · rintro (h | h)
        · exact absurd h.symm e
        · exact h
  by_cases c : (j : Int) ∈ ds
  · rw [if_pos c]
    rw [if_pos (hm.2 c)] at hc
    refine ⟨hc.trans hn, fun i => ?_⟩
    rw [get, H.m]
    constructor
    · rintro (rfl | h)
      · exact c
      · exact h
    · exact .inr
  · rw [if_neg c]
    rw [if_neg (fun h => c (hm.1 h))] at hc
    refine ⟨by rw [hc, hn, List.length_append]; rfl, fun i => ?_⟩
    rw [get, H.m, List.mem_append, List.mem_singleton]
    constructor
    · rintro (rfl | h)
      · exact .inr rfl
      · exact .inl h
    · rintro (h | h)
      · exact .inr h
      · exact .inl (by omega)

/-- What stays of a wood's bounds; its marked cards. -/
structure DS (n o : Int) (O : Wo) (ds : List Int) : Prop where
  nur : (O.ar.nur : Int) = n
  len : (O.ar.ws.length : Int) = n + o
  cl : O.cd.length = cardsN o
  di : DirtyOk O.cd ds

theorem DS.new {n o : Int} (h : Ar.fits n o = true) : DS n o (Wo.new n o) [] := by
  simp [Ar.fits] at h
  refine ⟨?_, ?_, ?_, DirtyOk.new _⟩
  · simp [Wo.new, Ar.new]; omega
  · simp [Wo.new, Ar.new]; omega
  · simp [Wo.new]

theorem DS.le {n o : Int} {O : Wo} {ds : List Int} (S : DS n o O ds) (h : O.ok) : ds.length ≤ 1000 := by
  have h1 := S.di.n; have h2 := countL_le O.cd; have h3 := h.hc
  omega

/-- The document's code of a field. -/
theorem get_code {A : Ar} {x i : Int} {T : Int × Int × Int} (hT : T = if x % 4 = 1 then A.thing (x / 4) else (0, 0, 2)) :
    (A.get x i).2 = if T.2.2 ≠ 0 ∨ T.1 = 5 then 2 else if i < 0 ∨ T.2.1 ≤ i then 1 else 0 := by
  subst hT
  unfold Ar.get
  by_cases h1 : x % 4 = 1
  · rw [if_pos h1]
    by_cases h2 : (A.thing (x / 4)).2.2 = 0
    · rw [thingAt_yes ⟨h1, h2⟩]
      dsimp only
      by_cases h3 : (A.thing (x / 4)).1 = 5
      · have n1 : (0 : Int) ≠ 0 ∨ (A.thing (x / 4)).1 = 5 := .inr h3
        have n2 : (A.thing (x / 4)).2.2 ≠ 0 ∨ (A.thing (x / 4)).1 = 5 := .inr h3
        rw [if_pos n1, if_pos n2]
      · have n1 : ¬ ((0 : Int) ≠ 0 ∨ (A.thing (x / 4)).1 = 5) := fun h => by rcases h with h | h; exact h rfl; exact h3 h
        have n2 : ¬ ((A.thing (x / 4)).2.2 ≠ 0 ∨ (A.thing (x / 4)).1 = 5) := fun h => by rcases h with h | h; exact h h2; exact h3 h
        rw [if_neg n1, if_neg n2]
        by_cases h4 : i < 0 ∨ (A.thing (x / 4)).2.1 ≤ i
        · rw [if_pos h4, if_pos h4]
        · rw [if_neg h4, if_neg h4]
    · have n1 : ¬ (x % 4 = 1 ∧ (A.thing (x / 4)).2.2 = 0) := fun h => h2 h.2
      have n2 : (A.thing (x / 4)).2.2 ≠ 0 ∨ (A.thing (x / 4)).1 = 5 := .inl h2
      rw [thingAt_no n1, if_pos n2]; rfl
  · have n1 : ¬ (x % 4 = 1 ∧ (A.thing (x / 4)).2.2 = 0) := fun h => h1 h.1
    rw [thingAt_no n1, if_neg h1]; rfl

theorem get_val {A : Ar} {x i : Int} (h : (A.get x i).2 ≠ 0) : (A.get x i).1 = 0 := by
  unfold Ar.get at *
  split
  · rfl
  · rename_i c
    rw [if_neg c] at h
    split
    · rfl
    · rename_i c2
      rw [if_neg c2] at h; exact (h rfl).elim

theorem RoomAt.setW {w : World} {q g : Nat} {B : Ar} (H : RoomAt w q g B) {n : Nat} (x : Int) (hx : R64 x) (hu : B.inUse n = true) : RoomTo w q g (w.setCell ⟨g, n, none⟩ (.int .i64 x)) (B.store n x) := by
  have hs : B.store n x = { B with ws := B.ws.set n x } := by unfold Ar.store; rw [hu]; simp
  refine ⟨⟨?_, ?_, H.ok.store _ _ hx⟩, (Keeps.refl _ _).setCell (p := ⟨g, n, none⟩) (.inl (.inr rfl)) _⟩
  · have := H.hp.setOther (a := ⟨g, n, none⟩) H.ne (.int .i64 x)
    rw [hs]; simpa using this
  · have := H.hg.setSame n (.int .i64 x)
    rw [hs, List.map_set]; exact this

/-- Behind a Set that is not refused: the list of marked cards. -/
theorem set_after {n o : Int} {O : Wo} {ds : List Int} (S : DS n o O ds) (hO : O.ok) {va y vc : Int} (hG : (O.ar.get va y).2 = 0) :
    (O.set va y vc).1 = 0 ∧ (O.set va y vc).2.ar = O.ar.store (va / 4 + 1 + y) vc ∧ (O.set va y vc).2.rt = O.rt ∧
    (¬ (vc % 4 = 1 ∧ (O.ar.store (va / 4 + 1 + y) vc).young (vc / 4) = true ∧ (O.ar.store (va / 4 + 1 + y) vc).old (va / 4) = true) → DS n o (O.set va y vc).2 ds) ∧
    (vc % 4 = 1 → (O.ar.store (va / 4 + 1 + y) vc).young (vc / 4) = true → (O.ar.store (va / 4 + 1 + y) vc).old (va / 4) = true → ∃ j : Nat, n ≤ va / 4 ∧ (va / 4 - n).tdiv 8 = j ∧ DS n o (O.set va y vc).2 (if (j : Int) ∈ ds then ds else ds ++ [(j : Int)])) := by
  rw [Wo.set_yes' hG]
  have h1 := O.ar.store_nur (va / 4 + 1 + y) vc; have h2 := O.ar.store_len (va / 4 + 1 + y) vc; have h3 := O.ar.store_grn (va / 4 + 1 + y) vc
  have n1 := S.nur; have n2 := S.len; have n3 := S.cl
  have a2 := hO.ha.h2; have a3 := hO.ha.h3
  refine ⟨rfl, rfl, rfl, fun c => ?_, fun c1 c2 c3 => ?_⟩
  · rw [if_neg c]
    exact ⟨by dsimp only; rw [h1]; exact n1, by dsimp only; rw [h2]; exact n2, n3, S.di⟩
  · rw [if_pos ⟨c1, c2, c3⟩]
    have ho := old_iff.1 c3
    rw [h1, h3] at ho
    have hlt : ((va / 4 - (O.ar.nur : Int)) / 8).toNat < O.cd.length := by
      rw [n3]; unfold cardsN; omega
    have hm : markL O.ar.nur O.cd (va / 4) = O.cd.set ((va / 4 - (O.ar.nur : Int)) / 8).toNat true := by
      have hc : cardOf O.ar.nur O.cd.length (va / 4) = (va / 4 - (O.ar.nur : Int)) / 8 := by unfold cardOf; rw [if_pos ⟨ho.1, by omega⟩]
      unfold markL
      rw [hc, if_pos (by omega)]
    refine ⟨((va / 4 - (O.ar.nur : Int)) / 8).toNat, by omega, ?_, ⟨by dsimp only; rw [h1]; exact n1, by dsimp only; rw [h2]; exact n2, ?_, ?_⟩⟩
    · rw [Int.tdiv_eq_ediv_of_nonneg (by omega)]; omega
    · dsimp only; rw [hm, List.length_set]; exact n3
    · dsimp only; rw [hm]; exact S.di.mark hlt

theorem At_any (x : Int) (w : World) :
    Calls Try.prog 52 #[.int .i64 x] w fun e w' => e = .returned (.tuple #[.int .i64 (if x % 4 = 1 then x / 4 else 0), .bool (decide (x % 4 = 1))]) ∧ w = w' := by
  by_cases h : x % 4 = 1
  · rw [if_pos h, decide_eq_true h]; exact At_yes x w h
  · rw [if_neg h, decide_eq_false h]; exact At_no x w h

end Go.Proofs.Ytjifdalflepcoab

namespace Go.Proofs.Ytjifdalflepcoab
set_option linter.unusedVariables false
set_option linter.unusedSimpArgs false

/-! What stays as it was. -/

/-- The same bounds; the old space in use has maybe grown. -/
structure Sm (A B : Ar) : Prop where
  ok : B.ok
  nur : B.nur = A.nur
  yng : B.yng = A.yng
  len : B.ws.length = A.ws.length
  grn : A.grn ≤ B.grn

theorem Sm.copy {A : Ar} (h : A.ok) (i : Int) : Sm A (A.copy i).2 := by
  refine ⟨h.copy i, ?_, ?_, ?_, ?_⟩
  all_goals unfold Ar.copy; dsimp only; split
  all_goals first | rfl | exact Nat.le_add_right _ _ | exact Nat.le_refl _ | skip
  rename_i hc
  have hf := A.thing_fields i
  have hs := Ar.whole_spec h hf.1 hc.2.1
  have := h.h1; have := h.h2; have := h.h3
  exact lay_length (by simp; omega)

end Go.Proofs.Ytjifdalflepcoab

namespace Go.Proofs.Ytjifdalflepcoab
set_option linter.unusedVariables false
set_option linter.unusedSimpArgs false

section
variable {O : Wo} {W : Wd} {φ ψ ψ' : Int → Int} {A A' : Ar} {S S' : Int → Prop} {N N' : List Int}

/-- What a copy changes. -/
theorem Ar.copy_loads {A : Ar} (hA : A.ok) {p : Int} (h : (A.thing p).2.2 = 0 ∧ A.whole p (A.thing p).2.1 = true ∧ 1 + (A.thing p).2.1 ≤ (A.ws.length : Int) - A.grn) :
    (A.copy p).1 = A.grn ∧ (∀ q, A.inUse q = true → (A.copy p).2.load q = A.load q) ∧ (∀ j : Int, 0 ≤ j → j ≤ (A.thing p).2.1 → (A.copy p).2.load (A.grn + j) = A.load (p + j)) ∧ ((A.copy p).2.grn : Int) = A.grn + (1 + (A.thing p).2.1) := by
  have hf := A.thing_fields p
  have hs := Ar.whole_spec hA hf.1 h.2.1
  have a1 := hA.h1; have a2 := hA.h2; have a3 := hA.h3
  have hl : ((A.ws.drop p.toNat).take (1 + (A.thing p).2.1).toNat).length = (1 + (A.thing p).2.1).toNat := by simp; omega
  have hle : A.grn + ((A.ws.drop p.toNat).take (1 + (A.thing p).2.1).toNat).length ≤ A.ws.length := by rw [hl]; omega
  rw [Ar.copy_yes h]
  refine ⟨rfl, fun q hq => ?_, fun j h0 h1 => ?_, by dsimp only; omega⟩
  · have hu : Ar.inUse { A with grn := A.grn + (1 + (A.thing p).2.1).toNat, ws := lay A.ws A.grn ((A.ws.drop p.toNat).take (1 + (A.thing p).2.1).toNat) } q = true := by
      unfold Ar.inUse at *
      rw [Bool.or_eq_true] at *
      rw [young_iff, old_iff] at *
      dsimp only
      omega
    unfold Ar.load
    rw [hu, hq]
    simp only [if_true]
    rw [lay_getD hle, if_neg]
    rw [hl]
    unfold Ar.inUse at hq
    rw [Bool.or_eq_true, young_iff, old_iff] at hq
    omega
  · have hu : Ar.inUse { A with grn := A.grn + (1 + (A.thing p).2.1).toNat, ws := lay A.ws A.grn ((A.ws.drop p.toNat).take (1 + (A.thing p).2.1).toNat) } (A.grn + j) = true := by
      unfold Ar.inUse
      rw [Bool.or_eq_true, old_iff]
      right
      dsimp only
      omega
    have hup : A.inUse (p + j) = true := by
      unfold Ar.whole at h
      unfold Ar.inUse
      have h2 := h.2.1
      simp only [Bool.or_eq_true, Bool.and_eq_true, young_iff, old_iff] at h2 ⊢
      omega
    unfold Ar.load
    rw [hu, hup]
    simp only [if_true]
    rw [lay_getD hle, if_pos (by rw [hl]; omega)]
    simp only [List.getD_eq_getElem?_getD]
    rw [List.getElem?_take, if_pos (by omega), List.getElem?_drop]
    congr 2; omega

end
end Go.Proofs.Ytjifdalflepcoab

namespace Go.Proofs.Ytjifdalflepcoab
set_option linter.unusedVariables false
set_option linter.unusedSimpArgs false

/-- Things stand whole at ps; what leads somewhere leads to one of them. -/
structure TW (A : Ar) (rt ps : List Int) : Prop where
  wh : ∀ p ∈ ps, (A.thing p).2.2 = 0 ∧ A.whole p (A.thing p).2.1 = true
  ap : ∀ p ∈ ps, ∀ q ∈ ps, p ≠ q → p + 1 + (A.thing p).2.1 ≤ q ∨ q + 1 + (A.thing q).2.1 ≤ p
  rt : ∀ x ∈ rt, x % 4 = 1 → x / 4 ∈ ps
  fl : ∀ p ∈ ps, ∀ j : Int, 0 ≤ j → j < (A.thing p).2.1 → A.load (p + 1 + j) % 4 = 1 → A.load (p + 1 + j) / 4 ∈ ps

section
variable {A : Ar} {rt ps : List Int}

theorem TW.use (T : TW A rt ps) {p : Int} (hp : p ∈ ps) {j : Int} (h0 : 0 ≤ j) (h1 : j ≤ (A.thing p).2.1) : A.inUse (p + j) = true := by
  have h := (T.wh p hp).2
  unfold Ar.whole at h
  unfold Ar.inUse
  rw [Bool.or_eq_true] at h ⊢
  rcases h with h | h
  · rw [Bool.and_eq_true, young_iff, young_iff] at h
    exact .inl (young_iff.2 (by omega))
  · rw [Bool.and_eq_true, old_iff, old_iff] at h
    exact .inr (old_iff.2 (by omega))

theorem TW.new (n o : Int) : TW (Ar.new n o) (List.replicate 12 2) [] :=
  ⟨fun p h => by simp at h, fun p h => by simp at h, fun x hx h => (by rw [(List.mem_replicate.1 hx).2] at h; cases h), fun p h => by simp at h⟩

theorem TW.setRt (T : TW A rt ps) {x : Int} (hx : x % 4 = 1 → x / 4 ∈ ps) (k : Nat) : TW A (rt.set k x) ps :=
  ⟨T.wh, T.ap, fun y hy h => by
    rcases List.mem_or_eq_of_mem_set hy with h1 | rfl
    · exact T.rt y h1 h
    · exact hx h, T.fl⟩

/-- Another thing, at the place p, apart from the others. -/
theorem TW.more (T : TW A rt ps) {B : Ar} {p : Int} (hq : ∀ q, A.inUse q = true → B.load q = A.load q) (hu : ∀ q n, A.whole q n = true → B.whole q n = true) (hp : (B.thing p).2.2 = 0 ∧ B.whole p (B.thing p).2.1 = true)
    (hn : ∀ q, A.inUse q = true → q < p ∨ p + 1 + (B.thing p).2.1 ≤ q) (hf : ∀ j : Int, 0 ≤ j → j < (B.thing p).2.1 → B.load (p + 1 + j) % 4 = 1 → B.load (p + 1 + j) / 4 ∈ ps) : TW B rt (ps ++ [p]) := by
  have thp : ∀ q ∈ ps, B.thing q = A.thing q := fun q hqp => thing_of_load (hq q (by have := T.use hqp (j := 0) (by omega) (A.thing_fields q).1; rwa [Int.add_zero] at this))
  have apart : ∀ q ∈ ps, q + 1 + (A.thing q).2.1 ≤ p ∨ p + 1 + (B.thing p).2.1 ≤ q := fun q hqp => by
    have hw := (T.wh q hqp).2
    have hf := A.thing_fields q
    have hfp := B.thing_fields p
    have u0 := hn q (by have := T.use hqp (j := 0) (by omega) hf.1; rwa [Int.add_zero] at this)
    rcases u0 with u0 | u0
    · left
      by_cases c : p < q + 1 + (A.thing q).2.1
      · have := hn (q + (p - q)) (T.use hqp (by omega) (by omega))
        omega
      · omega
    · exact .inr u0
  refine ⟨fun q h => ?_, fun q h r h' hne => ?_, fun x hx h => by rw [List.mem_append]; exact .inl (T.rt x hx h), fun q h j h0 h1 hm => ?_⟩
  · rcases List.mem_append.1 h with h1 | h1
    · rw [thp q h1]; exact ⟨(T.wh q h1).1, hu _ _ (T.wh q h1).2⟩
    · rw [List.mem_singleton.1 h1]; exact hp
  · rcases List.mem_append.1 h with h1 | h1 <;> rcases List.mem_append.1 h' with h2 | h2
    · rw [thp q h1, thp r h2]; exact T.ap q h1 r h2 hne
    · rw [List.mem_singleton.1 h2, thp q h1]; exact apart q h1
    · rw [List.mem_singleton.1 h1, thp r h2]; exact (apart r h2).symm
    · rw [List.mem_singleton.1 h1, List.mem_singleton.1 h2] at hne; exact (hne rfl).elim
  · rw [List.mem_append]
    left
    rcases List.mem_append.1 h with h2 | h2
    · rw [thp q h2] at h1
      have e := hq (q + 1 + j) (by have := T.use h2 (j := 1 + j) (by omega) (by omega); rwa [← Int.add_assoc] at this)
      rw [e] at hm ⊢
      exact T.fl q h2 j h0 h1 hm
    · rw [List.mem_singleton.1 h2] at h1 hm ⊢
      exact hf j h0 h1 hm

theorem TW.make (T : TW A rt ps) (hA : A.ok) {k f : Int} (h : fitsW k f = true ∧ 1 + f ≤ (A.nur : Int) - A.yng) (c : Nat) : TW (A.make k f).2 (rt.set c (4 * A.yng + 1)) (ps ++ [(A.yng : Int)]) := by
  obtain ⟨m1, m2, m3, m4, m5, m6, m7⟩ := Ar.make_loads hA h
  have hf := fitsW_spec h.1
  have ht : (A.make k f).2.thing A.yng = (k, f, 0) := by unfold Ar.thing; rw [m2, partsW_of h.1]
  have a1 := hA.h1; have a2 := hA.h2
  refine TW.setRt (TW.more T m1 (fun q n hw => ?_) ⟨by rw [ht], by rw [ht]; dsimp only; unfold Ar.whole; rw [Bool.or_eq_true, Bool.and_eq_true, young_iff, young_iff]; exact .inl (by omega)⟩ (fun q hq => ?_) (fun j h0 h1 hm => ?_)) (fun _ => by
    rw [List.mem_append, List.mem_singleton]; right; omega) c
  · unfold Ar.whole at *
    rw [Bool.or_eq_true, Bool.and_eq_true, Bool.and_eq_true, young_iff, young_iff, old_iff, old_iff] at *
    omega
  · rw [ht]
    unfold Ar.inUse at hq
    rw [Bool.or_eq_true, young_iff, old_iff] at hq
    dsimp only
    omega
  · rw [ht] at h1
    dsimp only at h1
    rw [m3 j h0 h1] at hm; cases hm

theorem TW.copy (T : TW A rt ps) (hA : A.ok) {p : Int} (hp : p ∈ ps) (h : (A.thing p).2.2 = 0 ∧ A.whole p (A.thing p).2.1 = true ∧ 1 + (A.thing p).2.1 ≤ (A.ws.length : Int) - A.grn) (c : Nat) :
    TW (A.copy p).2 (rt.set c (4 * A.grn + 1)) (ps ++ [(A.grn : Int)]) := by
  obtain ⟨c1, c2, c3, c4⟩ := Ar.copy_loads hA h
  have hs := Sm.copy hA p
  have hf := A.thing_fields p
  have l0 := c3 0 (by omega) hf.1
  rw [Int.add_zero, Int.add_zero] at l0
  have ht : (A.copy p).2.thing A.grn = A.thing p := by unfold Ar.thing; rw [l0]
  have a1 := hA.h1; have a2 := hA.h2; have a3 := hA.h3
  have e1 := hs.nur; have e2 := hs.yng
  refine TW.setRt (TW.more T c2 (fun q n hw => ?_) ⟨by rw [ht]; exact h.1, by rw [ht]; unfold Ar.whole; rw [Bool.or_eq_true, Bool.and_eq_true, Bool.and_eq_true, old_iff, old_iff]; exact .inr (by omega)⟩ (fun q hq => ?_) (fun j h0 h1 hm => ?_)) (fun _ => by
    rw [List.mem_append, List.mem_singleton]; right; omega) c
  · unfold Ar.whole at *
    rw [Bool.or_eq_true, Bool.and_eq_true, Bool.and_eq_true, young_iff, young_iff, old_iff, old_iff] at *
    omega
  · rw [ht]
    unfold Ar.inUse at hq
    rw [Bool.or_eq_true, young_iff, old_iff] at hq
    omega
  · rw [ht] at h1
    have := c3 (1 + j) (by omega) (by omega)
    rw [← Int.add_assoc, ← Int.add_assoc] at this
    rw [this] at hm ⊢
    exact T.fl p hp j h0 h1 hm

theorem TW.store (T : TW A rt ps) (hA : A.ok) {p i y : Int} (hp : p ∈ ps) (h0 : 0 ≤ i) (h1 : i < (A.thing p).2.1) (hy : y % 4 = 1 → y / 4 ∈ ps) : TW (A.store (p + 1 + i) y) rt ps := by
  have hl := fun q => Ar.load_store hA (p + 1 + i) q y
  have hth : ∀ q ∈ ps, (A.store (p + 1 + i) y).thing q = A.thing q := fun q hq => by
    refine thing_of_load ?_
    rw [hl, if_neg]
    rintro ⟨e, _⟩
    by_cases c : p = q
    · subst c; omega
    · have := T.ap p hp q hq c
      have := A.thing_fields q
      omega
  refine ⟨fun q hq => ?_, fun q hq r hr hne => by rw [hth q hq, hth r hr]; exact T.ap q hq r hr hne, T.rt, fun q hq j hj0 hj1 hm => ?_⟩
  · rw [hth q hq]
    refine ⟨(T.wh q hq).1, ?_⟩
    have := (T.wh q hq).2
    unfold Ar.whole Ar.young Ar.old at *
    rw [A.store_yng, A.store_nur, A.store_grn]
    exact this
  · rw [hth q hq] at hj1
    rw [hl] at hm ⊢
    by_cases c : q + 1 + j = p + 1 + i ∧ A.inUse (p + 1 + i) = true
    · rw [if_pos c] at hm ⊢; exact hy hm
    · rw [if_neg c] at hm ⊢; exact T.fl q hq j hj0 hj1 hm

/-- A field that may be asked for. -/
theorem TW.get (T : TW A rt ps) {x i : Int} (hx : x ∈ rt) (h : (A.get x i).2 = 0) : x % 4 = 1 ∧ x / 4 ∈ ps ∧ 0 ≤ i ∧ i < (A.thing (x / 4)).2.1 ∧ (A.get x i).1 = A.load (x / 4 + 1 + i) ∧ A.inUse (x / 4 + 1 + i) = true ∧ ((A.get x i).1 % 4 = 1 → (A.get x i).1 / 4 ∈ ps) := by
  unfold Ar.get at *
  by_cases c : (A.thingAt x).2.2.2 ≠ 0 ∨ (A.thingAt x).2.1 = 5
  · rw [if_pos c] at h; cases h
  rw [if_neg c] at h ⊢
  by_cases c2 : i < 0 ∨ (A.thingAt x).2.2.1 ≤ i
  · rw [if_pos c2] at h; cases h
  rw [if_neg c2] at h ⊢
  dsimp only
  have hc : x % 4 = 1 ∧ (A.thing (x / 4)).2.2 = 0 := by
    by_cases hc : x % 4 = 1 ∧ (A.thing (x / 4)).2.2 = 0
    · exact hc
    · exfalso; apply c; left; unfold Ar.thingAt; rw [if_neg hc]; decide
  have e : A.thingAt x = (x / 4, (A.thing (x / 4)).1, (A.thing (x / 4)).2.1, 0) := if_pos hc
  rw [e] at c2
  dsimp only at c2
  have hp := T.rt x hx hc.1
  refine ⟨hc.1, hp, by omega, by omega, rfl, ?_, T.fl _ hp i (by omega) (by omega)⟩
  have := T.use hp (j := 1 + i) (by omega) (by omega)
  rwa [← Int.add_assoc] at this

end
end Go.Proofs.Ytjifdalflepcoab
