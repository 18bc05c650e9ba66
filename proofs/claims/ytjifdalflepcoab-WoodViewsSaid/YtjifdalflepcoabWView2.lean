/-
  wood.View, the recursion.
-/
import Derived.Test.YtjifdalflepcoabWView
namespace Go.Proofs.Ytjifdalflepcoab
open Go.RowKit Go.Maps
set_option linter.unusedVariables false
set_option linter.unusedSimpArgs false

theorem info_parts1 {T : TypeId} {z : Option Value} {s b : Nat} (h : (Try.prog.info? T).map (fun i => (i.zero, i.size, i.bytes)) = some (z, s, b)) : ∃ i, Try.prog.info? T = some i ∧ i.zero = z ∧ i.size = s ∧ i.bytes = b := by
  cases hx : Try.prog.info? T with
  | none => rw [hx] at h; cases h
  | some i => rw [hx] at h; simp at h; exact ⟨i, rfl, h.1, h.2.1, h.2.2⟩

theorem info_node : (Try.prog.info? 83).map (fun i => (i.zero, i.size, i.bytes)) = some (some (.agg #[.int .i64 0, .slice none 0 0]), 2, 32) := by kernel_rfl
theorem info_val : (Try.prog.info? 78).map (fun i => (i.zero, i.size, i.bytes)) = some (some (.agg #[.int .i64 0, .int .i64 0]), 2, 16) := by kernel_rfl

section
variable {h : WH} {O : Wo} {q b : Nat} {rv : Value}

/-- value, at a depth. -/
def ValOk (h : WH) (O : Wo) (q b : Nat) (rv : Value) (n : Nat) : Prop := ∀ (x : Int) (nv : Value) (F : Nat → Prop) (s : VS) (w : World), VwAt w q h O b rv nv F s → R64 x → (x % 4 = 1 → x / 4 ∈ O.univ) → unM O.univ s.1 ≤ n → s.1.length + unM O.univ s.1 ≤ 5000 →
  Calls Try.prog 92 #[.pointer (some ⟨q, 0, none⟩), .int .i64 x] w fun e w' => ValRet w q h O b rv nv F (valM O.gr n (valO x) s) e w'

/-- A node's fields so far. -/
def NS (G : Gr) (n : Nat) (x : Int) (s : VS) (j : Nat) : List Vl × VS := fldM (valM G n) ((G x).2.take j) (s.1 ++ [x], s.2 ++ [((G x).1, [])])

theorem NS_zero (G : Gr) (n : Nat) (x : Int) (s : VS) : NS G n x s 0 = ([], (s.1 ++ [x], s.2 ++ [((G x).1, [])])) := rfl

theorem NS_step (G : Gr) (n : Nat) (x : Int) (s : VS) {j : Nat} {v : Vl} (h : (G x).2[j]? = some v) : NS G n x s (j + 1) = ((NS G n x s j).1 ++ [(valM G n v (NS G n x s j).2).1], (valM G n v (NS G n x s j).2).2) := by
  unfold NS
  rw [List.take_add_one, h, Option.toList_some, fldM_app]
  rfl

theorem NS_len (G : Gr) (n : Nat) (x : Int) (s : VS) {j : Nat} (h : j ≤ (G x).2.length) : (NS G n x s j).1.length = j := by
  unfold NS; rw [fldM_len, List.length_take]; omega

theorem NS_un {O : Wo} (hO : O.ok) {n : Nat} {x : Int} {s : VS} (hx : x ∈ O.univ) (j : Nat) (h : unM O.univ (s.1 ++ [x]) ≤ n) (hc : (s.1 ++ [x]).length + unM O.univ (s.1 ++ [x]) ≤ 5000) :
    unM O.univ (NS O.gr n x s j).2.1 ≤ n ∧ (NS O.gr n x s j).2.1.length + unM O.univ (NS O.gr n x s j).2.1 ≤ 5000 := by
  have I := Wo.inU hO
  unfold NS
  obtain ⟨m, hm⟩ := fldM_pre (valM_pre O.gr n) ((O.gr x).2.take j) (s.1 ++ [x], s.2 ++ [((O.gr x).1, [])])
  have h1 := unM_app O.univ (s.1 ++ [x]) m
  have h2 := fldM_count (f := valM O.gr n) (U := O.univ) (valM_count I n) ((O.gr x).2.take j) (s.1 ++ [x], s.2 ++ [((O.gr x).1, [])]) (fun v hv => I.shut x hx v (List.mem_of_mem_take hv))
  rw [hm] at h2 ⊢
  dsimp only at h2 ⊢
  exact ⟨by omega, by omega⟩

theorem gr_field {O : Wo} {x : Int} {j : Nat} (h : j < (O.ar.thing x).2.1.toNat) : (O.gr x).2[j]? = some (valO (O.ar.load (x + 1 + j))) := by
  unfold Wo.gr
  dsimp only
  rw [List.getElem?_append_left (by simp [Ar.fields]; omega), List.getElem?_map]
  unfold Ar.fields
  rw [List.getElem?_map, List.getElem?_range h]
  rfl

theorem gr_wait {O : Wo} {x : Int} {j : Nat} (hk : (O.ar.thing x).1 = 5) (h : j < (waitO O.wt (4 * x + 1)).length) : (O.gr x).2[(O.ar.thing x).2.1.toNat + j]? = some (valO ((waitO O.wt (4 * x + 1)).getD j 0)) := by
  have e : ((O.ar.fields x).map valO).length = (O.ar.thing x).2.1.toNat := by simp [Ar.fields]
  unfold Wo.gr
  dsimp only
  rw [if_pos hk, List.getElem?_append_right (by rw [e]; omega), e, show (O.ar.thing x).2.1.toNat + j - (O.ar.thing x).2.1.toNat = j by omega, List.getElem?_map, List.getElem?_eq_getElem h]
  simp [List.getD, h]

theorem gr_len {O : Wo} {x : Int} : (O.gr x).2.length = (O.ar.thing x).2.1.toNat + if (O.ar.thing x).1 = 5 then (waitO O.wt (4 * x + 1)).length else 0 := by
  unfold Wo.gr
  simp only [List.length_append, List.length_map, Ar.fields, List.length_range]
  split <;> simp

theorem NS_keep (G : Gr) (n : Nat) (x : Int) (s : VS) (j : Nat) (hl : s.2.length = s.1.length) : (NS G n x s j).2.2[s.1.length]? = some ((G x).1, []) := by
  unfold NS
  rw [fldM_keepN (valM_nodes G n) (valM_pre G n) (valM_keepN G n) _ _ (by simp [hl]) s.1.length (by simp)]
  simp [← hl]

theorem thing_guard {A : Ar} {x : Int} (h : (A.thing x).1 = 5) : (A.thing x).2.1 = 0 ∧ (A.thing x).2.2 = 0 := by
  unfold Ar.thing partsW at *
  split at h
  · rename_i hf
    rw [if_pos hf]
    dsimp only at h ⊢
    rw [h] at hf
    simp [fitsW] at hf
    exact ⟨hf, rfl⟩
  · cases h

theorem info_of : ∃ i, Try.prog.info? 78 = some i := by obtain ⟨i, h, _⟩ := info_parts1 info_val; exact ⟨i, h⟩

set_option maxHeartbeats 4000000 in
set_option maxRecDepth 100000 in
theorem node_c (n : Nat) (ih : ValOk h O q b rv n) (x : Int) (nv : Value) (F : Nat → Prop) (s : VS) (w : World) (V : VwAt w q h O b rv nv F s) (x0 : -2305843009213693952 ≤ x) (x1 : x ≤ 2305843009213693951) (hx : x ∈ O.univ) (hm : ¬ x ∈ s.1)
    (hu : unM O.univ s.1 ≤ n + 1) (hc : s.1.length + unM O.univ s.1 ≤ 5000) :
    Calls Try.prog 129 #[.pointer (some ⟨q, 0, none⟩), .int .i64 x] w fun e w' => NodeRet w q h O b rv nv F s.1.length (valM O.gr (n + 1) (3, x) s).2 e w' := by
  have HV := Lib.hid V
  have HNEW := Lib.hid (valM_new O.gr n (v := (3, x)) rfl hm)
  have HM := Lib.hid hm; have HX := Lib.hid hx
  have hp := unM_push hx hm
  have HU := Lib.hid (show unM O.univ (s.1 ++ [x]) ≤ n by omega)
  have HC := Lib.hid (show (s.1 ++ [x]).length + unM O.univ (s.1 ++ [x]) ≤ 5000 by rw [List.length_append]; simp; omega)
  have hl5 : s.1.length ≤ 5000 := by omega
  obtain ⟨ni, hi, hz0, hz1, hz2⟩ := info_parts1 info_node
  have Ni := Lib.hid hi; have Nz0 := Lib.hid hz0; have Nz1 := Lib.hid hz1; have Nz2 := Lib.hid hz2; clear hi hz0 hz1 hz2
  obtain ⟨vi, hi, hz0, hz1, hz2⟩ := info_parts1 info_val
  have Vi := Lib.hid hi; have Vz0 := Lib.hid hz0; have Vz1 := Lib.hid hz1; have Vz2 := Lib.hid hz2; clear hi hz0 hz1 hz2
  obtain ⟨cs, hsl, hcs⟩ := V.hn
  obtain ⟨no, nc, rfl, -, hnm, -⟩ := hsl.rd
  have HSL := Lib.hid hsl; have HCS := Lib.hid hcs
  have HLL := Lib.hid V.hl
  have hs5 : s.2.length ≤ 5000 := by rw [V.hl]; exact hl5
  obtain ⟨n0, D, hown, hn0, hD⟩ := V.hm
  have c3 := V.hq.cell 3; have cl := V.hq.lt; have c1 := V.hq.cell 1; have c0 := V.hq.cell 0
  simp only [List.getElem?_cons_zero, List.getElem?_cons_succ] at c3 c1 c0
  have HD := Lib.hid hD
  clear V hm hp hu hc hsl hcs hD hnm
  go_enter Try.func129, Try.ntmps129
  go_wp2_with (at_mapUpdate; refine wpList_mapUpdate_own _ rfl _ _ _ 134 rfl 3 3 key_int Try.underlying134 _ b n0 D rfl hown (by unfold maxLen; omega) _ _ _ rfl rfl (keyOf_int_mk Try.underlying3 (WalkArith.wf_i64 (by constructor <;> omega))) _ [] (plainElem_int Try.underlying3 (WalkArith.wf_i64 (by constructor <;> omega))) ?_)
  intro wm hown1 hgrow
  have hsee := SeenAt.push (w := w) (w' := wm) hown hn0 HD.out HM.out (by rw [← HLL.out]; exact hown1)
  have KM := Lib.hid (grown_keeps hgrow); have HSEE := Lib.hid hsee
  have Wm := HV.out.hw.keep KM.out (fun j hj e => HV.out.wood_apart hj (.inr (.inl e)))
  have HWM := Lib.hid Wm
  have hqm := KM.out.blk HV.out.hq (HV.out.hm.ne HV.out.hq)
  have HQM := Lib.hid hqm
  have c3 := hqm.cell 3; have cl := hqm.lt; have c0 := hqm.cell 0
  simp only [List.getElem?_cons_zero, List.getElem?_cons_succ] at c3 c0
  obtain ⟨d0, -, d2, -⟩ := Wm.ptrs
  have dl := Wm.hp.lt
  clear hown hown1 hgrow hn0 hsee Wm hqm c1
  go_wp2_with fail
  refine (Thing_c x _ HWM.out.ha).mono ?_
  rintro e w2 ⟨rfl, rfl⟩
  obtain ⟨⟨kd, nf, kc⟩, hT⟩ : ∃ t, O.ar.thing x = t := ⟨_, rfl⟩
  have HT := Lib.hid hT
  have hnf := O.ar.thing_fields x
  rw [hT] at hnf ⊢
  dsimp only at hnf ⊢
  clear hT
  go_wp2_with (at_builtin; refine wpList_app rfl (.tmp 43) (.tmp 46) 70 rfl 83 ni (.agg #[.int .i64 0, .slice none 0 0]) 2 32 Try.underlying70 Ni.out Nz0.out Nz1.out Nz2.out rfl (by decide) _ s.2.length cs rfl ((HSL.out.keep KM.out (fun j hj e => by subst e; obtain ⟨_, c, hc⟩ := HSL.out.own hj; exact HV.out.hm.ne hc rfl)).keep ((Keeps.refl (fun _ => False) wm).alloc _) (fun _ _ h => h)) ⟨wm.heap.size, 0, none⟩ 1 1 [.int .i64 kd, .slice none 0 0] rfl rfl (news_at wm 83 #[.int .i64 kd, .slice none 0 0]) (by intro u hu; simp at hu; rcases hu with rfl | rfl <;> rfl) (by unfold maxLen; omega) (by omega) ?_)
  intro v2 w2 hs2 hk2 ho2
  have hka := (Keeps.refl (fun _ => False) wm).alloc (.cells #[.int .i64 kd, .slice none 0 0] 83)
  have HT2 := Lib.hid (HV.out.push (x := x) (kd := kd) HSEE.out KM.out hka cs HCS.out hs2 hk2 (by simpa using ho2))
  have nq : ¬ ownB (.slice no s.2.length nc) q := fun hq => by obtain ⟨_, c, hc⟩ := HSL.out.own hq; exact HV.out.hq.ne hc (by decide) rfl
  have hq2 := hk2.blk (hka.blk HQM.out (fun h => h)) nq
  have x3 := hq2.cell 3; have xl := hq2.lt; have xf := hq2.free 3
  simp only [List.getElem?_cons_zero, List.getElem?_cons_succ] at x3
  obtain ⟨vo2, vc2, rfl, -, -, -⟩ := hs2.rd
  clear hs2 hk2 ho2 hka nq hq2 c3 c0 cl d0 d2 dl
  go_wp2_with fail
  have HI := Lib.hid (show ∃ nv1 F1, InNode w q h O b rv (.slice no s.2.length nc) F (s.1 ++ [x], s.2 ++ [(kd, [])]) (.slice none 0 0) [] (w2.setCell ⟨q, 3, none⟩ (.slice vo2 (s.2.length + 1) vc2)) nv1 F1 by
    obtain ⟨nv1, F1, V1, k1, p1, p2⟩ := HT2.out
    exact ⟨nv1, F1, V1, k1, p1, p2, Sl.nil _ _ _, fun k hk => (nil_own hk).elim⟩)
  clear HT2 x3 xl xf
  generalize w2.setCell ⟨q, 3, none⟩ (.slice vo2 (s.2.length + 1) vc2) = w3 at *
  have hkd : (O.gr x).1 = kd := by show (O.ar.thing x).1 = kd; rw [HT.out]
  have HNF := Lib.hid (show ∀ j : Nat, (j : Int) < nf → (O.gr x).2[j]? = some (valO (O.ar.load (x + 1 + j))) from fun j hj => gr_field (by rw [HT.out]; dsimp only; omega))
  have HLEN := Lib.hid (show (O.gr x).2.length = nf.toNat + if kd = 5 then (waitO O.wt (4 * x + 1)).length else 0 by rw [gr_len, HT.out])
  have HKP := Lib.hid (fun j => NS_keep O.gr n x s j HLL.out)
  have HUN := Lib.hid (fun j => NS_un HV.out.hw.ok HX.out j HU.out HC.out)
  obtain ⟨f, rfl⟩ : ∃ f : Nat, nf = f := ⟨nf.toNat, by omega⟩
  have HI0 := Lib.hid (show ∃ nv1 F1, InNode w q h O b rv (.slice no s.2.length nc) F (NS O.gr n x s 0).2 (.slice none 0 0) (NS O.gr n x s 0).1 w3 nv1 F1 by rw [NS_zero, hkd]; exact HI.out)
  have HKD := Lib.hid hkd
  clear HI hkd
  have ih' := Lib.hid ih
  go_loopw [9, 52] (fun lv i wr => ∃ (j : Nat) (nv1 : Value) (F1 : Nat → Prop), j ≤ f ∧ i = .int .i64 j ∧ InNode w q h O b rv (.slice no s.2.length nc) F (NS O.gr n x s j).2 lv (NS O.gr n x s j).1 wr nv1 F1) (fun _ i _ => f - (intOf i).toNat)
  case atStart =>
    obtain ⟨nv1, F1, hI⟩ := HI0.out
    exact ⟨0, nv1, F1, Nat.zero_le _, rfl, hI⟩
  case round =>
    clear HI0
    obtain ⟨j, nv1, F1, hj, rfl, hI⟩ := hrel
    have HI := Lib.hid hI
    by_cases hlt : j < f
    · have HST := Lib.hid (NS_step O.gr n x s (HNF.out j (by omega)))
      have hjl := NS_len O.gr n x s (j := j) (by rw [HLEN.out]; omega)
      have HJL := Lib.hid hjl
      have c0 := hI.V.hq.cell 0; have cl := hI.V.hq.lt
      obtain ⟨d0, -, -, -⟩ := hI.V.hw.ptrs
      have dl := hI.V.hw.hp.lt
      simp only [List.getElem?_cons_zero, List.getElem?_cons_succ] at c0
      obtain ⟨lo, lc, rfl, -, -, -⟩ := hI.L.rd
      rw [hjl] at HI ⊢
      clear hI hjl
      go_wp2_with fail
      refine (Load_c (x + 1 + j) _ HI.out.V.hw.ha).mono ?_
      rintro e w4 ⟨rfl, rfl⟩
      have HLR := Lib.hid (HV.out.hw.ok.ha.load (x + 1 + j))
      have HLU := Lib.hid (Wo.univ_load HV.out.hw.ok (x + 1 + j))
      generalize O.ar.load (x + 1 + j) = y at *
      go_wp2_with fail
      refine (ih'.out y nv1 F1 _ _ HI.out.V HLR.out (fun _ => HLU.out) (HUN.out j).1 (HUN.out j).2).mono ?_
      rintro e w4 ⟨rfl, ht⟩
      obtain ⟨nv2, F2, hI2⟩ := HI.out.told ht
      obtain ⟨⟨⟨r1, r2⟩, sr⟩, hr⟩ : ∃ t, valM O.gr n (valO y) (NS O.gr n x s j).2 = t := ⟨_, rfl⟩
      rw [hr] at hI2 HST ⊢
      dsimp only at hI2 HST ⊢
      have HI2 := Lib.hid hI2
      have HL2 := Lib.hid (show Sl w4 78 2 (.slice lo j lc) j (entV (NS O.gr n x s j).1) by have := hI2.L; rw [HJL.out] at this; exact this)
      clear hI2 ht c0 cl d0 dl hr
      go_wp2_with (at_builtin; refine wpList_app rfl (.tmp 55) (.tmp 70) 69 rfl 78 vi (.agg #[.int .i64 0, .int .i64 0]) 2 16 Try.underlying69 Vi.out Vz0.out Vz1.out Vz2.out rfl (by decide) _ j (entV (NS O.gr n x s j).1) rfl (HL2.out.keep ((Keeps.refl (fun _ => False) w4).alloc _) (fun _ _ h => h)) ⟨w4.heap.size, 0, none⟩ 1 1 [.int .i64 r1, .int .i64 r2] rfl rfl (news_at w4 78 #[.int .i64 r1, .int .i64 r2]) (by intro u hu; simp at hu; rcases hu with rfl | rfl <;> rfl) (by unfold maxLen; omega) (by omega) ?_)
      intro v5 w5 hs5 hk5 ho5
      have HI5 := Lib.hid (HI2.out.app (v := (r1, r2)) ((Keeps.refl (fun _ => False) w4).alloc _) (by rw [HJL.out]; exact hs5) hk5 (by simpa using ho5))
      clear hs5 hk5 ho5
      go_wp2_with fail
      go_roundw
      case rel => exact ⟨j + 1, nv2, F2, by omega, by go_num, by rw [HST.out]; exact HI5.out⟩
      case measure => simp [intOf]; omega
    · obtain rfl : j = f := by omega
      clear hlt hj
      by_cases hk5 : kd = 5
      · subst hk5
        have hg := thing_guard (A := O.ar) (x := x) (by rw [HT.out])
        rw [HT.out] at hg
        dsimp only at hg
        obtain rfl : j = 0 := by omega
        obtain rfl : kc = 0 := hg.2
        have hux := HV.out.hw.ok.ha.use_lt (O.ar.thing_use (i := x) (by rw [HT.out]))
        have h4 := HV.out.hw.ok.ha.h4
        rw [if_pos rfl] at HLEN
        have HGW := Lib.hid (fun (j : Nat) (hj : j < (waitO O.wt (4 * x + 1)).length) => by have := gr_wait (O := O) (x := x) (by rw [HT.out]) hj; rw [HT.out] at this; exact this)
        have hwl : (waitO O.wt (4 * x + 1)).length ≤ 24 := by have h1 := atG_le (4 * x + 1) O.wt; have h2 := HV.out.hw.ok.hq; unfold waitO; unfold atG at h1; omega
        have hgl : O.rg.length ≤ 1000000 := by have h2 := HV.out.hw.ok.hq; omega
        have hwl2 : O.wt.length ≤ 1000000 := by have h2 := HV.out.hw.ok.hq; omega
        have c0 := hI.V.hq.cell 0; have cl := hI.V.hq.lt
        obtain ⟨-, -, d2, -⟩ := hI.V.hw.ptrs
        have dl := hI.V.hw.hp.lt
        simp only [List.getElem?_cons_zero, List.getElem?_cons_succ] at c0
        clear hg hI
        go_wp2_with fail
        refine wp_region_ro (.free 0 (.free 1 (.free 2 (.free 7 (.free 11 (.pure 3 (.free 4 (.free 5 (.pure 6 (.run 8 (.run 9 (.swi [] (.free 10 (.fin)))))))))))))) [9, 10] (fun w' => w'.cell? ⟨q, 0, none⟩ = some (.pointer (some ⟨h.p, 0, none⟩)) ∧ w'.cell? ⟨h.p, 2, none⟩ = some (.pointer (some ⟨h.ps, 0, none⟩))) (by kernel_rfl) (by kernel_rfl) ⟨c0, d2⟩ ?_
        first | (refine wpRO_free rfl rfl _ (fun w' => by go_simp; exact Gives.mk _ _) (fun K hK => ?_); go_simp; refine hK _ ?_; clear hK K) | (refine wpRO_skipF rfl rfl (fun K hK => ?_); go_simp; refine hK _ ?_; clear hK K)
        first | (refine wpRO_free rfl rfl _ (fun w' => by go_simp; exact Gives.mk _ _) (fun K hK => ?_); go_simp; refine hK _ ?_; clear hK K) | (refine wpRO_skipF rfl rfl (fun K hK => ?_); go_simp; refine hK _ ?_; clear hK K)
        first | (refine wpRO_free rfl rfl _ (fun w' => by go_simp; exact Gives.mk _ _) (fun K hK => ?_); go_simp; refine hK _ ?_; clear hK K) | (refine wpRO_skipF rfl rfl (fun K hK => ?_); go_simp; refine hK _ ?_; clear hK K)
        first | (refine wpRO_free rfl rfl _ (fun w' => by go_simp; exact Gives.mk _ _) (fun K hK => ?_); go_simp; refine hK _ ?_; clear hK K) | (refine wpRO_skipF rfl rfl (fun K hK => ?_); go_simp; refine hK _ ?_; clear hK K)
        first | (refine wpRO_free rfl rfl _ (fun w' => by go_simp; exact Gives.mk _ _) (fun K hK => ?_); go_simp; refine hK _ ?_; clear hK K) | (refine wpRO_skipF rfl rfl (fun K hK => ?_); go_simp; refine hK _ ?_; clear hK K)
        first | (refine wpRO_pure rfl rfl _ (fun w' hG => by obtain ⟨g0, g2⟩ := hG; exact gives_agg2 rfl (by decide +kernel) rfl (by assumption) (by assumption)) (fun K hK => ?_); go_simp; refine hK _ ?_; clear hK K) | (refine wpRO_pure rfl rfl _ (fun w' hG => by obtain ⟨g0, g2⟩ := hG; go_simp; exact Gives.mk _ _) (fun K hK => ?_); go_simp; refine hK _ ?_; clear hK K) | (refine wpRO_skip rfl rfl (fun K hK => ?_); go_simp; refine hK _ ?_; clear hK K)
        first | (refine wpRO_free rfl rfl _ (fun w' => by go_simp; exact Gives.mk _ _) (fun K hK => ?_); go_simp; refine hK _ ?_; clear hK K) | (refine wpRO_skipF rfl rfl (fun K hK => ?_); go_simp; refine hK _ ?_; clear hK K)
        first | (refine wpRO_free rfl rfl _ (fun w' => by go_simp; exact Gives.mk _ _) (fun K hK => ?_); go_simp; refine hK _ ?_; clear hK K) | (refine wpRO_skipF rfl rfl (fun K hK => ?_); go_simp; refine hK _ ?_; clear hK K)
        first | (refine wpRO_pure rfl rfl _ (fun w' hG => by obtain ⟨g0, g2⟩ := hG; exact gives_agg2 rfl (by decide +kernel) rfl (by assumption) (by assumption)) (fun K hK => ?_); go_simp; refine hK _ ?_; clear hK K) | (refine wpRO_pure rfl rfl _ (fun w' hG => by obtain ⟨g0, g2⟩ := hG; go_simp; exact Gives.mk _ _) (fun K hK => ?_); go_simp; refine hK _ ?_; clear hK K) | (refine wpRO_skip rfl rfl (fun K hK => ?_); go_simp; refine hK _ ?_; clear hK K)
        refine wpRO_run rfl rfl (fun K hK => ?_); unfold gRun; go_simp
        refine (Ref_c x _ (by omega) (by omega)).mono ?_
        rintro e w4 ⟨rfl, rfl⟩
        refine hK _ _ (fun h => h) ?_
        clear hK K
        refine wpRO_chg rfl rfl rfl (fun K hK => ?_); unfold gRun; go_simp
        refine (At_c h.ps _ _ _ _ (4 * x + 1) _ (HI.out.same (Keeps.refl (fun _ => False) wr).drew).V.hw.hs hwl2).mono ?_
        rintro e w4 ⟨ao, ac, rfl, hs4, hk4, ho4⟩
        have hI4 := HI.out.same ((Keeps.refl (fun _ => False) wr).drew.trans hk4)
        have HI4 := Lib.hid hI4; have HS4 := Lib.hid hs4
        have HO4 : Hid (∀ k, ownB (.slice ao (atG (4 * x + 1) O.wt).length ac) k → wr.heap.size ≤ k) := fun k hk => ho4 k hk
        refine hK _ _ ?_
        clear hK K hs4 hk4 ho4 hI4 c0 cl d2 dl
        refine wpRO_swi (fun _ => True) trivial ?_
        first | (refine wpRO_free rfl rfl _ (fun w' => by go_simp; exact Gives.mk _ _) (fun K hK => ?_); go_simp; refine hK _ ?_; clear hK K) | (refine wpRO_skipF rfl rfl (fun K hK => ?_); go_simp; refine hK _ ?_; clear hK K)
        refine wpRO_fin ?_
        have hLW : atG (4 * x + 1) O.wt = waitO O.wt (4 * x + 1) := rfl
        rw [hLW] at HS4 HO4 ⊢
        have HRW := Lib.hid (show ∀ y ∈ waitO O.wt (4 * x + 1), R64 y from fun y hy => by
          unfold waitO at hy
          obtain ⟨e, he, rfl⟩ := List.mem_map.1 hy
          exact (HV.out.hw.ok.hw e (List.mem_filter.1 he).1).2)
        have HRU := Lib.hid (show ∀ y ∈ waitO O.wt (4 * x + 1), y / 4 ∈ O.univ from fun y hy => Wo.univ_wait hy)
        clear hLW
        generalize waitO O.wt (4 * x + 1) = L at *
        simp only [Int.toNat_natCast, Nat.zero_add] at HLEN HGW
        go_wp2_with fail
        go_loopw [9, 86] (fun lv i wx => ∃ (j : Nat) (nv1 : Value) (F1 : Nat → Prop), j ≤ L.length ∧ i = .int .i64 j ∧ InNode w q h O b rv (.slice no s.2.length nc) F (NS O.gr n x s j).2 lv (NS O.gr n x s j).1 wx nv1 F1 ∧ Sl wx 2 1 (.slice ao L.length ac) L.length (L.map (Value.int .i64))) (fun _ i _ => L.length - (intOf i).toNat)
        case atStart =>
          exact ⟨0, nv1, F1, Nat.zero_le _, rfl, HI4.out, HS4.out⟩
        case round =>
          clear HI HI4 HS4 HO4
          rename_i nv0 F0 _ _ _
          obtain ⟨j, nv1, F1, hj, rfl, hI, hsr⟩ := hrel
          have HI := Lib.hid hI; have HSR := Lib.hid hsr
          obtain ⟨_, _, e', hrd, -, -⟩ := hsr.rd
          cases e'
          clear hsr
          by_cases hlt : j < L.length
          · have HST := Lib.hid (NS_step O.gr n x s (HGW.out j hlt))
            have hjl := NS_len O.gr n x s (j := j) (by rw [HLEN.out]; omega)
            have HJL := Lib.hid hjl
            obtain ⟨lo, lc, rfl, -, -, -⟩ := hI.L.rd
            rw [hjl] at HI ⊢
            obtain ⟨gg, go, rfl, ggl, g0⟩ := hrd.int64 j hlt
            have HLR := Lib.hid (HRW.out (L.getD j 0) (by rw [List.getD_eq_getElem?_getD, List.getElem?_eq_getElem hlt]; exact List.getElem_mem hlt))
            have HLU := Lib.hid (HRU.out (L.getD j 0) (by rw [List.getD_eq_getElem?_getD, List.getElem?_eq_getElem hlt]; exact List.getElem_mem hlt))
            clear hI hjl hrd
            generalize L.getD j 0 = y at *
            go_wp2_with fail
            refine (ih'.out y nv1 F1 _ _ HI.out.V HLR.out (fun _ => HLU.out) (HUN.out j).1 (HUN.out j).2).mono ?_
            rintro e w5 ⟨rfl, ht⟩
            have HSR5 := Lib.hid (HSR.out.keep ht.choose_spec.choose_spec.2.1 (fun k hk => by obtain ⟨_, c, hc⟩ := HSR.out.own hk; exact HI.out.V.fp_ne hc (by decide) (by decide)))
            obtain ⟨nv2, F2, hI2⟩ := HI.out.told ht
            obtain ⟨⟨⟨r1, r2⟩, sr⟩, hr⟩ : ∃ t, valM O.gr n (valO y) (NS O.gr n x s j).2 = t := ⟨_, rfl⟩
            rw [hr] at hI2 HST ⊢
            dsimp only at hI2 HST ⊢
            have HI2 := Lib.hid hI2
            have HL2 := Lib.hid (show Sl w5 78 2 (.slice lo j lc) j (entV (NS O.gr n x s j).1) by have := hI2.L; rw [HJL.out] at this; exact this)
            clear hI2 ht g0 ggl hr
            go_wp2_with (at_builtin; refine wpList_app rfl (.tmp 90) (.tmp 94) 69 rfl 78 vi (.agg #[.int .i64 0, .int .i64 0]) 2 16 Try.underlying69 Vi.out Vz0.out Vz1.out Vz2.out rfl (by decide) _ j (entV (NS O.gr n x s j).1) rfl (HL2.out.keep ((Keeps.refl (fun _ => False) w5).alloc _) (fun _ _ h => h)) ⟨w5.heap.size, 0, none⟩ 1 1 [.int .i64 r1, .int .i64 r2] rfl rfl (news_at w5 78 #[.int .i64 r1, .int .i64 r2]) (by intro u hu; simp at hu; rcases hu with rfl | rfl <;> rfl) (by unfold maxLen; omega) (by omega) ?_)
            intro v6 w6 hs6 hk6 ho6
            have HI6 := Lib.hid (HI2.out.app (v := (r1, r2)) ((Keeps.refl (fun _ => False) w5).alloc _) (by rw [HJL.out]; exact hs6) hk6 (by simpa using ho6))
            have hka6 := (Keeps.refl (fun _ => False) w5).alloc (.cells #[.int .i64 r1, .int .i64 r2] 78)
            have HSR6 := Lib.hid ((HSR5.out.keep hka6 (fun _ _ h => h)).keep hk6 (fun k hk hk2 => by
              obtain ⟨_, c, hc⟩ := (HSR5.out.keep hka6 (fun _ _ h => h)).own hk
              obtain ⟨_, c', hc'⟩ := (HL2.out.keep hka6 (fun _ _ h => h)).own hk2
              exact hc.ne hc' (by decide) rfl))
            clear hs6 hk6 ho6 hka6
            go_wp2_with fail
            go_roundw
            case rel => exact ⟨j + 1, nv2, F2, by omega, by go_num, by rw [HST.out]; exact HI6.out, HSR6.out⟩
            case measure => simp [intOf]; omega
          · obtain rfl : j = L.length := by omega
            clear hlt hj
            have HI9 := Lib.hid hI
            obtain ⟨cs9, hs9, hr9⟩ := hI.V.hn
            have hlt9 : s.1.length < (NS O.gr n x s L.length).2.2.length := (List.getElem?_eq_some_iff.1 (HKP.out L.length)).1
            obtain ⟨g, o, cap9, cur, rfl, hb9, h91, h92, h93, h94⟩ := hs9.some (by omega)
            have c3 := hI.V.hq.cell 3; have cl := hI.V.hq.lt
            have g1 := hb9.cell (o + s.2.length * 2 + 1); have gl := hb9.lt; have gf := hb9.free (o + s.2.length * 2 + 1)
            have hs9l : s.2.length < (NS O.gr n x s L.length).2.2.length := by rw [HLL.out]; exact hlt9
            obtain ⟨u9, hu9⟩ : ∃ u, cur[o + s.2.length * 2 + 1]? = some u := ⟨_, List.getElem?_eq_getElem (by omega)⟩
            simp only [List.getElem?_cons_zero, List.getElem?_cons_succ] at c3
            rw [hu9] at g1
            obtain ⟨lo9, lc9, rfl, -, -, -⟩ := hI.L.rd
            have hs9m : (NS O.gr n x s L.length).2.2.length ≤ cap9 := h91
            clear hI hr9 hs9 hb9 h92 h93 h94 hlt9 h91 hu9
            go_wp2_with fail
            go_ret
            have hd := InNode.done (kd := 5) (n := s.1.length) rfl HI9.out rfl (by have hkp := HKP.out L.length; rw [HKD.out] at hkp; exact hkp)
            refine ⟨ret_int (by rw [HLL.out]), ?_⟩
            rw [HNEW.out]
            have hfull : NS O.gr n x s L.length = fldM (valM O.gr n) (O.gr x).2 (s.1 ++ [x], s.2 ++ [((O.gr x).1, [])]) := by
              unfold NS; rw [List.take_of_length_le (by rw [HLEN.out]; simp)]
            rw [← hfull, HKD.out]
            rw [← HLL.out] at hd ⊢
            exact hd
      · have hkb : (kd == 5) = false := by simpa using hk5
        rw [if_neg hk5] at HLEN
        clear hk5
        have HI9 := Lib.hid hI
        obtain ⟨cs9, hs9, hr9⟩ := hI.V.hn
        have hlt9 : s.1.length < (NS O.gr n x s j).2.2.length := (List.getElem?_eq_some_iff.1 (HKP.out j)).1
        obtain ⟨g, o, cap9, cur, rfl, hb9, h91, h92, h93, h94⟩ := hs9.some (by omega)
        have c3 := hI.V.hq.cell 3; have cl := hI.V.hq.lt
        have g1 := hb9.cell (o + s.2.length * 2 + 1); have gl := hb9.lt; have gf := hb9.free (o + s.2.length * 2 + 1)
        have hs9l : s.2.length < (NS O.gr n x s j).2.2.length := by rw [HLL.out]; exact hlt9
        obtain ⟨u9, hu9⟩ : ∃ u, cur[o + s.2.length * 2 + 1]? = some u := ⟨_, List.getElem?_eq_getElem (by omega)⟩
        rw [hu9] at g1
        simp only [List.getElem?_cons_zero, List.getElem?_cons_succ] at c3
        obtain ⟨lo9, lc9, rfl, -, -, -⟩ := hI.L.rd
        have hs9m : (NS O.gr n x s j).2.2.length ≤ cap9 := h91
        clear hI hr9 hs9 hb9 h92 h93 h94 hlt9 h91 hu9
        go_wp2_with fail
        go_ret
        have hd := InNode.done (kd := kd) (n := s.1.length) rfl HI9.out rfl (by have hkp := HKP.out j; rw [HKD.out] at hkp; exact hkp)
        refine ⟨ret_int (by rw [HLL.out]), ?_⟩
        rw [HNEW.out]
        have hfull : NS O.gr n x s j = fldM (valM O.gr n) (O.gr x).2 (s.1 ++ [x], s.2 ++ [((O.gr x).1, [])]) := by
          unfold NS; rw [List.take_of_length_le (by rw [HLEN.out]; simp)]
        rw [← hfull, HKD.out]
        rw [← HLL.out] at hd ⊢
        exact hd
end

end Go.Proofs.Ytjifdalflepcoab
