/-
  Parts of the proof, merged: what the functions do, and plain laws.
-/
import Derived.Test.YtjifdalflepcoacHCksP0
import Derived.Deep.CutBlock
import Derived.Deep.DeepCutAuto
import Derived.Laws.Tables
import Derived.Deep.MidRow
namespace Go.Proofs.Ytjifdalflepcoac
open Go.RowKit Go.Maps
set_option linter.unusedVariables false
set_option linter.unusedSimpArgs false

theorem info_parts1 {T : TypeId} {z : Option Value} {s b : Nat} (h : (Try.prog.info? T).map (fun i => (i.zero, i.size, i.bytes)) = some (z, s, b)) : ∃ i, Try.prog.info? T = some i ∧ i.zero = z ∧ i.size = s ∧ i.bytes = b := by
  cases hx : Try.prog.info? T with
  | none => rw [hx] at h; cases h
  | some i => rw [hx] at h; simp at h; exact ⟨i, rfl, h.1, h.2.1, h.2.2⟩

theorem info_node : (Try.prog.info? 61).map (fun i => (i.zero, i.size, i.bytes)) = some (some (.agg #[.int .i64 0, .slice none 0 0]), 2, 32) := by kernel_rfl
theorem info_val : (Try.prog.info? 59).map (fun i => (i.zero, i.size, i.bytes)) = some (some (.agg #[.int .i64 0, .int .i64 0]), 2, 16) := by kernel_rfl

section
variable {h : WH} {O : Wo} {q b : Nat} {rv : Value}

/-- value, at a depth. -/
def ValOk (h : WH) (O : Wo) (q b : Nat) (rv : Value) (n : Nat) : Prop := ∀ (x : Int) (nv : Value) (F : Nat → Prop) (s : VS) (w : World), VwAt w q h O b rv nv F s → R64 x → (x % 4 = 1 → x / 4 ∈ O.univ) → unM O.univ s.1 ≤ n → s.1.length + unM O.univ s.1 ≤ 5000 →
  Calls Try.prog 22 #[.pointer (some ⟨q, 0, none⟩), .int .i64 x] w fun e w' => ValRet w q h O b rv nv F (valM O.gr n (valO x) s) e w'

/-- A node's fields so far. -/
def NS (G : Gr) (n : Nat) (x : Int) (s : VS) (j : Nat) : List Vl × VS := fldM (valM G n) ((G x).2.take j) (s.1 ++ [x], s.2 ++ [((G x).1, [])])

theorem NS_zero (G : Gr) (n : Nat) (x : Int) (s : VS) : NS G n x s 0 = ([], (s.1 ++ [x], s.2 ++ [((G x).1, [])])) := rfl

theorem NS_step (G : Gr) (n : Nat) (x : Int) (s : VS) {j : Nat} {v : Vl} (h : (G x).2[j]? = some v) : NS G n x s (j + 1) = ((NS G n x s j).1 ++ [(valM G n v (NS G n x s j).2).1], (valM G n v (NS G n x s j).2).2) := by
  unfold NS
  rw [List.take_add_one, h, Option.toList_some, fldM_app]
  rfl

theorem NS_len (G : Gr) (n : Nat) (x : Int) (s : VS) {j : Nat} (h : j ≤ (G x).2.length) : (NS G n x s j).1.length = j := by
  unfold NS; rw [fldM_len, List.length_take]; omega

theorem NS_un {O : Wo} (hO : O.ok) {n : Nat} {x : Int} {s : VS} (hx : x ∈ O.univ) (j : Nat) (h : unM O.univ (s.1 ++ [x]) ≤ n) (hc : (s.1 ++ [x]).length + unM O.univ (s.1 ++ [x]) ≤ 5000) :
    unM O.univ (NS O.gr n x s j).2.1 ≤ n ∧ (NS O.gr n x s j).2.1.length + unM O.univ (NS O.gr n x s j).2.1 ≤ 5000 := by
  have I := Wo.inU hO
  unfold NS
  obtain ⟨m, hm⟩ := fldM_pre (valM_pre O.gr n) ((O.gr x).2.take j) (s.1 ++ [x], s.2 ++ [((O.gr x).1, [])])
  have h1 := unM_app O.univ (s.1 ++ [x]) m
  have h2 := fldM_count (f := valM O.gr n) (U := O.univ) (valM_count I n) ((O.gr x).2.take j) (s.1 ++ [x], s.2 ++ [((O.gr x).1, [])]) (fun v hv => I.shut x hx v (List.mem_of_mem_take hv))
  rw [hm] at h2 ⊢
  dsimp only at h2 ⊢
  exact ⟨by omega, by omega⟩

theorem gr_field {O : Wo} {x : Int} {j : Nat} (h : j < (O.ar.thing x).2.1.toNat) : (O.gr x).2[j]? = some (valO (O.ar.load (x + 1 + j))) := by
  unfold Wo.gr
  dsimp only
  rw [List.getElem?_append_left (by simp [Ar.fields]; omega), List.getElem?_map]
  unfold Ar.fields
  rw [List.getElem?_map, List.getElem?_range h]
  rfl

theorem gr_wait {O : Wo} {x : Int} {j : Nat} (hk : (O.ar.thing x).1 = 5) (h : j < (waitO O.wt (4 * x + 1)).length) : (O.gr x).2[(O.ar.thing x).2.1.toNat + j]? = some (valO ((waitO O.wt (4 * x + 1)).getD j 0)) := by
  have e : ((O.ar.fields x).map valO).length = (O.ar.thing x).2.1.toNat := by simp [Ar.fields]
  unfold Wo.gr
  dsimp only
  rw [if_pos hk, List.getElem?_append_right (by rw [e]; omega), e, show (O.ar.thing x).2.1.toNat + j - (O.ar.thing x).2.1.toNat = j by omega, List.getElem?_map, List.getElem?_eq_getElem h]
  simp [List.getD, h]

theorem gr_len {O : Wo} {x : Int} : (O.gr x).2.length = (O.ar.thing x).2.1.toNat + if (O.ar.thing x).1 = 5 then (waitO O.wt (4 * x + 1)).length else 0 := by
  unfold Wo.gr
  simp only [List.length_append, List.length_map, Ar.fields, List.length_range]
  split <;> simp

theorem NS_keep (G : Gr) (n : Nat) (x : Int) (s : VS) (j : Nat) (hl : s.2.length = s.1.length) : (NS G n x s j).2.2[s.1.length]? = some ((G x).1, []) := by
  unfold NS
  rw [fldM_keepN (valM_nodes G n) (valM_pre G n) (valM_keepN G n) _ _ (by simp [hl]) s.1.length (by simp)]
  simp [← hl]

theorem thing_guard {A : Ar} {x : Int} (h : (A.thing x).1 = 5) : (A.thing x).2.1 = 0 ∧ (A.thing x).2.2 = 0 := by
  unfold Ar.thing partsW at *
  split at h
  · rename_i hf
    rw [if_pos hf]
    dsimp only at h ⊢
    rw [h] at hf
    simp [fitsW] at hf
    exact ⟨hf, rfl⟩
  · cases h

set_option maxHeartbeats 4000000 in
set_option maxRecDepth 100000 in
theorem node_c (n : Nat) (ih : ValOk h O q b rv n) (x : Int) (nv : Value) (F : Nat → Prop) (s : VS) (w : World) (V : VwAt w q h O b rv nv F s) (x0 : -2305843009213693952 ≤ x) (x1 : x ≤ 2305843009213693951) (hx : x ∈ O.univ) (hm : ¬ x ∈ s.1)
    (hu : unM O.univ s.1 ≤ n + 1) (hc : s.1.length + unM O.univ s.1 ≤ 5000) :
    Calls Try.prog 41 #[.pointer (some ⟨q, 0, none⟩), .int .i64 x] w fun e w' => NodeRet w q h O b rv nv F s.1.length (valM O.gr (n + 1) (3, x) s).2 e w' := by
  have HV := Lib.hid V
  have HNEW := Lib.hid (valM_new O.gr n (v := (3, x)) rfl hm)
  have HM := Lib.hid hm; have HX := Lib.hid hx
  have hp := unM_push hx hm
  have HU := Lib.hid (show unM O.univ (s.1 ++ [x]) ≤ n by omega)
  have HC := Lib.hid (show (s.1 ++ [x]).length + unM O.univ (s.1 ++ [x]) ≤ 5000 by rw [List.length_append]; simp; omega)
  have hl5 : s.1.length ≤ 5000 := by omega
  obtain ⟨ni, hi, hz0, hz1, hz2⟩ := info_parts1 info_node
  have Ni := Lib.hid hi; have Nz0 := Lib.hid hz0; have Nz1 := Lib.hid hz1; have Nz2 := Lib.hid hz2; clear hi hz0 hz1 hz2
  obtain ⟨vi, hi, hz0, hz1, hz2⟩ := info_parts1 info_val
  have Vi := Lib.hid hi; have Vz0 := Lib.hid hz0; have Vz1 := Lib.hid hz1; have Vz2 := Lib.hid hz2; clear hi hz0 hz1 hz2
  obtain ⟨cs, hsl, hcs⟩ := V.hn
  obtain ⟨no, nc, rfl, -, hnm, -⟩ := hsl.rd
  have HSL := Lib.hid hsl; have HCS := Lib.hid hcs
  have HLL := Lib.hid V.hl
  have hs5 : s.2.length ≤ 5000 := by rw [V.hl]; exact hl5
  obtain ⟨n0, D, hown, hn0, hD⟩ := V.hm
  have c3 := V.hq.cell 3; have cl := V.hq.lt; have c1 := V.hq.cell 1; have c0 := V.hq.cell 0
  simp only [List.getElem?_cons_zero, List.getElem?_cons_succ] at c3 c1 c0
  have HD := Lib.hid hD
  clear V hm hp hu hc hsl hcs hD hnm
  go_enter Try.func41, Try.ntmps41
  go_wp2_with (at_mapUpdate; refine wpList_mapUpdate_own _ rfl _ _ _ 72 rfl 3 3 key_int Try.underlying72 _ b n0 D rfl hown (by unfold maxLen; omega) _ _ _ rfl rfl (keyOf_int_mk Try.underlying3 (WalkArith.wf_i64 (by constructor <;> omega))) _ [] (plainElem_int Try.underlying3 (WalkArith.wf_i64 (by constructor <;> omega))) ?_)
  intro wm hown1 hgrow
  have hsee := SeenAt.push (w := w) (w' := wm) hown hn0 HD.out HM.out (by rw [← HLL.out]; exact hown1)
  have KM := Lib.hid (grown_keeps hgrow); have HSEE := Lib.hid hsee
  have Wm := HV.out.hw.keep KM.out (fun j hj e => HV.out.wood_apart hj (.inr (.inl e)))
  have HWM := Lib.hid Wm
  have hqm := KM.out.blk HV.out.hq (HV.out.hm.ne HV.out.hq)
  have HQM := Lib.hid hqm
  have c3 := hqm.cell 3; have cl := hqm.lt; have c0 := hqm.cell 0
  simp only [List.getElem?_cons_zero, List.getElem?_cons_succ] at c3 c0
  obtain ⟨d0, -, d2, -⟩ := Wm.ptrs
  have dl := Wm.hp.lt
  clear hown hown1 hgrow hn0 hsee Wm hqm c1
  go_wp2_with fail
  refine (Thing_c x _ HWM.out.ha).mono ?_
  rintro e w2 ⟨rfl, rfl⟩
  obtain ⟨⟨kd, nf, kc⟩, hT⟩ : ∃ t, O.ar.thing x = t := ⟨_, rfl⟩
  have HT := Lib.hid hT
  have hnf := O.ar.thing_fields x
  rw [hT] at hnf ⊢
  dsimp only at hnf ⊢
  clear hT
  go_wp2_with (at_builtin; refine wpList_app rfl (.tmp 43) (.tmp 46) 45 rfl 61 ni (.agg #[.int .i64 0, .slice none 0 0]) 2 32 Try.underlying45 Ni.out Nz0.out Nz1.out Nz2.out rfl (by decide) _ s.2.length cs rfl ((HSL.out.keep KM.out (fun j hj e => by subst e; obtain ⟨_, c, hc⟩ := HSL.out.own hj; exact HV.out.hm.ne hc rfl)).keep ((Keeps.refl (fun _ => False) wm).alloc _) (fun _ _ h => h)) ⟨wm.heap.size, 0, none⟩ 1 1 [.int .i64 kd, .slice none 0 0] rfl rfl (news_at wm 61 #[.int .i64 kd, .slice none 0 0]) (by intro u hu; simp at hu; rcases hu with rfl | rfl <;> rfl) (by unfold maxLen; omega) (by omega) ?_)
  intro v2 w2 hs2 hk2 ho2
  have hka := (Keeps.refl (fun _ => False) wm).alloc (.cells #[.int .i64 kd, .slice none 0 0] 61)
  have HT2 := Lib.hid (HV.out.push (x := x) (kd := kd) HSEE.out KM.out hka cs HCS.out hs2 hk2 (by simpa using ho2))
  have nq : ¬ ownB (.slice no s.2.length nc) q := fun hq => by obtain ⟨_, c, hc⟩ := HSL.out.own hq; exact HV.out.hq.ne hc (by decide) rfl
  have hq2 := hk2.blk (hka.blk HQM.out (fun h => h)) nq
  have x3 := hq2.cell 3; have xl := hq2.lt; have xf := hq2.free 3
  simp only [List.getElem?_cons_zero, List.getElem?_cons_succ] at x3
  obtain ⟨vo2, vc2, rfl, -, -, -⟩ := hs2.rd
  clear hs2 hk2 ho2 hka nq hq2 c3 c0 cl d0 d2 dl
  go_wp2_with fail
  have HI := Lib.hid (show ∃ nv1 F1, InNode w q h O b rv (.slice no s.2.length nc) F (s.1 ++ [x], s.2 ++ [(kd, [])]) (.slice none 0 0) [] (w2.setCell ⟨q, 3, none⟩ (.slice vo2 (s.2.length + 1) vc2)) nv1 F1 by
    obtain ⟨nv1, F1, V1, k1, p1, p2⟩ := HT2.out
    exact ⟨nv1, F1, V1, k1, p1, p2, Sl.nil _ _ _, fun k hk => (nil_own hk).elim⟩)
  clear HT2 x3 xl xf
  generalize w2.setCell ⟨q, 3, none⟩ (.slice vo2 (s.2.length + 1) vc2) = w3 at *
  have hkd : (O.gr x).1 = kd := by show (O.ar.thing x).1 = kd; rw [HT.out]
  have HNF := Lib.hid (show ∀ j : Nat, (j : Int) < nf → (O.gr x).2[j]? = some (valO (O.ar.load (x + 1 + j))) from fun j hj => gr_field (by rw [HT.out]; dsimp only; omega))
  have HLEN := Lib.hid (show (O.gr x).2.length = nf.toNat + if kd = 5 then (waitO O.wt (4 * x + 1)).length else 0 by rw [gr_len, HT.out])
  have HKP := Lib.hid (fun j => NS_keep O.gr n x s j HLL.out)
  have HUN := Lib.hid (fun j => NS_un HV.out.hw.ok HX.out j HU.out HC.out)
  obtain ⟨f, rfl⟩ : ∃ f : Nat, nf = f := ⟨nf.toNat, by omega⟩
  have HI0 := Lib.hid (show ∃ nv1 F1, InNode w q h O b rv (.slice no s.2.length nc) F (NS O.gr n x s 0).2 (.slice none 0 0) (NS O.gr n x s 0).1 w3 nv1 F1 by rw [NS_zero, hkd]; exact HI.out)
  have HKD := Lib.hid hkd
  clear HI hkd
  have ih' := Lib.hid ih
  go_loopw [9, 52] (fun lv i wr => ∃ (j : Nat) (nv1 : Value) (F1 : Nat → Prop), j ≤ f ∧ i = .int .i64 j ∧ InNode w q h O b rv (.slice no s.2.length nc) F (NS O.gr n x s j).2 lv (NS O.gr n x s j).1 wr nv1 F1) (fun _ i _ => f - (intOf i).toNat)
  case atStart =>
    obtain ⟨nv1, F1, hI⟩ := HI0.out
    exact ⟨0, nv1, F1, Nat.zero_le _, rfl, hI⟩
  case round =>
    clear HI0
    obtain ⟨j, nv1, F1, hj, rfl, hI⟩ := hrel
    have HI := Lib.hid hI
    by_cases hlt : j < f
    · have HST := Lib.hid (NS_step O.gr n x s (HNF.out j (by omega)))
      have hjl := NS_len O.gr n x s (j := j) (by rw [HLEN.out]; omega)
      have HJL := Lib.hid hjl
      have c0 := hI.V.hq.cell 0; have cl := hI.V.hq.lt
      obtain ⟨d0, -, -, -⟩ := hI.V.hw.ptrs
      have dl := hI.V.hw.hp.lt
      simp only [List.getElem?_cons_zero, List.getElem?_cons_succ] at c0
      obtain ⟨lo, lc, rfl, -, -, -⟩ := hI.L.rd
      rw [hjl] at HI ⊢
      clear hI hjl
      go_wp2_with fail
      refine (Load_c (x + 1 + j) _ HI.out.V.hw.ha).mono ?_
      rintro e w4 ⟨rfl, rfl⟩
      have HLR := Lib.hid (HV.out.hw.ok.ha.load (x + 1 + j))
      have HLU := Lib.hid (Wo.univ_load HV.out.hw.ok (x + 1 + j))
      generalize O.ar.load (x + 1 + j) = y at *
      go_wp2_with fail
      refine (ih'.out y nv1 F1 _ _ HI.out.V HLR.out (fun _ => HLU.out) (HUN.out j).1 (HUN.out j).2).mono ?_
      rintro e w4 ⟨rfl, ht⟩
      obtain ⟨nv2, F2, hI2⟩ := HI.out.told ht
      obtain ⟨⟨⟨r1, r2⟩, sr⟩, hr⟩ : ∃ t, valM O.gr n (valO y) (NS O.gr n x s j).2 = t := ⟨_, rfl⟩
      rw [hr] at hI2 HST ⊢
      dsimp only at hI2 HST ⊢
      have HI2 := Lib.hid hI2
      have HL2 := Lib.hid (show Sl w4 59 2 (.slice lo j lc) j (entV (NS O.gr n x s j).1) by have := hI2.L; rw [HJL.out] at this; exact this)
      clear hI2 ht c0 cl d0 dl hr
      go_wp2_with (at_builtin; refine wpList_app rfl (.tmp 55) (.tmp 70) 44 rfl 59 vi (.agg #[.int .i64 0, .int .i64 0]) 2 16 Try.underlying44 Vi.out Vz0.out Vz1.out Vz2.out rfl (by decide) _ j (entV (NS O.gr n x s j).1) rfl (HL2.out.keep ((Keeps.refl (fun _ => False) w4).alloc _) (fun _ _ h => h)) ⟨w4.heap.size, 0, none⟩ 1 1 [.int .i64 r1, .int .i64 r2] rfl rfl (news_at w4 59 #[.int .i64 r1, .int .i64 r2]) (by intro u hu; simp at hu; rcases hu with rfl | rfl <;> rfl) (by unfold maxLen; omega) (by omega) ?_)
      intro v5 w5 hs5 hk5 ho5
      have HI5 := Lib.hid (HI2.out.app (v := (r1, r2)) ((Keeps.refl (fun _ => False) w4).alloc _) (by rw [HJL.out]; exact hs5) hk5 (by simpa using ho5))
      clear hs5 hk5 ho5
      go_wp2_with fail
      go_roundw
      case rel => exact ⟨j + 1, nv2, F2, by omega, by go_num, by rw [HST.out]; exact HI5.out⟩
      case measure => simp [intOf]; omega
    · obtain rfl : j = f := by omega
      clear hlt hj
      by_cases hk5 : kd = 5
      · subst hk5
        have hg := thing_guard (A := O.ar) (x := x) (by rw [HT.out])
        rw [HT.out] at hg
        dsimp only at hg
        obtain rfl : j = 0 := by omega
        obtain rfl : kc = 0 := hg.2
        have hux := HV.out.hw.ok.ha.use_lt (O.ar.thing_use (i := x) (by rw [HT.out]))
        have h4 := HV.out.hw.ok.ha.h4
        rw [if_pos rfl] at HLEN
        have HGW := Lib.hid (fun (j : Nat) (hj : j < (waitO O.wt (4 * x + 1)).length) => by have := gr_wait (O := O) (x := x) (by rw [HT.out]) hj; rw [HT.out] at this; exact this)
        have hwl : (waitO O.wt (4 * x + 1)).length ≤ 24 := by have h1 := atG_le (4 * x + 1) O.wt; have h2 := HV.out.hw.ok.hq; unfold waitO; unfold atG at h1; omega
        have hgl : O.rg.length ≤ 1000000 := by have h2 := HV.out.hw.ok.hq; omega
        have hwl2 : O.wt.length ≤ 1000000 := by have h2 := HV.out.hw.ok.hq; omega
        have c0 := hI.V.hq.cell 0; have cl := hI.V.hq.lt
        obtain ⟨-, -, d2, -⟩ := hI.V.hw.ptrs
        have dl := hI.V.hw.hp.lt
        simp only [List.getElem?_cons_zero, List.getElem?_cons_succ] at c0
        clear hg hI
        go_wp2_with fail
        refine wp_region_ro (.free 0 (.free 1 (.free 2 (.free 7 (.free 11 (.pure 3 (.free 4 (.free 5 (.pure 6 (.run 8 (.run 9 (.swi [] (.free 10 (.fin)))))))))))))) [9, 10] (fun w' => w'.cell? ⟨q, 0, none⟩ = some (.pointer (some ⟨h.p, 0, none⟩)) ∧ w'.cell? ⟨h.p, 2, none⟩ = some (.pointer (some ⟨h.ps, 0, none⟩))) (by kernel_rfl) (by kernel_rfl) ⟨c0, d2⟩ ?_
        first | (refine wpRO_free rfl rfl _ (fun w' => by go_simp; exact Gives.mk _ _) (fun K hK => ?_); go_simp; refine hK _ ?_; clear hK K) | (refine wpRO_skipF rfl rfl (fun K hK => ?_); go_simp; refine hK _ ?_; clear hK K)
        first | (refine wpRO_free rfl rfl _ (fun w' => by go_simp; exact Gives.mk _ _) (fun K hK => ?_); go_simp; refine hK _ ?_; clear hK K) | (refine wpRO_skipF rfl rfl (fun K hK => ?_); go_simp; refine hK _ ?_; clear hK K)
        first | (refine wpRO_free rfl rfl _ (fun w' => by go_simp; exact Gives.mk _ _) (fun K hK => ?_); go_simp; refine hK _ ?_; clear hK K) | (refine wpRO_skipF rfl rfl (fun K hK => ?_); go_simp; refine hK _ ?_; clear hK K)
        first | (refine wpRO_free rfl rfl _ (fun w' => by go_simp; exact Gives.mk _ _) (fun K hK => ?_); go_simp; refine hK _ ?_; clear hK K) | (refine wpRO_skipF rfl rfl (fun K hK => ?_); go_simp; refine hK _ ?_; clear hK K)
        first | (refine wpRO_free rfl rfl _ (fun w' => by go_simp; exact Gives.mk _ _) (fun K hK => ?_); go_simp; refine hK _ ?_; clear hK K) | (refine wpRO_skipF rfl rfl (fun K hK => ?_); go_simp; refine hK _ ?_; clear hK K)
        first | (refine wpRO_pure rfl rfl _ (fun w' hG => by obtain ⟨g0, g2⟩ := hG; exact gives_agg2 rfl (by decide +kernel) rfl (by assumption) (by assumption)) (fun K hK => ?_); go_simp; refine hK _ ?_; clear hK K) | (refine wpRO_pure rfl rfl _ (fun w' hG => by obtain ⟨g0, g2⟩ := hG; go_simp; exact Gives.mk _ _) (fun K hK => ?_); go_simp; refine hK _ ?_; clear hK K) | (refine wpRO_skip rfl rfl (fun K hK => ?_); go_simp; refine hK _ ?_; clear hK K)
        first | (refine wpRO_free rfl rfl _ (fun w' => by go_simp; exact Gives.mk _ _) (fun K hK => ?_); go_simp; refine hK _ ?_; clear hK K) | (refine wpRO_skipF rfl rfl (fun K hK => ?_); go_simp; refine hK _ ?_; clear hK K)
        first | (refine wpRO_free rfl rfl _ (fun w' => by go_simp; exact Gives.mk _ _) (fun K hK => ?_); go_simp; refine hK _ ?_; clear hK K) | (refine wpRO_skipF rfl rfl (fun K hK => ?_); go_simp; refine hK _ ?_; clear hK K)
        first | (refine wpRO_pure rfl rfl _ (fun w' hG => by obtain ⟨g0, g2⟩ := hG; exact gives_agg2 rfl (by decide +kernel) rfl (by assumption) (by assumption)) (fun K hK => ?_); go_simp; refine hK _ ?_; clear hK K) | (refine wpRO_pure rfl rfl _ (fun w' hG => by obtain ⟨g0, g2⟩ := hG; go_simp; exact Gives.mk _ _) (fun K hK => ?_); go_simp; refine hK _ ?_; clear hK K) | (refine wpRO_skip rfl rfl (fun K hK => ?_); go_simp; refine hK _ ?_; clear hK K)
        refine wpRO_run rfl rfl (fun K hK => ?_); unfold gRun; go_simp
        refine (Ref_c x _ (by omega) (by omega)).mono ?_
        rintro e w4 ⟨rfl, rfl⟩
        refine hK _ _ (fun h => h) ?_
        clear hK K
        refine wpRO_chg rfl rfl rfl (fun K hK => ?_); unfold gRun; go_simp
        refine (At_c h.ps _ _ _ _ (4 * x + 1) _ (HI.out.same (Keeps.refl (fun _ => False) wr).drew).V.hw.hs hwl2).mono ?_
        rintro e w4 ⟨ao, ac, rfl, hs4, hk4, ho4⟩
        have hI4 := HI.out.same ((Keeps.refl (fun _ => False) wr).drew.trans hk4)
        have HI4 := Lib.hid hI4; have HS4 := Lib.hid hs4
        have HO4 : Hid (∀ k, ownB (.slice ao (atG (4 * x + 1) O.wt).length ac) k → wr.heap.size ≤ k) := fun k hk => ho4 k hk
        refine hK _ _ ?_
        clear hK K hs4 hk4 ho4 hI4 c0 cl d2 dl
        refine wpRO_swi (fun _ => True) trivial ?_
        first | (refine wpRO_free rfl rfl _ (fun w' => by go_simp; exact Gives.mk _ _) (fun K hK => ?_); go_simp; refine hK _ ?_; clear hK K) | (refine wpRO_skipF rfl rfl (fun K hK => ?_); go_simp; refine hK _ ?_; clear hK K)
        refine wpRO_fin ?_
        have hLW : atG (4 * x + 1) O.wt = waitO O.wt (4 * x + 1) := rfl
        rw [hLW] at HS4 HO4 ⊢
        have HRW := Lib.hid (show ∀ y ∈ waitO O.wt (4 * x + 1), R64 y from fun y hy => by
          unfold waitO at hy
          obtain ⟨e, he, rfl⟩ := List.mem_map.1 hy
          exact (HV.out.hw.ok.hw e (List.mem_filter.1 he).1).2)
        have HRU := Lib.hid (show ∀ y ∈ waitO O.wt (4 * x + 1), y / 4 ∈ O.univ from fun y hy => Wo.univ_wait hy)
        clear hLW
        generalize waitO O.wt (4 * x + 1) = L at *
        simp only [Int.toNat_natCast, Nat.zero_add] at HLEN HGW
        go_wp2_with fail
        go_loopw [9, 86] (fun lv i wx => ∃ (j : Nat) (nv1 : Value) (F1 : Nat → Prop), j ≤ L.length ∧ i = .int .i64 j ∧ InNode w q h O b rv (.slice no s.2.length nc) F (NS O.gr n x s j).2 lv (NS O.gr n x s j).1 wx nv1 F1 ∧ Sl wx 2 1 (.slice ao L.length ac) L.length (L.map (Value.int .i64))) (fun _ i _ => L.length - (intOf i).toNat)
        case atStart =>
          exact ⟨0, nv1, F1, Nat.zero_le _, rfl, HI4.out, HS4.out⟩
        case round =>
          clear HI HI4 HS4 HO4
          rename_i nv0 F0 _ _ _
          obtain ⟨j, nv1, F1, hj, rfl, hI, hsr⟩ := hrel
          have HI := Lib.hid hI; have HSR := Lib.hid hsr
          obtain ⟨_, _, e', hrd, -, -⟩ := hsr.rd
          cases e'
          clear hsr
          by_cases hlt : j < L.length
          · have HST := Lib.hid (NS_step O.gr n x s (HGW.out j hlt))
            have hjl := NS_len O.gr n x s (j := j) (by rw [HLEN.out]; omega)
            have HJL := Lib.hid hjl
            obtain ⟨lo, lc, rfl, -, -, -⟩ := hI.L.rd
            rw [hjl] at HI ⊢
            obtain ⟨gg, go, rfl, ggl, g0⟩ := hrd.int64 j hlt
            have HLR := Lib.hid (HRW.out (L.getD j 0) (by rw [List.getD_eq_getElem?_getD, List.getElem?_eq_getElem hlt]; exact List.getElem_mem hlt))
            have HLU := Lib.hid (HRU.out (L.getD j 0) (by rw [List.getD_eq_getElem?_getD, List.getElem?_eq_getElem hlt]; exact List.getElem_mem hlt))
            clear hI hjl hrd
            generalize L.getD j 0 = y at *
            go_wp2_with fail
            refine (ih'.out y nv1 F1 _ _ HI.out.V HLR.out (fun _ => HLU.out) (HUN.out j).1 (HUN.out j).2).mono ?_
            rintro e w5 ⟨rfl, ht⟩
            have HSR5 := Lib.hid (HSR.out.keep ht.choose_spec.choose_spec.2.1 (fun k hk => by obtain ⟨_, c, hc⟩ := HSR.out.own hk; exact HI.out.V.fp_ne hc (by decide) (by decide)))
            obtain ⟨nv2, F2, hI2⟩ := HI.out.told ht
            obtain ⟨⟨⟨r1, r2⟩, sr⟩, hr⟩ : ∃ t, valM O.gr n (valO y) (NS O.gr n x s j).2 = t := ⟨_, rfl⟩
            rw [hr] at hI2 HST ⊢
            dsimp only at hI2 HST ⊢
            have HI2 := Lib.hid hI2
            have HL2 := Lib.hid (show Sl w5 59 2 (.slice lo j lc) j (entV (NS O.gr n x s j).1) by have := hI2.L; rw [HJL.out] at this; exact this)
            clear hI2 ht g0 ggl hr
            go_wp2_with (at_builtin; refine wpList_app rfl (.tmp 90) (.tmp 94) 44 rfl 59 vi (.agg #[.int .i64 0, .int .i64 0]) 2 16 Try.underlying44 Vi.out Vz0.out Vz1.out Vz2.out rfl (by decide) _ j (entV (NS O.gr n x s j).1) rfl (HL2.out.keep ((Keeps.refl (fun _ => False) w5).alloc _) (fun _ _ h => h)) ⟨w5.heap.size, 0, none⟩ 1 1 [.int .i64 r1, .int .i64 r2] rfl rfl (news_at w5 59 #[.int .i64 r1, .int .i64 r2]) (by intro u hu; simp at hu; rcases hu with rfl | rfl <;> rfl) (by unfold maxLen; omega) (by omega) ?_)
            intro v6 w6 hs6 hk6 ho6
            have HI6 := Lib.hid (HI2.out.app (v := (r1, r2)) ((Keeps.refl (fun _ => False) w5).alloc _) (by rw [HJL.out]; exact hs6) hk6 (by simpa using ho6))
            have hka6 := (Keeps.refl (fun _ => False) w5).alloc (.cells #[.int .i64 r1, .int .i64 r2] 59)
            have HSR6 := Lib.hid ((HSR5.out.keep hka6 (fun _ _ h => h)).keep hk6 (fun k hk hk2 => by
              obtain ⟨_, c, hc⟩ := (HSR5.out.keep hka6 (fun _ _ h => h)).own hk
              obtain ⟨_, c', hc'⟩ := (HL2.out.keep hka6 (fun _ _ h => h)).own hk2
              exact hc.ne hc' (by decide) rfl))
            clear hs6 hk6 ho6 hka6
            go_wp2_with fail
            go_roundw
            case rel => exact ⟨j + 1, nv2, F2, by omega, by go_num, by rw [HST.out]; exact HI6.out, HSR6.out⟩
            case measure => simp [intOf]; omega
          · obtain rfl : j = L.length := by omega
            clear hlt hj
            have HI9 := Lib.hid hI
            obtain ⟨cs9, hs9, hr9⟩ := hI.V.hn
            have hlt9 : s.1.length < (NS O.gr n x s L.length).2.2.length := (List.getElem?_eq_some_iff.1 (HKP.out L.length)).1
            obtain ⟨g, o, cap9, cur, rfl, hb9, h91, h92, h93, h94⟩ := hs9.laid (by omega)
            have c3 := hI.V.hq.cell 3; have cl := hI.V.hq.lt
            have g1 := hb9.cell (o + s.2.length * 2 + 1); have gl := hb9.lt; have gf := hb9.free (o + s.2.length * 2 + 1)
            have hs9l : s.2.length < (NS O.gr n x s L.length).2.2.length := by rw [HLL.out]; exact hlt9
            obtain ⟨u9, hu9⟩ : ∃ u, cur[o + s.2.length * 2 + 1]? = some u := ⟨_, List.getElem?_eq_getElem (by omega)⟩
            simp only [List.getElem?_cons_zero, List.getElem?_cons_succ] at c3
            rw [hu9] at g1
            obtain ⟨lo9, lc9, rfl, -, -, -⟩ := hI.L.rd
            have hs9m : (NS O.gr n x s L.length).2.2.length ≤ cap9 := h91
            clear hI hr9 hs9 hb9 h92 h93 h94 hlt9 h91 hu9
            go_wp2_with fail
            go_ret
            have hd := InNode.done (kd := 5) (n := s.1.length) rfl HI9.out rfl (by have hkp := HKP.out L.length; rw [HKD.out] at hkp; exact hkp)
            refine ⟨ret_int (by rw [HLL.out]), ?_⟩
            rw [HNEW.out]
            have hfull : NS O.gr n x s L.length = fldM (valM O.gr n) (O.gr x).2 (s.1 ++ [x], s.2 ++ [((O.gr x).1, [])]) := by
              unfold NS; rw [List.take_of_length_le (by rw [HLEN.out]; simp)]
            rw [← hfull, HKD.out]
            rw [← HLL.out] at hd ⊢
            exact hd
      · have hkb : (kd == 5) = false := by simpa using hk5
        rw [if_neg hk5] at HLEN
        clear hk5
        have HI9 := Lib.hid hI
        obtain ⟨cs9, hs9, hr9⟩ := hI.V.hn
        have hlt9 : s.1.length < (NS O.gr n x s j).2.2.length := (List.getElem?_eq_some_iff.1 (HKP.out j)).1
        obtain ⟨g, o, cap9, cur, rfl, hb9, h91, h92, h93, h94⟩ := hs9.laid (by omega)
        have c3 := hI.V.hq.cell 3; have cl := hI.V.hq.lt
        have g1 := hb9.cell (o + s.2.length * 2 + 1); have gl := hb9.lt; have gf := hb9.free (o + s.2.length * 2 + 1)
        have hs9l : s.2.length < (NS O.gr n x s j).2.2.length := by rw [HLL.out]; exact hlt9
        obtain ⟨u9, hu9⟩ : ∃ u, cur[o + s.2.length * 2 + 1]? = some u := ⟨_, List.getElem?_eq_getElem (by omega)⟩
        rw [hu9] at g1
        simp only [List.getElem?_cons_zero, List.getElem?_cons_succ] at c3
        obtain ⟨lo9, lc9, rfl, -, -, -⟩ := hI.L.rd
        have hs9m : (NS O.gr n x s j).2.2.length ≤ cap9 := h91
        clear hI hr9 hs9 hb9 h92 h93 h94 hlt9 h91 hu9
        go_wp2_with fail
        go_ret
        have hd := InNode.done (kd := kd) (n := s.1.length) rfl HI9.out rfl (by have hkp := HKP.out j; rw [HKD.out] at hkp; exact hkp)
        refine ⟨ret_int (by rw [HLL.out]), ?_⟩
        rw [HNEW.out]
        have hfull : NS O.gr n x s j = fldM (valM O.gr n) (O.gr x).2 (s.1 ++ [x], s.2 ++ [((O.gr x).1, [])]) := by
          unfold NS; rw [List.take_of_length_le (by rw [HLEN.out]; simp)]
        rw [← hfull, HKD.out]
        rw [← HLL.out] at hd ⊢
        exact hd
end

end Go.Proofs.Ytjifdalflepcoac

namespace Go.Proofs.Ytjifdalflepcoac
open Go.RowKit Go.Maps
set_option linter.unusedVariables false
set_option linter.unusedSimpArgs false

section
variable {h : WH} {O : Wo} {q b : Nat} {rv : Value}

set_option maxHeartbeats 4000000 in
set_option maxRecDepth 100000 in
theorem value_new (n : Nat) (ih : ValOk h O q b rv n) (x : Int) (nv : Value) (F : Nat → Prop) (s : VS) (w : World) (V : VwAt w q h O b rv nv F s) (hx : R64 x) (h1 : x % 4 = 1) (hxu : x / 4 ∈ O.univ) (hm : ¬ x / 4 ∈ s.1)
    (hu : unM O.univ s.1 ≤ n + 1) (hc : s.1.length + unM O.univ s.1 ≤ 5000) :
    Calls Try.prog 22 #[.pointer (some ⟨q, 0, none⟩), .int .i64 x] w fun e w' => ValRet w q h O b rv nv F (valM O.gr (n + 1) (valO x) s) e w' := by
  have HV := Lib.hid V
  have HE := Lib.hid (show (valM O.gr (n + 1) (valO x) s).1 = refV s.1.length by rw [valO_ref h1, valM_new O.gr n rfl hm])
  have HVO := Lib.hid (valO_ref h1)
  have H1 := Lib.hid h1; have HM := Lib.hid hm; have HU := Lib.hid hu; have HC := Lib.hid hc; have HXU := Lib.hid hxu; have HIH := Lib.hid ih
  have r0 : -2305843009213693952 ≤ x / 4 := by have := hx.1; omega
  have r2 : x / 4 ≤ 2305843009213693951 := by have := hx.2; omega
  clear V h1 hm hu hc hxu ih
  go_enter Try.func22, Try.ntmps22
  go_wp2_with fail
  refine (At_yes x _ H1.out).mono ?_
  rintro e w1 ⟨rfl, rfl⟩
  have hka := (Keeps.refl (fun _ => False) w).alloc (.cells #[.int .i64 0, .int .i64 0] 59)
  have V1 := Lib.hid (HV.out.same hka)
  have hal : Blk (w.alloc (.cells #[.int .i64 0, .int .i64 0] 59)) w.heap.size [.int .i64 0, .int .i64 0] 59 := Blk.newAt _ rfl rfl
  have HAL := Lib.hid hal; have HKA := Lib.hid hka
  have c1 := V1.out.hq.cell 1; have cl := V1.out.hq.lt
  simp only [List.getElem?_cons_zero, List.getElem?_cons_succ] at c1
  obtain ⟨n0, D, hown, hn0, hD⟩ := V1.out.hm
  have HD := Lib.hid (hD (x / 4) (by omega) (by omega))
  clear hD hka hal
  go_wp2_with (at_lookup; refine wpList_lookup_own_ok_int _ rfl _ _ 72 rfl 3 3 .i64 key_int Try.underlying72 Try.underlying3 (zero_int _) b n0 D rfl hown _ _ rfl (keyOf_int_mk Try.underlying3 (WalkArith.wf_i64 (by constructor <;> omega))) ?_)
  intro c hat hwc
  rw [HD.out.1, decide_eq_false HM.out]
  clear hat hwc hown hn0 c1 cl
  go_wp2_with fail
  refine (node_c n HIH.out (x / 4) nv F s _ V1.out r0 r2 HXU.out HM.out HU.out HC.out).mono ?_
  rintro e w2 ⟨rfl, ht⟩
  have hb2 := ht.choose_spec.choose_spec.2.1.blk HAL.out (by
    intro hf
    have := HV.out.lt hf
    omega)
  have l0 := hb2.cell 0; have l1 := hb2.cell 1; have ll := hb2.lt; have f0 := hb2.free 0; have f1 := hb2.free 1
  simp only [List.getElem?_cons_zero, List.getElem?_cons_succ] at l0 l1
  have HB2 := Lib.hid hb2; have HT := Lib.hid ht
  clear hb2 ht
  go_wp2_with fail
  have hb3 := (HB2.out.setSame 0 (.int .i64 3)).setSame 1 (.int .i64 s.1.length)
  have x0' := hb3.cell 0; have x1' := hb3.cell 1
  simp only [List.set_cons_zero, List.set_cons_succ, List.getElem?_cons_zero, List.getElem?_cons_succ] at x0' x1'
  refine bodyPost_ret (v := .agg #[.int .i64 3, .int .i64 s.1.length]) (by simp [results, Try.results22, go_sem, x0', x1']) rfl ?_
  refine ⟨by rw [HE.out]; rfl, ?_⟩
  rw [HVO.out]
  have hsz := HKA.out.size
  have hsz1 : (w.alloc (.cells #[.int .i64 0, .int .i64 0] 59)).heap.size = w.heap.size + 1 := by simp
  obtain ⟨nv1, F1, V2, k2, p1, p2⟩ := HT.out
  have ke := ((Keeps.refl (· = w.heap.size) w2).setCell (p := ⟨w.heap.size, 0, none⟩) (.inl rfl) (.int .i64 3)).setCell (p := ⟨w.heap.size, 1, none⟩) (.inl rfl) (.int .i64 s.1.length)
  refine ⟨nv1, F1, V2.keep ke (fun j hj e => ?_) (fun j hj e => ?_) (fun j hj e => ?_), (((HKA.out.mono (fun _ _ h => h.elim)).trans k2).setCell (p := ⟨w.heap.size, 0, none⟩) (.inr (Nat.le_refl _)) _).setCell (p := ⟨w.heap.size, 1, none⟩) (.inr (Nat.le_refl _)) _, fun j hj => ?_, fun j hj => ?_⟩
  · subst e; exact V2.fp_ne HB2.out (by decide) (by decide) hj
  · subst e
    obtain ⟨c', T, hc', hT⟩ := V2.hw.own_type hj
    rcases hT with rfl | rfl | rfl | rfl | rfl | rfl | rfl <;> exact HB2.out.ne hc' (by decide) rfl
  · subst e
    rcases p2 _ hj with h1 | h1
    · have := (HV.out.hF _ h1).1; omega
    · omega
  · rcases p1 j hj with h1 | h1
    · exact .inl h1
    · exact .inr (by omega)
  · rcases p2 j hj with h1 | h1
    · exact .inl h1
    · exact .inr (by omega)

theorem value_c : ∀ n : Nat, n ≤ 5000 → ValOk h O q b rv n := by
  intro n
  induction n with
  | zero =>
    intro _ x nv F s w V hx hxu hu hc
    exact value_met x 0 V hx (fun h1 => unM_zero (Nat.le_zero.1 hu) (hxu h1)) (by omega)
  | succ n ih =>
    intro hn x nv F s w V hx hxu hu hc
    by_cases hm : x % 4 = 1 → x / 4 ∈ s.1
    · exact value_met x (n + 1) V hx hm (by omega)
    · obtain ⟨h1, h2⟩ := Classical.not_imp.1 hm
      exact value_new n (ih (by omega)) x nv F s w V hx h1 (hxu h1) h2 hu hc

/-- A view in memory: made since the heap was lo. -/
def ViewV (w : World) (lo : Nat) (v : Value) (V : List Vl × List Nd) : Prop :=
  ∃ ro rc no nc F, v = .agg #[.slice ro V.1.length rc, .slice no V.2.length nc] ∧ Sl w 59 2 (.slice ro V.1.length rc) V.1.length (entV V.1) ∧ NodesAt w (.slice no V.2.length nc) F V.2 ∧
    ∀ k, (F k ∨ ownB (.slice ro V.1.length rc) k ∨ ownB (.slice no V.2.length nc) k) → lo ≤ k ∧ k < w.heap.size

theorem ViewV.keep {w w' : World} {S : Nat → Prop} {lo : Nat} {v : Value} {V : List Vl × List Nd} (H : ViewV w lo v V) (k : Keeps S w w') (hn : ∀ j, lo ≤ j → j < w.heap.size → ¬ S j) : ViewV w' lo v V := by
  obtain ⟨ro, rc, no, nc, F, e, h1, h2, h3⟩ := H
  refine ⟨ro, rc, no, nc, F, e, h1.keep k (fun j hj => ?_), h2.keep k (fun j hj _ => ?_) (fun j hj => ?_), fun j hj => ⟨(h3 j hj).1, Nat.lt_of_lt_of_le (h3 j hj).2 k.size⟩⟩
  · have := h3 j (.inr (.inl hj)); exact hn j this.1 this.2
  · have := h3 j (.inl hj); exact hn j this.1 this.2
  · have := h3 j (.inr (.inr hj)); exact hn j this.1 this.2

/-- In the midst of View: the roots so far. -/
structure TopIn (w : World) (q : Nat) (h : WH) (O : Wo) (b : Nat) (wr : World) (rv nv : Value) (F : Nat → Prop) (s : VS) (l : List Vl) : Prop where
  V : VwAt wr q h O b rv nv F s
  K : Keeps (fun _ => False) w wr
  o1 : ∀ k, ownB nv k → w.heap.size ≤ k
  o2 : ∀ k, F k → w.heap.size < k
  L : Sl wr 59 2 rv l.length (entV l)
  o3 : ∀ k, ownB rv k → w.heap.size ≤ k ∧ ¬ F k
  oq : w.heap.size ≤ q
  ob : w.heap.size ≤ b
  B : Blk wr w.heap.size [.slice none 0 0, .slice none 0 0] 47

theorem TopIn.rv_ne {w wr : World} {rv nv : Value} {F : Nat → Prop} {s : VS} {l : List Vl} (I : TopIn w q h O b wr rv nv F s l) {k : Nat} (hk : ownB rv k) : ¬ VwFp q b nv k ∧ ¬ h.Own k := by
  obtain ⟨_, c, hc⟩ := I.L.own hk
  refine ⟨I.V.fp_ne hc (by decide) (by decide), fun h1 => ?_⟩
  obtain ⟨c', T, hc', hT⟩ := I.V.hw.own_type h1
  rcases hT with rfl | rfl | rfl | rfl | rfl | rfl | rfl <;> exact hc.ne hc' (by decide) rfl

theorem TopIn.told {w wr w2 : World} {rv nv : Value} {F : Nat → Prop} {s s2 : VS} {l : List Vl} (I : TopIn w q h O b wr rv nv F s l) (t : VwTo wr q h O b rv nv F s2 w2) : ∃ nv2 F2, TopIn w q h O b w2 rv nv2 F2 s2 l := by
  obtain ⟨nv2, F2, V2, k2, p1, p2⟩ := t
  have hz := I.K.size
  refine ⟨nv2, F2, V2, I.K.then k2 (fun j hj => ?_), fun j hj => ?_, fun j hj => ?_, I.L.keep k2 (fun j hj => (I.rv_ne hj).1), fun j hj => ⟨(I.o3 j hj).1, fun hf => ?_⟩, I.oq, I.ob, k2.blk I.B (I.V.fp_ne I.B (by decide) (by decide))⟩
  · rcases hj with rfl | rfl | hj
    · exact .inr I.oq
    · exact .inr I.ob
    · exact .inr (I.o1 j hj)
  · rcases p1 j hj with h | h
    · exact I.o1 j h
    · omega
  · have hbl := I.B.lt
    rcases p2 j hj with h | h
    · exact I.o2 j h
    · omega
  · rcases p2 j hf with h | h
    · exact (I.o3 j hj).2 h
    · have := (I.L.own hj).1; omega

theorem TopIn.same {w wr w2 : World} {rv nv : Value} {F : Nat → Prop} {s : VS} {l : List Vl} (I : TopIn w q h O b wr rv nv F s l) (k : Keeps (fun _ => False) wr w2) : TopIn w q h O b w2 rv nv F s l :=
  ⟨I.V.same k, I.K.trans k, I.o1, I.o2, I.L.keep k (fun _ _ h => h), I.o3, I.oq, I.ob, k.blk I.B (fun h => h)⟩

theorem TopIn.app {w wr wa w2 : World} {rv nv v2 : Value} {F : Nat → Prop} {s : VS} {l : List Vl} {v : Vl} (I : TopIn w q h O b wr rv nv F s l) (ka : Keeps (fun _ => False) wr wa)
    (hs : Sl w2 59 2 v2 (l.length + 1) (entV l ++ [.int .i64 v.1, .int .i64 v.2])) (hk : Keeps (ownB rv) wa w2) (ho : ∀ k, ownB v2 k → ownB rv k ∨ wa.heap.size ≤ k) : TopIn w q h O b (w2.setCell ⟨q, 2, none⟩ v2) v2 nv F s (l ++ [v]) := by
  have k2 := (ka.mono (T := ownB rv) (fun _ _ h => h.elim)).trans hk
  have hz := ka.size; have hz2 := I.K.size
  have nq : ∀ {v : Value} {wx : World} {n : Nat} {xs : List Value}, Sl wx 59 2 v n xs → Blk wx q [.pointer (some ⟨h.p, 0, none⟩), .map (some b), rv, nv] 74 → ¬ ownB v q := fun hs hq h => by
    obtain ⟨_, c, hc⟩ := hs.own h
    exact hc.ne hq (by decide) rfl
  have hq2 := k2.blk I.V.hq (nq I.L I.V.hq)
  have set := (Keeps.refl (· = q) w2).setCell (p := ⟨q, 2, none⟩) (.inl rfl) v2
  have V2 := I.V.keep k2 (fun j hj hl => (I.rv_ne hl).1 hj) (fun j hj hl => (I.rv_ne hl).2 hj) (fun j hj hl => (I.o3 j hl).2 hj)
  have sq : ∀ j, ownB v2 j → ¬ j = q := fun j hj e => nq hs hq2 (e ▸ hj)
  have B2 := k2.blk I.B (fun hl => by obtain ⟨_, c, hc⟩ := I.L.own hl; exact hc.ne I.B (by decide) rfl)
  refine ⟨⟨by simpa using hq2.setSame 2 v2, V2.hw.keep set (fun j hj e => by subst e; exact V2.wood_apart hj (.inl rfl)), V2.hm.keep set (fun e => V2.hm.ne V2.hq e.symm), V2.hn.keep set (fun j hj _ e => (V2.hF j hj).2 (.inl e)) (fun j hj e => ?_), V2.hl, fun j hj => ⟨?_, (V2.hF j hj).2⟩⟩,
    (I.K.then k2 (fun j hj => .inr (I.o3 j hj).1)).setCell (p := ⟨q, 2, none⟩) (.inr I.oq) _, I.o1, I.o2, ?_, fun j hj => ?_, I.oq, I.ob, set.blk B2 (B2.ne hq2 (by decide))⟩
  · obtain ⟨_, c, hc⟩ := V2.hn.own hj
    exact hc.ne hq2 (by decide) e
  · have := (V2.hF j hj).1; have := set.size; omega
  · have e : entV (l ++ [v]) = entV l ++ [.int .i64 v.1, .int .i64 v.2] := by simp [entV]
    rw [e, List.length_append]
    exact hs.keep set sq
  · rcases ho j hj with h1 | h1
    · exact I.o3 j h1
    · exact ⟨by omega, fun hf => by have := (I.V.hF j hf).1; omega⟩

/-- The roots so far. -/
def TS (O : Wo) (k : Nat) : List Vl × VS := fldM (valM O.gr 5000) ((O.rt.map valO).take k) ([], [])

theorem TS_step {O : Wo} {k : Nat} (h : k < O.rt.length) : TS O (k + 1) = ((TS O k).1 ++ [(valM O.gr 5000 (valO (O.rt.getD k 0)) (TS O k).2).1], (valM O.gr 5000 (valO (O.rt.getD k 0)) (TS O k).2).2) := by
  unfold TS
  have e : (O.rt.map valO)[k]? = some (valO (O.rt.getD k 0)) := by rw [List.getElem?_map, List.getElem?_eq_getElem h]; simp [List.getD, h]
  rw [List.take_add_one, e, Option.toList_some, fldM_app]
  rfl

theorem TS_len {O : Wo} {k : Nat} (h : k ≤ O.rt.length) : (TS O k).1.length = k := by
  unfold TS; rw [fldM_len, List.length_take, List.length_map]; omega

theorem TS_un {O : Wo} (hO : O.ok) (k : Nat) : unM O.univ (TS O k).2.1 ≤ 5000 ∧ (TS O k).2.1.length + unM O.univ (TS O k).2.1 ≤ 5000 := by
  have I := Wo.inU hO
  unfold TS
  have h1 := Wo.univ_le hO
  have h2 := unM_nil O.univ
  have h3 := fldM_count (f := valM O.gr 5000) (U := O.univ) (valM_count I 5000) ((O.rt.map valO).take k) ([], []) (fun v hv h3 => by
    obtain ⟨x, hx, rfl⟩ := List.mem_map.1 (List.mem_of_mem_take hv)
    rw [(valO_three h3).2]; exact Wo.univ_root hx)
  simp only [List.length_nil] at h3
  exact ⟨by omega, by omega⟩

/-- A view is returned. -/
def ViewRet (w : World) (V : List Vl × List Nd) (e : Ending) (w' : World) : Prop := ∃ v, e = .returned v ∧ ViewV w' w.heap.size v V ∧ Keeps (fun _ => False) w w'

set_option maxHeartbeats 4000000 in
set_option maxRecDepth 100000 in
theorem View_c (w : World) (H : WoodAt w h O) :
    Calls Try.prog 13 #[.pointer (some ⟨h.p, 0, none⟩)] w fun e w' => ViewRet w O.view e w' := by
  have HH := Lib.hid H
  obtain ⟨vi, hi, hz0, hz1, hz2⟩ := info_parts1 info_val
  have Vi := Lib.hid hi; have Vz0 := Lib.hid hz0; have Vz1 := Lib.hid hz1; have Vz2 := Lib.hid hz2; clear hi hz0 hz1 hz2
  have hmm := @run_makeMap Try.prog
  have HMM := Lib.hid hmm
  have h12 := H.ok.h12
  obtain ⟨ro, rc, hro, -, -, -⟩ := H.hr.rd
  have HRO := Lib.hid hro
  have c3 := H.ptrs.2.2.2; have pl := H.hp.lt
  rw [hro, h12] at c3
  have HRR := Lib.hid H.hr
  rw [hro, h12] at HRR
  clear H h12 hro
  go_enter Try.func13, Try.ntmps13
  go_upto_region 2 with fail
  have k1 := (((Keeps.refl (fun _ => False) w).alloc (.cells #[.slice none 0 0, .slice none 0 0] 47)).alloc (.map #[] 0)).alloc (.cells #[.pointer (some ⟨h.p, 0, none⟩), .map (some (w.heap.size + 1)), .slice none 0 0, .slice none 0 0] 74)
  have hb : Blk (((w.alloc (.cells #[.slice none 0 0, .slice none 0 0] 47)).alloc (.map #[] 0)).alloc (.cells #[.pointer (some ⟨h.p, 0, none⟩), .map (some (w.heap.size + 1)), .slice none 0 0, .slice none 0 0] 74)) w.heap.size [.slice none 0 0, .slice none 0 0] 47 := ((Blk.newAt _ rfl rfl).alloc _).alloc _
  have hsn : SeenAt (((w.alloc (.cells #[.slice none 0 0, .slice none 0 0] 47)).alloc (.map #[] 0)).alloc (.cells #[.pointer (some ⟨h.p, 0, none⟩), .map (some (w.heap.size + 1)), .slice none 0 0, .slice none 0 0] 74)) (w.heap.size + 1) [] := by
    have := SeenAt.made (w.alloc (.cells #[.slice none 0 0, .slice none 0 0] 47))
    simp only [World.size_alloc] at this
    exact this.keep ((Keeps.refl (fun _ => False) _).alloc _) (fun h => h)
  have hv : VwAt (((w.alloc (.cells #[.slice none 0 0, .slice none 0 0] 47)).alloc (.map #[] 0)).alloc (.cells #[.pointer (some ⟨h.p, 0, none⟩), .map (some (w.heap.size + 1)), .slice none 0 0, .slice none 0 0] 74)) (w.heap.size + 1 + 1) h O (w.heap.size + 1) (.slice none 0 0) (.slice none 0 0) (fun _ => False) ([], []) :=
    ⟨Blk.newAt _ (by simp) rfl, HH.out.keep k1 (fun _ _ h => h), hsn, NodesAt.nil _ _, rfl, fun _ h => h.elim⟩
  have HK1 := Lib.hid k1; have HB := Lib.hid hb; have HVW := Lib.hid hv
  have HSZ := Lib.hid (show w.heap.size + 3 ≤ (((w.alloc (.cells #[.slice none 0 0, .slice none 0 0] 47)).alloc (.map #[] 0)).alloc (.cells #[.pointer (some ⟨h.p, 0, none⟩), .map (some (w.heap.size + 1)), .slice none 0 0, .slice none 0 0] 74)).heap.size by simp)
  have c3 := hv.hw.ptrs.2.2.2; have pl := hv.hw.hp.lt
  rw [HRO.out, HH.out.ok.h12] at c3
  clear k1 hb hsn hv hmm
  generalize ((w.alloc (.cells #[.slice none 0 0, .slice none 0 0] 47)).alloc (.map #[] 0)).alloc (.cells #[.pointer (some ⟨h.p, 0, none⟩), .map (some (w.heap.size + 1)), .slice none 0 0, .slice none 0 0] 74) = w1 at *
  go_wp2_with fail
  have HI0 := Lib.hid (show TopIn w (w.heap.size + 1 + 1) h O (w.heap.size + 1) w1 (.slice none 0 0) (.slice none 0 0) (fun _ => False) (TS O 0).2 (TS O 0).1 from
    ⟨HVW.out, HK1.out, fun _ h => (nil_own h).elim, fun _ h => h.elim, Sl.nil _ _ _, fun _ h => (nil_own h).elim, by omega, by omega, HB.out⟩)
  clear HVW HB HSZ HK1 c3 pl
  go_loopw [16] (fun i wr => ∃ (k : Nat) (rv nv : Value) (F : Nat → Prop), k ≤ 12 ∧ i = .int .i64 k ∧ TopIn w (w.heap.size + 1 + 1) h O (w.heap.size + 1) wr rv nv F (TS O k).2 (TS O k).1) (fun i _ => 12 - (intOf i).toNat)
  case atStart => exact ⟨0, _, _, _, Nat.zero_le _, rfl, HI0.out⟩
  case round =>
    clear HI0
    obtain ⟨k, rv, nv, F, hk, rfl, hI⟩ := hrel
    have HI := Lib.hid hI
    have hkl := TS_len (O := O) (k := k) (by rw [HH.out.ok.h12]; exact hk)
    have HKL := Lib.hid hkl
    by_cases hlt : k < 12
    · have HST := Lib.hid (TS_step (O := O) (k := k) (by rw [HH.out.ok.h12]; exact hlt))
      have hm : O.rt.getD k 0 ∈ O.rt := by rw [List.getD_eq_getElem?_getD, List.getElem?_eq_getElem (by rw [HH.out.ok.h12]; exact hlt)]; exact List.getElem_mem _
      have HLR := Lib.hid (HH.out.ok.hR _ hm); have HLU := Lib.hid (Wo.univ_root hm)
      have hrd := (HRR.keep hI.K (fun _ _ h => h))
      obtain ⟨_, _, e', hrr, -, -⟩ := hrd.rd
      cases e'
      obtain ⟨gg, go, rfl, ggl, g0⟩ := hrr.int64 k (by rw [HH.out.ok.h12]; exact hlt)
      clear hI hkl hm hrd hrr
      generalize O.rt.getD k 0 = y at *
      go_wp2_with fail
      refine (value_c 5000 (Nat.le_refl _) y nv F _ _ HI.out.V HLR.out (fun _ => HLU.out) (TS_un HH.out.ok k).1 (TS_un HH.out.ok k).2).mono ?_
      rintro e w2 ⟨rfl, ht⟩
      obtain ⟨nv2, F2, hI2⟩ := HI.out.told ht
      obtain ⟨⟨⟨r1, r2⟩, sr⟩, hr⟩ : ∃ t, valM O.gr 5000 (valO y) (TS O k).2 = t := ⟨_, rfl⟩
      rw [hr] at hI2 HST ⊢
      dsimp only at hI2 HST ⊢
      clear hr ht g0 ggl
      go_upto_region 6 with fail
      have hka := (Keeps.refl (fun _ => False) w2).alloc (.cells #[.int .i64 r1, .int .i64 r2] 59)
      have hI3 := hI2.same hka
      have hvb : Blk (w2.alloc (.cells #[.int .i64 r1, .int .i64 r2] 59)) w2.heap.size [.int .i64 r1, .int .i64 r2] 59 := Blk.newAt _ rfl rfl
      have HI3 := Lib.hid hI3
      obtain ⟨lo, lc, rfl, -, -, -⟩ := hI3.L.rd
      rw [HKL.out] at HI3
      have c2 := hI3.V.hq.cell 2; have cl := hI3.V.hq.lt
      have v0 := hvb.cell 0; have v1 := hvb.cell 1; have vl := hvb.lt
      simp only [List.getElem?_cons_zero, List.getElem?_cons_succ] at c2 v0 v1
      rw [HKL.out] at c2
      have HL3 := Lib.hid (show Sl (w2.alloc (.cells #[.int .i64 r1, .int .i64 r2] 59)) 59 2 (.slice lo k lc) k (entV (TS O k).1) by have := HI3.out.L; rw [HKL.out] at this; exact this)
      clear hka hI3 hI2 hvb HI
      generalize w2.alloc (.cells #[.int .i64 r1, .int .i64 r2] 59) = wb at *
      generalize w2.heap.size = bv at *
      refine wp_region_ro (.free 0 (.free 1 (.free 2 (.free 3 (.free 4 (.pure 5 (.pure 6 (.run 7 (.run 8 (.swi [12] (.free 9 (.free 10 (.free 11 (.run 12 (.swi [] (.fin)))))))))))))))) [8, 9, 10, 11, 12] (fun w' => w'.cell? ⟨w.heap.size + 1 + 1, 2, none⟩ = some (.slice lo k lc) ∧ w'.cell? ⟨bv, 0, none⟩ = some (.int .i64 r1) ∧ w'.cell? ⟨bv, 1, none⟩ = some (.int .i64 r2)) (by kernel_rfl) (by kernel_rfl) ⟨c2, v0, v1⟩ ?_
      first | (refine wpRO_free rfl rfl _ (fun w' => by go_simp; exact Gives.mk _ _) (fun K hK => ?_); go_simp; refine hK _ ?_; clear hK K) | (refine wpRO_skipF rfl rfl (fun K hK => ?_); go_simp; refine hK _ ?_; clear hK K)
      first | (refine wpRO_free rfl rfl _ (fun w' => by go_simp; exact Gives.mk _ _) (fun K hK => ?_); go_simp; refine hK _ ?_; clear hK K) | (refine wpRO_skipF rfl rfl (fun K hK => ?_); go_simp; refine hK _ ?_; clear hK K)
      first | (refine wpRO_free rfl rfl _ (fun w' => by go_simp; exact Gives.mk _ _) (fun K hK => ?_); go_simp; refine hK _ ?_; clear hK K) | (refine wpRO_skipF rfl rfl (fun K hK => ?_); go_simp; refine hK _ ?_; clear hK K)
      first | (refine wpRO_free rfl rfl _ (fun w' => by go_simp; exact Gives.mk _ _) (fun K hK => ?_); go_simp; refine hK _ ?_; clear hK K) | (refine wpRO_skipF rfl rfl (fun K hK => ?_); go_simp; refine hK _ ?_; clear hK K)
      first | (refine wpRO_free rfl rfl _ (fun w' => by go_simp; exact Gives.mk _ _) (fun K hK => ?_); go_simp; refine hK _ ?_; clear hK K) | (refine wpRO_skipF rfl rfl (fun K hK => ?_); go_simp; refine hK _ ?_; clear hK K)
      first | (refine wpRO_pure rfl rfl _ (fun w' hG => by obtain ⟨g2, g0, g1⟩ := hG; exact gives_agg2 rfl (by decide +kernel) rfl (by assumption) (by assumption)) (fun K hK => ?_); go_simp; refine hK _ ?_; clear hK K) | (refine wpRO_pure rfl rfl _ (fun w' hG => by obtain ⟨g2, g0, g1⟩ := hG; go_simp; exact Gives.mk _ _) (fun K hK => ?_); go_simp; refine hK _ ?_; clear hK K) | (refine wpRO_skip rfl rfl (fun K hK => ?_); go_simp; refine hK _ ?_; clear hK K)
      first | (refine wpRO_pure rfl rfl _ (fun w' hG => by obtain ⟨g2, g0, g1⟩ := hG; exact gives_agg2 rfl (by decide +kernel) rfl (by assumption) (by assumption)) (fun K hK => ?_); go_simp; refine hK _ ?_; clear hK K) | (refine wpRO_pure rfl rfl _ (fun w' hG => by obtain ⟨g2, g0, g1⟩ := hG; go_simp; exact Gives.mk _ _) (fun K hK => ?_); go_simp; refine hK _ ?_; clear hK K) | (refine wpRO_skip rfl rfl (fun K hK => ?_); go_simp; refine hK _ ?_; clear hK K)
      refine wpRO_run rfl rfl (fun K hK => ?_); unfold gRun; go_simp
      have hkb : Keeps (fun _ => False) wb ((wb.drew).alloc (.cells #[.int .i64 r1, .int .i64 r2] 59)) := (Keeps.refl (fun _ => False) wb).drew.alloc (.cells #[.int .i64 r1, .int .i64 r2] 59)
      refine hK _ _ (fun hg => ?_) ?_
      · refine ⟨?_, ?_, ?_⟩
        · exact (World.cell?_of_block (w := wb) (a := ⟨w.heap.size + 1 + 1, 2, none⟩) (hkb.block _ cl (fun h => h))).trans c2
        · exact (World.cell?_of_block (w := wb) (a := ⟨bv, 0, none⟩) (hkb.block _ vl (fun h => h))).trans v0
        · exact (World.cell?_of_block (w := wb) (a := ⟨bv, 1, none⟩) (hkb.block _ vl (fun h => h))).trans v1
      clear hK K
      refine wpRO_chg rfl rfl rfl (fun K hK => ?_)
      refine gRun_app (.tmp 28) (.tmp 30) 44 rfl 59 vi (.agg #[.int .i64 0, .int .i64 0]) 2 16 Try.underlying44 Vi.out Vz0.out Vz1.out Vz2.out rfl (by decide) _ k (entV (TS O k).1) rfl (HL3.out.keep hkb (fun _ _ h => h)) ⟨wb.heap.size, 0, none⟩ 1 1 [.int .i64 r1, .int .i64 r2] rfl rfl (news_at wb.drew 59 #[.int .i64 r1, .int .i64 r2]) (by intro u hu; simp at hu; rcases hu with rfl | rfl <;> rfl) (by unfold maxLen; omega) (by omega) ?_
      intro v3 w3 hs3 hk3 ho3
      have HI4 := Lib.hid (HI3.out.app (v := (r1, r2)) hkb (by rw [HKL.out]; exact hs3) hk3 ho3)
      have hp3 := hk3.blk (hkb.blk HI3.out.V.hq (fun h => h)) (fun hv => by obtain ⟨_, c', hc⟩ := (HL3.out.keep hkb (fun _ _ h => h)).own hv; exact (hkb.blk HI3.out.V.hq (fun h => h)).ne hc (by decide) rfl)
      have x0 := hp3.cell 2; have xf := hp3.free 2; have xl := hp3.lt
      simp only [List.getElem?_cons_zero, List.getElem?_cons_succ] at x0
      obtain ⟨lo3, lc3, rfl, -, -, -⟩ := hs3.rd
      refine hK _ _ ?_
      clear hK K hkb hs3 hk3 ho3 hp3 c2 cl v0 v1 vl
      refine wpRO_swi (fun _ => True) trivial ?_
      first | (refine wpRO_free rfl rfl _ (fun w' => by go_simp; exact Gives.mk _ _) (fun K hK => ?_); go_simp; refine hK _ ?_; clear hK K) | (refine wpRO_skipF rfl rfl (fun K hK => ?_); go_simp; refine hK _ ?_; clear hK K)
      first | (refine wpRO_free rfl rfl _ (fun w' => by go_simp; exact Gives.mk _ _) (fun K hK => ?_); go_simp; refine hK _ ?_; clear hK K) | (refine wpRO_skipF rfl rfl (fun K hK => ?_); go_simp; refine hK _ ?_; clear hK K)
      first | (refine wpRO_free rfl rfl _ (fun w' => by go_simp; exact Gives.mk _ _) (fun K hK => ?_); go_simp; refine hK _ ?_; clear hK K) | (refine wpRO_skipF rfl rfl (fun K hK => ?_); go_simp; refine hK _ ?_; clear hK K)
      refine wpRO_chg rfl rfl rfl (fun K hK => ?_); unfold gRun; go_simp
      refine hK _ _ ?_
      clear hK K
      refine wpRO_swi (fun _ => True) trivial (wpRO_fin ?_)
      clear x0 xf xl
      go_wp2_with fail
      go_roundw
      case rel => exact ⟨k + 1, _, nv2, F2, by omega, by go_num, by rw [HST.out]; exact HI4.out⟩
      case measure => simp [intOf]; omega
    · obtain rfl : k = 12 := by omega
      obtain ⟨lo, lc, rfl, hrr, -, -⟩ := hI.L.rd
      obtain ⟨cs, hns, hnr⟩ := hI.V.hn
      obtain ⟨no, nc, rfl, -, -, -⟩ := hns.rd
      have c2 := hI.V.hq.cell 2; have c3 := hI.V.hq.cell 3; have cl := hI.V.hq.lt
      have b0 := hI.B.cell 0; have b1 := hI.B.cell 1; have bl := hI.B.lt; have f0 := hI.B.free 0; have f1 := hI.B.free 1
      simp only [List.getElem?_cons_zero, List.getElem?_cons_succ] at c2 c3 b0 b1
      have HVE := Lib.hid (show O.view = ((TS O 12).1, (TS O 12).2.2) by
        unfold Wo.view viewM TS deep
        rw [List.take_of_length_le (by rw [List.length_map, HH.out.ok.h12]; exact Nat.le_refl _)])
      clear hI hrr hns hnr hlt hk hkl
      go_wp2_with (refine wpList_agg2 rfl 47 (.tmp 38) rfl (by kernel_rfl) (w.heap.size + 1 + 1) 2 rfl _ _ c2 c3 ?_)
      have hb3 := (HI.out.B.setSame 0 (.slice lo (TS O 12).1.length lc)).setSame 1 (.slice no (TS O 12).2.2.length nc)
      have x0 := hb3.cell 0; have x1 := hb3.cell 1
      simp only [List.set_cons_zero, List.set_cons_succ, List.getElem?_cons_zero, List.getElem?_cons_succ] at x0 x1
      refine bodyPost_ret (v := .agg #[.slice lo (TS O 12).1.length lc, .slice no (TS O 12).2.2.length nc]) (by simp [results, Try.results13, go_sem, x0, x1]) rfl ?_
      refine ⟨_, rfl, ?_, (HI.out.K.setCell (p := ⟨w.heap.size, 0, none⟩) (.inr (Nat.le_refl _)) _).setCell (p := ⟨w.heap.size, 1, none⟩) (.inr (Nat.le_refl _)) _⟩
      rw [HVE.out]
      have ke := ((Keeps.refl (· = w.heap.size) wr).setCell (p := ⟨w.heap.size, 0, none⟩) (.inl rfl) (.slice lo (TS O 12).1.length lc)).setCell (p := ⟨w.heap.size, 1, none⟩) (.inl rfl) (.slice no (TS O 12).2.2.length nc)
      have nF : ∀ j, F j → ¬ j = w.heap.size := fun j hj e => by
        have := HI.out.o2 j hj; omega
      refine ⟨lo, lc, no, nc, F, rfl, HI.out.L.keep ke (fun j hj e => ?_), HI.out.V.hn.keep ke (fun j hj _ => nF j hj) (fun j hj e => ?_), fun j hj => ?_⟩
      · subst e; obtain ⟨_, c, hc⟩ := HI.out.L.own hj; exact hc.ne HI.out.B (by decide) rfl
      · subst e; obtain ⟨_, c, hc⟩ := HI.out.V.hn.own hj; exact hc.ne HI.out.B (by decide) rfl
      · have hks := ke.size
        rcases hj with hj | hj | hj
        · exact ⟨Nat.le_of_lt (HI.out.o2 j hj), by have := (HI.out.V.hF j hj).1; omega⟩
        · exact ⟨(HI.out.o3 j hj).1, by have := (HI.out.L.own hj).1; omega⟩
        · exact ⟨HI.out.o1 j hj, by have := (HI.out.V.hn.own hj).1; omega⟩
end

end Go.Proofs.Ytjifdalflepcoac

namespace Go.Proofs.Ytjifdalflepcoac
open Go.RowKit
set_option linter.unusedVariables false
set_option linter.unusedSimpArgs false

/-- A value in a slice. -/
theorem Rd.val {w : World} {ao : Option Addr} {l : List Vl} (h : Rd w ao (entV l)) (i : Nat) (hi : i < l.length) :
    ∃ g o, ao = some ⟨g, o, none⟩ ∧ g < w.heap.size ∧ w.cell? ⟨g, o + i * 2, none⟩ = some (.int .i64 (l.getD i (0, 0)).1) ∧ w.cell? ⟨g, o + i * 2 + 1, none⟩ = some (.int .i64 (l.getD i (0, 0)).2) := by
  have hlen : (entV l).length = l.length * 2 := entV_length l
  obtain ⟨g, o, rfl, hg, hc⟩ := h (by intro e; rw [e] at hlen; simp at hlen; omega)
  have h1 := entV_get l i hi
  refine ⟨g, o, rfl, hg, ?_, ?_⟩
  · rw [hc (i * 2) (by rw [hlen]; omega)]; exact h1.1
  · rw [Nat.add_assoc, hc (i * 2 + 1) (by rw [hlen]; omega)]; exact h1.2

/-- A node in a slice. -/
theorem NodesAt.nth {w : World} {nv : Value} {F : Nat → Prop} {l : List Nd} (h : NodesAt w nv F l) : ∃ no nc, nv = .slice no l.length nc ∧ ∀ i, i < l.length → ∃ g o ao cap, no = some ⟨g, o, none⟩ ∧ g < w.heap.size ∧ w.cell? ⟨g, o + i * 2, none⟩ = some (.int .i64 (l.getD i (0, [])).1) ∧
    w.cell? ⟨g, o + i * 2 + 1, none⟩ = some (.slice ao (l.getD i (0, [])).2.length cap) ∧ Rd w ao (entV (l.getD i (0, [])).2) ∧ (l.getD i (0, [])).2.length ≤ maxLen := by
  obtain ⟨cs, hs, hr⟩ := h
  obtain ⟨no, nc, rfl, hrd, -, -⟩ := hs.rd
  refine ⟨no, nc, rfl, fun i hi => ?_⟩
  obtain ⟨r, h1, ⟨ao, cap, rfl, h2, -, h3⟩, h4⟩ := hr.cell hi
  have hlen := hr.length
  have hne : cs ≠ [] := by intro e; subst e; simp at hlen; omega
  obtain ⟨g, o, rfl, hg, hc⟩ := hrd hne
  have e : l.getD i (0, []) = l[i] := by rw [List.getD_eq_getElem?_getD, List.getElem?_eq_getElem hi]; rfl
  rw [e]
  refine ⟨g, o, ao, cap, rfl, hg, ?_, ?_, h2, h3⟩
  · have := h4 0 (by decide)
    rw [hc (i * 2) (by rw [hlen]; omega)]
    exact this
  · have := h4 1 (by decide)
    rw [Nat.add_assoc, hc (i * 2 + 1) (by rw [hlen]; omega)]
    exact this

/-- A view that stands somewhere: it may be read. -/
def ViewR (w : World) (v : Value) (V : List Vl × List Nd) : Prop :=
  ∃ ro rc nv F, v = .agg #[.slice ro V.1.length rc, nv] ∧ Rd w ro (entV V.1) ∧ NodesAt w nv F V.2 ∧ V.1.length ≤ 1000000 ∧ V.2.length ≤ 1000000 ∧ ∀ n ∈ V.2, n.2.length ≤ 1000000

theorem ViewV.r {w : World} {lo : Nat} {v : Value} {V : List Vl × List Nd} (H : ViewV w lo v V) (h1 : V.1.length ≤ 1000000) (h2 : V.2.length ≤ 1000000) (h3 : ∀ n ∈ V.2, n.2.length ≤ 1000000) : ViewR w v V := by
  obtain ⟨ro, rc, no, nc, F, e, a, b, c⟩ := H
  obtain ⟨_, _, e', hr, -, -⟩ := a.rd
  cases e'
  exact ⟨ro, rc, _, F, e, hr, b, h1, h2, h3⟩

end Go.Proofs.Ytjifdalflepcoac

namespace Go.Proofs.Ytjifdalflepcoac
open Go.RowKit
set_option linter.unusedVariables false
set_option linter.unusedSimpArgs false

variable {P : Program} {a : Act} {w : World} {c : Code} {Q : Exit → Act → World → Prop}

end Go.Proofs.Ytjifdalflepcoac

namespace Go.Proofs.Ytjifdalflepcoac
set_option linter.unusedVariables false
set_option linter.unusedSimpArgs false
variable {τ : Type}

/-- What Wake does, if Keep leaves alone what waits. -/
def wakeM (alive : τ → Int → Bool) (keep : τ → Int → τ × Int) : τ → List (Int × Int) → τ × List (Int × Int) × Bool
  | t, [] => (t, [], false)
  | t, e :: l =>
    if alive t e.1 && !alive t e.2 then
      let r := wakeM alive keep (keep t e.2).1 l
      (r.1, (e.1, (keep t e.2).2) :: r.2.1, true)
    else
      let r := wakeM alive keep t l
      (r.1, e :: r.2.1, r.2.2)

/-- What is registered; was it dead? was it moved? -/
abbrev It := (Int × Int) × Bool × Bool

/-- One pass over what is registered. -/
def scanM (alive : τ → Int → Bool) (keep : τ → List (Int × Int) → Int → τ × List (Int × Int) × Int) : τ → List (Int × Int) → List It → τ × List (Int × Int) × List It × Bool
  | t, q, [] => (t, q, [], false)
  | t, q, i :: l =>
    if (i.2.1 && !i.2.2) && alive t i.1.1 then
      let r := scanM alive keep (keep t q i.1.2).1 ((keep t q i.1.2).2.1 ++ [(i.1.1, (keep t q i.1.2).2.2)]) l
      (r.1, r.2.1, (i.1, i.2.1, true) :: r.2.2.1, true)
    else
      let r := scanM alive keep t q l
      (r.1, r.2.1, i :: r.2.2.1, r.2.2.2)

/-- Passes, until nothing more comes. -/
def roundsM (alive : τ → Int → Bool) (keep : τ → List (Int × Int) → Int → τ × List (Int × Int) × Int) : Nat → τ → List (Int × Int) → List It → τ × List (Int × Int) × List It
  | 0, t, q, l => (t, q, l)
  | n + 1, t, q, l =>
    let r := scanM alive keep t q l
    if r.2.2.2 then roundsM alive keep n r.1 r.2.1 r.2.2.1 else (r.1, r.2.1, r.2.2.1)

/-- How many were not moved. -/
def unN (l : List It) : Nat := (l.filter fun i => !i.2.2).length

theorem unN_cons (i : It) (l : List It) : unN (i :: l) = (if i.2.2 then 0 else 1) + unN l := by
  unfold unN
  cases h : i.2.2 <;> simp [List.filter_cons, h]; omega

theorem scanM_fst (alive : τ → Int → Bool) (keep) : ∀ (l : List It) (t : τ) (q : List (Int × Int)), (scanM alive keep t q l).2.2.1.map (fun i => (i.1, i.2.1)) = l.map (fun i => (i.1, i.2.1))
  | [], _, _ => rfl
  | i :: l, t, q => by
    simp only [scanM]
    split
    · simp only [List.map_cons]; rw [scanM_fst alive keep l]
    · simp only [List.map_cons]; rw [scanM_fst alive keep l]

/-- What is registered behind Settle. -/
def newRegs (alive : τ → Int → Bool) (now : τ → Int → Int) (t : τ) (l : List It) : List (Int × Int) := (l.filter fun i => !i.2.1 && alive t i.1.1).map fun i => (now t i.1.1, now t i.1.2)

/-- What waits behind Settle. -/
def newWait (alive : τ → Int → Bool) (now : τ → Int → Int) (t : τ) (l : List (Int × Int)) : List (Int × Int) := (l.filter fun e => alive t e.1).map fun e => (now t e.1, now t e.2)

/-- What is gone over at first. -/
def itemsM (alive : τ → Int → Bool) (t : τ) (regs : List (Int × Int)) : List It := regs.map fun e => (e, !alive t e.2, false)

/-- Behind the passes. -/
def passM (alive : τ → Int → Bool) (keep : τ → List (Int × Int) → Int → τ × List (Int × Int) × Int) (t : τ) (regs wait : List (Int × Int)) : τ × List (Int × Int) × List It :=
  roundsM alive keep (regs.length + 1) t wait (itemsM alive t regs)

end Go.Proofs.Ytjifdalflepcoac

namespace Go.Proofs.Ytjifdalflepcoac
set_option linter.unusedVariables false
set_option linter.unusedSimpArgs false

/-- A thing i keeps j, if S is alive. -/
def Leads (G : Gr) (wait : List (Int × Int)) (S : Int → Prop) (i j : Int) : Prop :=
  (((G i).1 = 1 ∨ (G i).1 = 2) ∧ ((3, j) : Vl) ∈ (G i).2) ∨
  ((G i).1 = 3 ∧ (G i).2[1]? = some (3, j)) ∨
  ((G i).1 = 4 ∧ (G i).2[1]? = some (3, j) ∧ ∀ v, (G i).2[0]? = some v → v.1 = 3 → S v.2) ∨
  ((G i).1 = 5 ∧ (i, j) ∈ wait)

def Closed (G : Gr) (wait : List (Int × Int)) (S : Int → Prop) : Prop := ∀ i j, S i → Leads G wait S i j → S j

/-- What X keeps alive. -/
def Alive (G : Gr) (wait : List (Int × Int)) (X : Int → Prop) (i : Int) : Prop := ∀ S : Int → Prop, (∀ j, X j → S j) → Closed G wait S → S i

section
variable {G : Gr} {wait wait' : List (Int × Int)} {S S' X Y : Int → Prop} {i j : Int}

theorem Leads.mono (h : ∀ k, S k → S' k) (hw : ∀ e ∈ wait, e ∈ wait') (hl : Leads G wait S i j) : Leads G wait' S' i j := by
  rcases hl with h1 | h1 | ⟨h1, h2, h3⟩ | ⟨h1, h2⟩
  · exact .inl h1
  · exact .inr (.inl h1)
  · exact .inr (.inr (.inl ⟨h1, h2, fun v hv h3' => h _ (h3 v hv h3')⟩))
  · exact .inr (.inr (.inr ⟨h1, hw _ h2⟩))

theorem Alive.base (h : X i) : Alive G wait X i := fun _ hX _ => hX i h

theorem Alive.least (h : Alive G wait X i) (hX : ∀ k, X k → S k) (hS : Closed G wait S) : S i := h S hX hS

theorem Alive.closed (G : Gr) (wait : List (Int × Int)) (X : Int → Prop) : Closed G wait (Alive G wait X) := fun i j hi hl S hX hS =>
  hS i j (hi S hX hS) (hl.mono (fun k hk => hk S hX hS) (fun _ h => h))

theorem Alive.mono (h : Alive G wait X i) (hX : ∀ k, X k → Alive G wait' Y k) (hw : ∀ e ∈ wait, e ∈ wait') : Alive G wait' Y i :=
  h _ hX (fun a b ha hl => Alive.closed G wait' Y a b ha (hl.mono (fun _ h => h) hw))

theorem Alive.eq (hX : ∀ k, X k → S k) (hS : Closed G wait S) (hl : ∀ k, S k → Alive G wait X k) : ∀ k, S k ↔ Alive G wait X k :=
  fun k => ⟨hl k, fun h => h.least hX hS⟩

/-- Other names, the same things. -/
theorem Alive.congr {G' : Gr} {P : Int → Prop} (hP : ∀ k, X k → P k) (shut : ∀ a, P a → ∀ v ∈ (G a).2, v.1 = 3 → P v.2) (shutw : ∀ e ∈ wait, P e.2) (same : ∀ a, P a → G' a = G a) (h : Alive G wait X i) : Alive G' wait X i ∧ P i := by
  refine h.least (S := fun i => Alive G' wait X i ∧ P i) (fun k hk => ⟨Alive.base hk, hP k hk⟩) (fun a b ha hl => ?_)
  obtain ⟨h1, h2⟩ := ha
  have hs := same a h2
  refine ⟨Alive.closed G' wait X a b h1 ?_, ?_⟩
  · rcases hl with h | h | ⟨h3, h4, h5⟩ | h
    · exact .inl (by rw [hs]; exact h)
    · exact .inr (.inl (by rw [hs]; exact h))
    · exact .inr (.inr (.inl (by rw [hs]; exact ⟨h3, h4, fun v hv h6 => (h5 v hv h6).1⟩)))
    · exact .inr (.inr (.inr (by rw [hs]; exact h)))
  · rcases hl with h | h | h | h
    · exact shut a h2 _ h.2 rfl
    · exact shut a h2 _ (List.mem_of_getElem? h.2) rfl
    · exact shut a h2 _ (List.mem_of_getElem? h.2.1) rfl
    · exact shutw _ h.2
end

/-- A list of Bools at a number. -/
def atB (l : List Bool) (i : Int) : Bool := decide (0 ≤ i) && l.getD i.toNat false

theorem atB_nat (l : List Bool) (i : Nat) : atB l i = l.getD i false := by simp [atB]

theorem atB_lt {l : List Bool} {i : Int} (h : atB l i = true) : 0 ≤ i ∧ i < l.length := by
  unfold atB at h
  simp only [Bool.and_eq_true, decide_eq_true_eq] at h
  refine ⟨h.1, ?_⟩
  by_cases hl : i.toNat < l.length
  · omega
  · have h2 := h.2
    rw [List.getD_eq_getElem?_getD, List.getElem?_eq_none (by omega)] at h2
    cases h2

open Classical in
/-- What a list of Bools keeps alive, as such a list. -/
noncomputable def cloL (G : Gr) (wait : List (Int × Int)) (is : List Bool) : List Bool :=
  (List.range is.length).map fun i => decide (Alive G wait (fun k => atB is k = true) (i : Nat))

theorem cloL_length (G : Gr) (wait : List (Int × Int)) (is : List Bool) : (cloL G wait is).length = is.length := by simp [cloL]

open Classical in
theorem cloL_at {G : Gr} {wait : List (Int × Int)} {is : List Bool} {i : Int} : atB (cloL G wait is) i = true ↔ 0 ≤ i ∧ i < is.length ∧ Alive G wait (fun k => atB is k = true) i := by
  constructor
  · intro h
    have := atB_lt h
    rw [cloL_length] at this
    refine ⟨this.1, this.2, ?_⟩
    unfold atB cloL at h
    simp only [Bool.and_eq_true, List.getD_eq_getElem?_getD, List.getElem?_map] at h
    rw [List.getElem?_range (by omega)] at h
    have h2 := h.2
    simp only [Option.map_some, Option.getD_some, decide_eq_true_eq] at h2
    rwa [show ((i.toNat : Nat) : Int) = i by omega] at h2
  · rintro ⟨h0, h1, h2⟩
    unfold atB cloL
    simp only [Bool.and_eq_true, List.getD_eq_getElem?_getD, List.getElem?_map]
    rw [List.getElem?_range (by omega)]
    refine ⟨by simpa using h0, ?_⟩
    simp only [Option.map_some, Option.getD_some, decide_eq_true_eq]
    rwa [show ((i.toNat : Nat) : Int) = i by omega]

theorem atB_set {is : List Bool} {x i : Int} (h0 : 0 ≤ x) (h1 : x < is.length) : atB (is.set x.toNat true) i = true ↔ i = x ∨ atB is i = true := by
  unfold atB
  simp only [Bool.and_eq_true, decide_eq_true_eq, List.getD_eq_getElem?_getD, List.getElem?_set]
  by_cases e : x.toNat = i.toNat
  · rw [if_pos e, if_pos (by omega)]
    simp only [Option.getD_some, and_true]
    constructor
    · intro h; left; omega
    · rintro (rfl | ⟨h, _⟩)
      · exact h0
      · exact h
  · rw [if_neg e]
    constructor
    · intro h; exact .inr h
    · rintro (rfl | h)
      · exact absurd rfl e
      · exact h

/-- A thing of a world. -/
structure Th where
  k : Int
  fs : List Vl
  old : Bool
  dead : Bool

/-- A world: things, as they came; roots; what is registered, what waits; words of the nursery, of the old space. -/
structure Wd where
  T : List Th
  roots : List Vl
  regs : List (Int × Int)
  wait : List (Int × Int)
  most : Int
  grow : Int

def Wd.new (n o : Int) : Wd := ⟨[], List.replicate 12 (0, 0), [], [], n, o⟩

def Th.none : Th := ⟨0, [], false, true⟩
def Wd.th (W : Wd) (i : Int) : Th := W.T.getD i.toNat Th.none
def Wd.rt (W : Wd) (k : Int) : Vl := W.roots.getD k.toNat (0, 0)
def Th.words (t : Th) : Int := 1 + t.fs.length

/-- Of a thing its kind and fields. -/
def Wd.nd (W : Wd) : Gr := fun i => ((W.th i).k, (W.th i).fs)

/-- What waits at a guardian. -/
def waitAt (wait : List (Int × Int)) (g : Int) : List Int := (wait.filter fun e => e.1 == g).map (·.2)

/-- As it is shown: a guardian with what waits at it. -/
def Wd.gr (W : Wd) : Gr := fun i => ((W.th i).k, (W.th i).fs ++ if (W.th i).k = 5 then (waitAt W.wait i).map fun x => ((3, x) : Vl) else [])

def Wd.view (W : Wd) : List Vl × List Nd := viewM W.gr W.roots

def sumW (l : List Th) (p : Th → Bool) : Int := (l.map fun t => if p t then t.words else 0).sum

def Wd.young (W : Wd) : Int := sumW W.T fun t => !t.dead && !t.old
def Wd.olds (W : Wd) : Int := sumW W.T fun t => !t.dead && t.old

/-- What is alive of itself. -/
def Wd.first (W : Wd) (major : Bool) : List Bool :=
  (List.range W.T.length).map fun (i : Nat) => ((W.th (i : Int)).old && !(W.th (i : Int)).dead && !major) || W.roots.any fun v => v.1 == 3 && v.2 == (i : Int)

noncomputable def Wd.clo (W : Wd) (wait : List (Int × Int)) (is : List Bool) : List Bool := cloL W.nd wait is

noncomputable def Wd.keepW (W : Wd) (is : List Bool) (q : List (Int × Int)) (x : Int) : List Bool × List (Int × Int) × Int := (W.clo q (is.set x.toNat true), q, x)

def nowW (is : List Bool) (x : Int) : Int := x

/-- What is alive, what waits, what was gone over, behind the passes of a cut. -/
noncomputable def Wd.pass (W : Wd) (major : Bool) : List Bool × List (Int × Int) × List It := passM atB W.keepW (W.clo W.wait (W.first major)) W.regs W.wait

def inS (is : List Bool) (v : Vl) : Bool := v.1 != 3 || atB is v.2

/-- A thing behind a cut. -/
def cutT (is : List Bool) (i : Nat) (t : Th) : Th :=
  if is.getD i false then
    ⟨t.k, if t.k = 4 ∧ inS is (t.fs.getD 0 (0, 0)) = false then [(2, 0), (2, 0)]
      else if t.k = 3 ∧ inS is (t.fs.getD 0 (0, 0)) = false then [(2, 0), t.fs.getD 1 (0, 0)] else t.fs, true, t.dead⟩
  else ⟨t.k, [], t.old, true⟩

def cutTs (is : List Bool) (l : List Th) : List Th := l.mapIdx fun i t => cutT is i t

def sumL (is : List Bool) (l : List Th) : Int := (l.mapIdx fun i t => if is.getD i false then t.words else 0).sum

noncomputable def Wd.after (W : Wd) (major : Bool) : Wd :=
  { W with T := cutTs (W.pass major).1 W.T, regs := newRegs atB nowW (W.pass major).1 (W.pass major).2.2, wait := newWait atB nowW (W.pass major).1 (W.pass major).2.1 }

/-- A cut. -/
noncomputable def Wd.cut (W : Wd) (major : Bool) : Int × Wd :=
  if major = false ∧ W.young > W.grow - W.olds then (3, W)
  else if sumL (W.pass major).1 W.T > W.grow then (3, W)
  else (0, W.after major)

/-- A step: its kind, R, A, B, I, N. -/
structure St where
  k : Int
  r : Int
  a : Int
  b : Int
  i : Int
  n : Int

def usesM (k : Int) : Int :=
  if k = 1 ∨ k = 2 ∨ k = 8 then 1 else if k = 3 ∨ k = 5 ∨ k = 10 ∨ k = 11 ∨ k = 13 then 3 else if k = 4 ∨ k = 6 ∨ k = 7 ∨ k = 14 then 7 else if k = 9 ∨ k = 12 then 6 else if k = 15 ∨ k = 16 then 0 else -1

def rootOk (k : Int) : Bool := decide (0 ≤ k) && decide (k < 12)

/-- Check: a code. -/
def checkM (x : St) : Int :=
  if usesM x.k = -1 then 2
  else if (usesM x.k % 2 = 1 ∧ rootOk x.r = false) ∨ (usesM x.k / 2 % 2 = 1 ∧ rootOk x.a = false) ∨ (usesM x.k / 4 % 2 = 1 ∧ rootOk x.b = false) then 1
  else if x.k = 1 ∧ ¬ (-big ≤ x.n ∧ x.n < big) then 1
  else if x.k = 5 ∧ ¬ (0 ≤ x.n ∧ x.n ≤ 12) then 1
  else 0

def Wd.setR (W : Wd) (r : Int) (v : Vl) : Wd := { W with roots := W.roots.set r.toNat v }

def Wd.put (W : Wd) (r k : Int) (from_ : List Vl) : Wd := { W with T := W.T ++ [⟨k, from_, false, false⟩], roots := W.roots.set r.toNat (refV W.T.length) }

/-- Room is made: a code. -/
noncomputable def Wd.room (W : Wd) (n : Int) : Int × Wd := if n > W.most - W.young then W.cut (decide (W.young > W.grow - W.olds)) else (0, W)

noncomputable def Wd.newT (W : Wd) (r k : Int) (from_ : List Int) : Int × Wd :=
  if (W.room (1 + from_.length)).1 = 0 then (0, (W.room (1 + from_.length)).2.put r k (from_.map (W.room (1 + from_.length)).2.rt)) else ((W.room (1 + from_.length)).1, W)

/-- The thing of a root; -1: it is none. -/
def Wd.thing (W : Wd) (k : Int) : Int := if (W.rt k).1 = 3 then (W.rt k).2 else -1
def Wd.guard (W : Wd) (k : Int) : Int := if W.thing k < 0 ∨ (W.th (W.thing k)).k ≠ 5 then -1 else W.thing k

/-- A thing's fields are others. -/
def Wd.setF (W : Wd) (i : Int) (fs : List Vl) : Wd := { W with T := W.T.set i.toNat { W.th i with fs := fs } }

/-- What waits longest at a guardian goes. -/
def popW (wait : List (Int × Int)) (g : Int) : Option (Int × List (Int × Int)) :=
  match wait with
  | [] => none
  | e :: l => if e.1 = g then some (e.2, l) else (popW l g).map fun r => (r.1, e :: r.2)

def Wd.reg (W : Wd) (x : St) : Int × Wd :=
  if W.thing x.a < 0 ∨ W.guard x.b < 0 then (2, W)
  else if 24 ≤ W.regs.length + W.wait.length then (3, W)
  else (0, { W with regs := W.regs ++ [(W.guard x.b, W.thing x.a)] })

def Wd.pop (W : Wd) (x : St) : Int × Wd :=
  if W.guard x.a < 0 then (2, W)
  else match popW W.wait (W.guard x.a) with
    | none => (4, W)
    | some r => (0, { W with wait := r.2, roots := W.roots.set x.r.toNat (3, r.1) })

def Wd.fieldC (W : Wd) (x : St) : Int :=
  if W.thing x.a < 0 ∨ (W.th (W.thing x.a)).k = 5 then 2 else if x.i < 0 ∨ ((W.th (W.thing x.a)).fs.length : Int) ≤ x.i then 1 else 0

def Wd.get (W : Wd) (x : St) : Int × Wd := if W.fieldC x = 0 then (0, W.setR x.r ((W.th (W.thing x.a)).fs.getD x.i.toNat (0, 0))) else (W.fieldC x, W)
def Wd.set (W : Wd) (x : St) : Int × Wd := if W.fieldC x = 0 then (0, W.setF (W.thing x.a) ((W.th (W.thing x.a)).fs.set x.i.toNat (W.rt x.b))) else (W.fieldC x, W)
def Wd.len (W : Wd) (x : St) : Int × Wd := if W.thing x.a < 0 ∨ (W.th (W.thing x.a)).k = 5 then (2, W) else (0, W.setR x.r (1, (W.th (W.thing x.a)).fs.length))
def Wd.same (W : Wd) (x : St) : Int × Wd := (0, W.setR x.r (1, if W.rt x.a = W.rt x.b then 1 else 0))

/-- A step that may be. -/
noncomputable def Wd.step (W : Wd) (x : St) : Int × Wd :=
  if x.k = 1 then (0, W.setR x.r (1, x.n))
  else if x.k = 2 then (0, W.setR x.r (0, 0))
  else if x.k = 3 then (0, W.setR x.r (W.rt x.a))
  else if x.k = 4 then W.newT x.r 1 [x.a, x.b]
  else if x.k = 5 then W.newT x.r 2 (List.replicate x.n.toNat x.a)
  else if x.k = 6 then W.newT x.r 3 [x.a, x.b]
  else if x.k = 7 then W.newT x.r 4 [x.a, x.b]
  else if x.k = 8 then W.newT x.r 5 []
  else if x.k = 9 then W.reg x
  else if x.k = 10 then W.pop x
  else if x.k = 11 then W.get x
  else if x.k = 12 then W.set x
  else if x.k = 13 then W.len x
  else if x.k = 14 then W.same x
  else if x.k = 15 then W.cut false
  else W.cut true

noncomputable def Wd.do (W : Wd) (x : St) : Int × Wd := if checkM x = 0 then W.step x else (checkM x, W)

end Go.Proofs.Ytjifdalflepcoac

namespace Go.Proofs.Ytjifdalflepcoac
set_option linter.unusedVariables false
set_option linter.unusedSimpArgs false

def Wd.live (W : Wd) (i : Int) : Prop := 0 ≤ i ∧ i < W.T.length ∧ (W.th i).dead = false

/-- A value that may stand in a world. -/
def Wd.okV (W : Wd) (v : Vl) : Prop := (v.1 = 0 ∧ v.2 = 0) ∨ (v.1 = 1 ∧ -big ≤ v.2 ∧ v.2 < big) ∨ (v.1 = 2 ∧ v.2 = 0) ∨ (v.1 = 3 ∧ W.live v.2)

def Wd.okE (W : Wd) (e : Int × Int) : Prop := W.live e.1 ∧ (W.th e.1).k = 5 ∧ W.live e.2

structure Wd.ok (W : Wd) : Prop where
  hr : W.roots.length = 12
  rv : ∀ v ∈ W.roots, W.okV v
  tk : ∀ i, W.live i → fitsW (W.th i).k (W.th i).fs.length = true
  tv : ∀ i, W.live i → ∀ v ∈ (W.th i).fs, W.okV v
  gv : ∀ e ∈ W.regs, W.okE e
  wv : ∀ e ∈ W.wait, W.okE e
  hq : W.regs.length + W.wait.length ≤ 24
  m1 : 16 ≤ W.most
  m2 : W.most ≤ 256
  g1 : 0 ≤ W.grow
  g2 : W.grow ≤ 1024
  uy : W.young ≤ W.most
  uo : W.olds ≤ W.grow

theorem Wd.live_th {W : Wd} {i : Int} (h : W.live i) : ∃ (h' : i.toNat < W.T.length), W.th i = W.T[i.toNat] := by
  have h1 := h.1; have h2 := h.2.1
  have h' : i.toNat < W.T.length := by omega
  exact ⟨h', by unfold Wd.th; rw [List.getD_eq_getElem?_getD, List.getElem?_eq_getElem h']; rfl⟩

theorem Wd.okV_ref {W : Wd} {v : Vl} (h : W.okV v) (h3 : v.1 = 3) : W.live v.2 := by
  rcases h with h | h | h | h
  · have := h.1; omega
  · have := h.1; omega
  · have := h.1; omega
  · exact h.2

theorem Wd.okV_mono {W W' : Wd} (h : ∀ i, W.live i → W'.live i) {v : Vl} (hv : W.okV v) : W'.okV v := by
  rcases hv with h1 | h1 | h1 | h1
  · exact .inl h1
  · exact .inr (.inl h1)
  · exact .inr (.inr (.inl h1))
  · exact .inr (.inr (.inr ⟨h1.1, h _ h1.2⟩))

theorem sumW_app (a b : List Th) (p : Th → Bool) : sumW (a ++ b) p = sumW a p + sumW b p := by simp [sumW]

theorem sumW_set (l : List Th) (p : Th → Bool) (i : Nat) (t : Th) (h : i < l.length) (hp : p t = p l[i]) (hw : t.words = l[i].words) : sumW (l.set i t) p = sumW l p := by
  unfold sumW
  have : (l.set i t).map (fun t => if p t then t.words else 0) = l.map (fun t => if p t then t.words else 0) := by
    apply List.ext_getElem (by simp)
    intro j h1 h2
    simp only [List.getElem_map, List.getElem_set]
    split
    · rename_i e; subst e; rw [hp, hw]
    · rfl
  rw [this]

theorem Wd.rt_ok {W : Wd} (h : W.ok) (k : Int) : W.okV (W.rt k) := by
  unfold Wd.rt
  rw [List.getD_eq_getElem?_getD]
  cases hx : W.roots[k.toNat]? with
  | none => exact .inl ⟨rfl, rfl⟩
  | some v => exact h.rv _ (List.mem_of_getElem? hx)

theorem Wd.ok.setR {W : Wd} (h : W.ok) {v : Vl} (hv : W.okV v) (r : Int) : (W.setR r v).ok := by
  refine ⟨by simpa [Wd.setR] using h.hr, fun u hu => ?_, h.tk, h.tv, h.gv, h.wv, h.hq, h.m1, h.m2, h.g1, h.g2, h.uy, h.uo⟩
  rcases List.mem_or_eq_of_mem_set hu with h1 | rfl
  · exact h.rv u h1
  · exact hv

theorem Wd.th_put {W : Wd} {r k : Int} {l : List Vl} {i : Int} (h0 : 0 ≤ i) (h : i < W.T.length) : (W.put r k l).th i = W.th i := by
  unfold Wd.th Wd.put
  simp only [List.getD_eq_getElem?_getD]
  rw [List.getElem?_append_left (by omega)]

theorem Wd.th_put_new {W : Wd} {r k : Int} {l : List Vl} : (W.put r k l).th W.T.length = ⟨k, l, false, false⟩ := by
  unfold Wd.th Wd.put
  simp only [List.getD_eq_getElem?_getD, Int.toNat_natCast]
  rw [List.getElem?_append_right (Nat.le_refl _)]
  simp

theorem Wd.live_put {W : Wd} {r k : Int} {l : List Vl} {i : Int} (h : W.live i) : (W.put r k l).live i := by
  refine ⟨h.1, ?_, ?_⟩
  · have := h.2.1; simp [Wd.put]; omega
  · rw [Wd.th_put h.1 h.2.1]; exact h.2.2

theorem Wd.put_live {W : Wd} {r k : Int} {l : List Vl} {i : Int} (h : (W.put r k l).live i) : W.live i ∨ i = W.T.length := by
  have h1 := h.2.1
  simp [Wd.put] at h1
  by_cases e : i = W.T.length
  · exact .inr e
  · refine .inl ⟨h.1, by omega, ?_⟩
    have := h.2.2
    rwa [Wd.th_put h.1 (by omega)] at this

theorem Wd.put_young {W : Wd} {r k : Int} {l : List Vl} : (W.put r k l).young = W.young + (1 + l.length) := by
  unfold Wd.young Wd.put
  rw [sumW_app]
  simp [sumW, Th.words]

theorem Wd.put_olds {W : Wd} {r k : Int} {l : List Vl} : (W.put r k l).olds = W.olds := by
  unfold Wd.olds Wd.put
  rw [sumW_app]
  simp [sumW]

theorem Wd.ok.put {W : Wd} (h : W.ok) {r k : Int} {l : List Vl} (hf : fitsW k l.length = true) (hl : ∀ v ∈ l, W.okV v) (hroom : 1 + (l.length : Int) ≤ W.most - W.young) : (W.put r k l).ok := by
  have hm : ∀ {v}, W.okV v → (W.put r k l).okV v := fun hv => Wd.okV_mono (fun i hi => Wd.live_put hi) hv
  have he : ∀ e, W.okE e → (W.put r k l).okE e := fun e he => ⟨Wd.live_put he.1, by rw [Wd.th_put he.1.1 he.1.2.1]; exact he.2.1, Wd.live_put he.2.2⟩
  refine ⟨by simpa [Wd.put] using h.hr, fun u hu => ?_, fun i hi => ?_, fun i hi v hv => ?_, fun e h1 => he e (h.gv e h1), fun e h1 => he e (h.wv e h1), h.hq, h.m1, h.m2, h.g1, h.g2, ?_, ?_⟩
  · rcases List.mem_or_eq_of_mem_set hu with h1 | rfl
    · exact hm (h.rv u h1)
    · refine .inr (.inr (.inr ⟨rfl, ?_, ?_, ?_⟩))
      · simp [refV]
      · simp [Wd.put, refV]; omega
      · show ((W.put r k l).th (W.T.length : Int)).dead = false
        rw [Wd.th_put_new]
  · rcases Wd.put_live hi with h1 | rfl
    · rw [Wd.th_put h1.1 h1.2.1]; exact h.tk i h1
    · rw [Wd.th_put_new]; exact hf
  · rcases Wd.put_live hi with h1 | rfl
    · rw [Wd.th_put h1.1 h1.2.1] at hv; exact hm (h.tv i h1 v hv)
    · rw [Wd.th_put_new] at hv; exact hm (hl v hv)
  · show (W.put r k l).young ≤ W.most
    rw [Wd.put_young]; omega
  · show (W.put r k l).olds ≤ W.grow
    rw [Wd.put_olds]; exact h.uo

theorem Wd.th_setF {W : Wd} {j : Int} {fs : List Vl} {i : Int} (h0 : 0 ≤ i) (hj : W.live j) : (W.setF j fs).th i = if i = j then { W.th j with fs := fs } else W.th i := by
  obtain ⟨h', e⟩ := Wd.live_th hj
  unfold Wd.setF
  simp only [Wd.th, List.getD_eq_getElem?_getD, List.getElem?_set]
  by_cases e2 : i = j
  · subst e2; rw [if_pos rfl, if_pos h', if_pos rfl]; rfl
  · have := hj.1
    rw [if_neg (by omega), if_neg e2]

theorem Wd.setF_live {W : Wd} {j : Int} {fs : List Vl} (hj : W.live j) (i : Int) : (W.setF j fs).live i ↔ W.live i := by
  unfold Wd.live
  constructor
  · rintro ⟨h0, h1, h2⟩
    rw [Wd.th_setF h0 hj] at h2
    refine ⟨h0, by simpa [Wd.setF] using h1, ?_⟩
    by_cases e : i = j
    · subst e; exact hj.2.2
    · rwa [if_neg e] at h2
  · rintro ⟨h0, h1, h2⟩
    refine ⟨h0, by simpa [Wd.setF] using h1, ?_⟩
    rw [Wd.th_setF h0 hj]
    split
    · exact hj.2.2
    · exact h2

theorem Wd.setF_kind {W : Wd} {j : Int} {fs : List Vl} (hj : W.live j) {i : Int} (h0 : 0 ≤ i) : ((W.setF j fs).th i).k = (W.th i).k := by
  rw [Wd.th_setF h0 hj]
  split
  · rename_i e; subst e; rfl
  · rfl

theorem Wd.setF_sum {W : Wd} {j : Int} {fs : List Vl} (hj : W.live j) (hl : fs.length = (W.th j).fs.length) : (W.setF j fs).young = W.young ∧ (W.setF j fs).olds = W.olds := by
  obtain ⟨h', e⟩ := Wd.live_th hj
  constructor
  · exact sumW_set _ _ _ _ h' (by simp [e]) (by simp [Th.words, hl, e])
  · exact sumW_set _ _ _ _ h' (by simp [e]) (by simp [Th.words, hl, e])

theorem Wd.ok.setF {W : Wd} (h : W.ok) {j : Int} {fs : List Vl} (hj : W.live j) (hl : fs.length = (W.th j).fs.length) (hv : ∀ v ∈ fs, W.okV v) : (W.setF j fs).ok := by
  have hm : ∀ {v}, W.okV v → (W.setF j fs).okV v := fun hv => Wd.okV_mono (fun i hi => (Wd.setF_live hj i).2 hi) hv
  have he : ∀ e, W.okE e → (W.setF j fs).okE e := fun e he => ⟨(Wd.setF_live hj _).2 he.1, by rw [Wd.setF_kind hj he.1.1]; exact he.2.1, (Wd.setF_live hj _).2 he.2.2⟩
  have hs := Wd.setF_sum hj hl
  refine ⟨h.hr, fun u hu => hm (h.rv u hu), fun i hi => ?_, fun i hi v hv' => ?_, fun e h1 => he e (h.gv e h1), fun e h1 => he e (h.wv e h1), h.hq, h.m1, h.m2, h.g1, h.g2, ?_, ?_⟩
  · have h1 := (Wd.setF_live hj i).1 hi
    rw [Wd.th_setF hi.1 hj]
    split
    · rename_i e; subst e; show fitsW (W.th i).k (fs.length : Nat) = true; rw [hl]; exact h.tk i h1
    · exact h.tk i h1
  · have h1 := (Wd.setF_live hj i).1 hi
    rw [Wd.th_setF hi.1 hj] at hv'
    split at hv'
    · exact hm (hv v hv')
    · exact hm (h.tv i h1 v hv')
  · show (W.setF j fs).young ≤ W.most; rw [hs.1]; exact h.uy
  · show (W.setF j fs).olds ≤ W.grow; rw [hs.2]; exact h.uo

/-! Cuts. -/

theorem Wd.first_length (W : Wd) (major : Bool) : (W.first major).length = W.T.length := by simp [Wd.first]

theorem Wd.first_at {W : Wd} {major : Bool} {i : Int} : atB (W.first major) i = true ↔ 0 ≤ i ∧ i < W.T.length ∧ (((W.th i).old = true ∧ (W.th i).dead = false ∧ major = false) ∨ ((3, i) : Vl) ∈ W.roots) := by
  constructor
  · intro h
    have hb := atB_lt h
    rw [Wd.first_length] at hb
    refine ⟨hb.1, hb.2, ?_⟩
    unfold atB Wd.first at h
    simp only [Bool.and_eq_true, List.getD_eq_getElem?_getD, List.getElem?_map] at h
    rw [List.getElem?_range (by omega)] at h
    have h2 := h.2
    simp only [Option.map_some, Option.getD_some, show ((i.toNat : Nat) : Int) = i by omega, Bool.or_eq_true, Bool.and_eq_true, Bool.not_eq_true', List.any_eq_true, beq_iff_eq] at h2
    rcases h2 with h2 | ⟨v, h3, h4, h5⟩
    · exact .inl ⟨h2.1.1, h2.1.2, h2.2⟩
    · right
      have : v = (3, i) := by cases v; simp_all
      rwa [this] at h3
  · rintro ⟨h0, h1, h2⟩
    unfold atB Wd.first
    simp only [Bool.and_eq_true, List.getD_eq_getElem?_getD, List.getElem?_map]
    rw [List.getElem?_range (by omega)]
    refine ⟨by simpa using h0, ?_⟩
    simp only [Option.map_some, Option.getD_some, show ((i.toNat : Nat) : Int) = i by omega, Bool.or_eq_true, Bool.and_eq_true, Bool.not_eq_true', List.any_eq_true, beq_iff_eq]
    rcases h2 with h2 | h2
    · exact .inl ⟨⟨h2.1, h2.2.1⟩, h2.2.2⟩
    · exact .inr ⟨_, h2, rfl, rfl⟩

/-- What is alive and what waits, in the midst of a cut. -/
structure Wd.Mid (W : Wd) (major : Bool) (is : List Bool) (q : List (Int × Int)) : Prop where
  len : is.length = W.T.length
  live : ∀ i, atB is i = true → W.live i
  first : ∀ i, atB (W.first major) i = true → atB is i = true
  shut : Closed W.nd q fun i => atB is i = true
  wv : ∀ e ∈ q, W.okE e

theorem Wd.shut_live {W : Wd} (h : W.ok) {q : List (Int × Int)} (hq : ∀ e ∈ q, W.okE e) : Closed W.nd q W.live := by
  intro i j hi hl
  rcases hl with h1 | h1 | h1 | h1
  · exact Wd.okV_ref (h.tv i hi _ h1.2) rfl
  · exact Wd.okV_ref (h.tv i hi _ (List.mem_of_getElem? h1.2)) rfl
  · exact Wd.okV_ref (h.tv i hi _ (List.mem_of_getElem? h1.2.1)) rfl
  · exact (hq _ h1.2).2.2

theorem Wd.first_live {W : Wd} (h : W.ok) {major : Bool} {i : Int} (hi : atB (W.first major) i = true) : W.live i := by
  obtain ⟨h0, h1, h2 | h2⟩ := Wd.first_at.1 hi
  · exact ⟨h0, h1, h2.2.1⟩
  · exact Wd.okV_ref (h.rv _ h2) rfl

theorem Wd.Mid.start {W : Wd} (h : W.ok) (major : Bool) : W.Mid major (W.clo W.wait (W.first major)) W.wait := by
  have hlen : (W.clo W.wait (W.first major)).length = W.T.length := by unfold Wd.clo; rw [cloL_length, Wd.first_length]
  have hl : ∀ i, atB (W.clo W.wait (W.first major)) i = true → W.live i := fun i hi =>
    (cloL_at.1 hi).2.2.least (fun k hk => Wd.first_live h hk) (Wd.shut_live h h.wv)
  refine ⟨hlen, hl, fun i hi => cloL_at.2 ⟨(atB_lt hi).1, (atB_lt hi).2, Alive.base hi⟩, ?_, h.wv⟩
  intro i j hi hj
  have hlv := Wd.shut_live h h.wv i j (hl i hi) (hj.mono (fun k hk => hl k hk) (fun _ h => h))
  refine cloL_at.2 ⟨hlv.1, by rw [Wd.first_length]; exact hlv.2.1, ?_⟩
  exact Alive.closed _ _ _ i j (cloL_at.1 hi).2.2 (hj.mono (fun k hk => (cloL_at.1 hk).2.2) (fun _ h => h))

/-- One more is kept, and waits. -/
theorem Wd.Mid.keep {W : Wd} (h : W.ok) {major : Bool} {is : List Bool} {q : List (Int × Int)} (m : W.Mid major is q) {g x : Int} (hx : W.live x) (hg : W.live g) (hk : (W.th g).k = 5) :
    W.Mid major (W.clo q (is.set x.toNat true)) (q ++ [(g, x)]) ∧ (∀ i, atB is i = true → atB (W.clo q (is.set x.toNat true)) i = true) ∧ atB (W.clo q (is.set x.toNat true)) x = true := by
  have hset : ∀ i, atB (is.set x.toNat true) i = true ↔ i = x ∨ atB is i = true := fun i => atB_set hx.1 (by rw [m.len]; exact hx.2.1)
  have hsl : (is.set x.toNat true).length = W.T.length := by rw [List.length_set, m.len]
  have hq' : ∀ e ∈ q ++ [(g, x)], W.okE e := by
    intro e he
    rcases List.mem_append.1 he with h1 | h1
    · exact m.wv e h1
    · rw [List.mem_singleton.1 h1]; exact ⟨hg, hk, hx⟩
  have hsv : ∀ k, atB (is.set x.toNat true) k = true → W.live k := by
    intro k hk
    rcases (hset k).1 hk with rfl | h1
    · exact hx
    · exact m.live k h1
  have hl : ∀ i, atB (W.clo q (is.set x.toNat true)) i = true → W.live i := fun i hi => (cloL_at.1 hi).2.2.least hsv (Wd.shut_live h m.wv)
  have up : ∀ i, atB (is.set x.toNat true) i = true → atB (W.clo q (is.set x.toNat true)) i = true := fun i hi => cloL_at.2 ⟨(atB_lt hi).1, (atB_lt hi).2, Alive.base hi⟩
  have hxx := up x ((hset x).2 (.inl rfl))
  refine ⟨⟨by unfold Wd.clo; rw [cloL_length, hsl], hl, fun i hi => up i ((hset i).2 (.inr (m.first i hi))), ?_, hq'⟩, fun i hi => up i ((hset i).2 (.inr hi)), hxx⟩
  intro i j hi hj
  by_cases e : j = x
  · subst e; exact hxx
  · have hj' : Leads W.nd q (fun k => atB (W.clo q (is.set x.toNat true)) k = true) i j := by
      rcases hj with h1 | h1 | h1 | ⟨h1, h2⟩
      · exact .inl h1
      · exact .inr (.inl h1)
      · exact .inr (.inr (.inl h1))
      · refine .inr (.inr (.inr ⟨h1, ?_⟩))
        rcases List.mem_append.1 h2 with h3 | h3
        · exact h3
        · simp at h3; exact absurd h3.2 e
    have hlv := Wd.shut_live h m.wv i j (hl i hi) (hj'.mono (fun k hk => hl k hk) (fun _ h => h))
    refine cloL_at.2 ⟨hlv.1, by rw [hsl]; exact hlv.2.1, ?_⟩
    exact Alive.closed _ _ _ i j (cloL_at.1 hi).2.2 (hj'.mono (fun k hk => (cloL_at.1 hk).2.2) (fun _ h => h))

theorem unN_moved (a : Int × Int) (b : Bool) (l : List It) : unN ((a, b, true) :: l) = unN l := by rw [unN_cons]; simp
theorem unN_yet {i : It} (h : i.2.2 = false) (l : List It) : unN (i :: l) = 1 + unN l := by rw [unN_cons, h]; simp
theorem unN_none (l : List (Int × Int)) (f : Int × Int → Bool) : unN (l.map fun e => (e, f e, false)) = l.length := by
  induction l with
  | nil => rfl
  | cons a l ih => rw [List.map_cons, unN_yet rfl, ih]; simp; omega

theorem Wd.Mid.scan {W : Wd} (h : W.ok) {major : Bool} : ∀ (l : List It) (is : List Bool) (q : List (Int × Int)), W.Mid major is q → (∀ i ∈ l, W.okE i.1) →
    W.Mid major (scanM atB W.keepW is q l).1 (scanM atB W.keepW is q l).2.1 ∧ (∀ i, atB is i = true → atB (scanM atB W.keepW is q l).1 i = true) ∧
    (scanM atB W.keepW is q l).2.1.length + unN (scanM atB W.keepW is q l).2.2.1 = q.length + unN l
  | [], is, q, m, _ => ⟨m, fun _ h => h, rfl⟩
  | i :: l, is, q, m, hl => by
    have hi := hl i (by simp)
    simp only [scanM]
    split
    · rename_i hc
      simp only [Bool.and_eq_true, Bool.not_eq_true'] at hc
      obtain ⟨m', hm1, _⟩ := m.keep h (g := i.1.1) (x := i.1.2) hi.2.2 hi.1 hi.2.1
      have ih := Wd.Mid.scan h l _ _ m' (fun j hj => hl j (by simp [hj]))
      simp only [Wd.keepW]
      refine ⟨ih.1, fun k hk => ih.2.1 k (hm1 k hk), ?_⟩
      have h3 := ih.2.2
      simp only [Wd.keepW, List.length_append, List.length_cons, List.length_nil] at h3
      rw [unN_moved, unN_yet hc.1.2]
      omega
    · have ih := Wd.Mid.scan h l is q m (fun j hj => hl j (by simp [hj]))
      refine ⟨ih.1, ih.2.1, ?_⟩
      have h3 := ih.2.2
      simp only [unN_cons] at h3 ⊢
      omega

theorem scan_items {W : Wd} {l : List It} (is : List Bool) (q : List (Int × Int)) (hl : ∀ i ∈ l, W.okE i.1) : ∀ i ∈ (scanM atB W.keepW is q l).2.2.1, W.okE i.1 := by
  intro i hi
  have h1 : (i.1, i.2.1) ∈ (scanM atB W.keepW is q l).2.2.1.map (fun i => (i.1, i.2.1)) := List.mem_map.2 ⟨i, hi, rfl⟩
  rw [scanM_fst] at h1
  obtain ⟨j, hj, e⟩ := List.mem_map.1 h1
  have := hl j hj
  have e1 : j.1 = i.1 := congrArg (fun p : (Int × Int) × Bool => p.1) e
  rwa [e1] at this

theorem Wd.Mid.rounds {W : Wd} (h : W.ok) {major : Bool} : ∀ (n : Nat) (l : List It) (is : List Bool) (q : List (Int × Int)), W.Mid major is q → (∀ i ∈ l, W.okE i.1) →
    W.Mid major (roundsM atB W.keepW n is q l).1 (roundsM atB W.keepW n is q l).2.1 ∧ (∀ i, atB is i = true → atB (roundsM atB W.keepW n is q l).1 i = true) ∧
    (roundsM atB W.keepW n is q l).2.1.length + unN (roundsM atB W.keepW n is q l).2.2 = q.length + unN l ∧
    (roundsM atB W.keepW n is q l).2.2.map (fun i => (i.1, i.2.1)) = l.map (fun i => (i.1, i.2.1))
  | 0, l, is, q, m, _ => ⟨m, fun _ h => h, rfl, rfl⟩
  | n + 1, l, is, q, m, hl => by
    have hs := Wd.Mid.scan h l is q m hl
    have hf := scanM_fst atB W.keepW l is q
    simp only [roundsM]
    split
    · have ih := Wd.Mid.rounds h n (scanM atB W.keepW is q l).2.2.1 _ _ hs.1 (scan_items is q hl)
      refine ⟨ih.1, fun k hk => ih.2.1 k (hs.2.1 k hk), by rw [ih.2.2.1, hs.2.2], by rw [ih.2.2.2, hf]⟩
    · exact ⟨hs.1, hs.2.1, hs.2.2, hf⟩

theorem Wd.pass_mid {W : Wd} (h : W.ok) (major : Bool) : W.Mid major (W.pass major).1 (W.pass major).2.1 ∧ (∀ i, atB (W.clo W.wait (W.first major)) i = true → atB (W.pass major).1 i = true) ∧
    (W.pass major).2.1.length + unN (W.pass major).2.2 = W.wait.length + W.regs.length ∧
    (W.pass major).2.2.map (fun i => (i.1, i.2.1)) = W.regs.map fun e => (e, !atB (W.clo W.wait (W.first major)) e.2) := by
  have := Wd.Mid.rounds h (W.regs.length + 1) (itemsM atB (W.clo W.wait (W.first major)) W.regs) _ _ (Wd.Mid.start h major) (by
    intro i hi
    simp only [itemsM, List.mem_map] at hi
    obtain ⟨e, he, rfl⟩ := hi
    exact h.gv e he)
  refine ⟨this.1, this.2.1, ?_, ?_⟩
  · have h3 := this.2.2.1
    have : unN (itemsM atB (W.clo W.wait (W.first major)) W.regs) = W.regs.length := unN_none _ _
    rw [this] at h3
    exact h3
  · have h3 := this.2.2.2
    rw [Wd.pass, passM, h3]
    simp [itemsM]

end Go.Proofs.Ytjifdalflepcoac

namespace Go.Proofs.Ytjifdalflepcoac
set_option linter.unusedVariables false
set_option linter.unusedSimpArgs false

theorem atB_toNat {is : List Bool} {i : Int} (h0 : 0 ≤ i) : is.getD i.toNat false = atB is i := by unfold atB; simp [h0]

theorem cutT_kind (is : List Bool) (i : Nat) (t : Th) : (cutT is i t).k = t.k := by unfold cutT; split <;> rfl
theorem cutT_live {is : List Bool} {i : Nat} {t : Th} (h : is.getD i false = true) : (cutT is i t).dead = t.dead ∧ (cutT is i t).old = true := by unfold cutT; rw [if_pos h]; exact ⟨rfl, rfl⟩
theorem cutT_dead {is : List Bool} {i : Nat} {t : Th} (h : is.getD i false = false) : (cutT is i t).dead = true := by unfold cutT; rw [if_neg (by rw [h]; decide)]

theorem cutT_len {is : List Bool} {i : Nat} {t : Th} (h : is.getD i false = true) (hf : fitsW t.k t.fs.length = true) : (cutT is i t).fs.length = t.fs.length := by
  unfold cutT
  rw [if_pos h]
  show List.length (if _ then _ else _) = _
  split
  · rename_i hc
    rw [hc.1] at hf
    simp [fitsW] at hf
    simp; omega
  · split
    · rename_i hc
      rw [hc.1] at hf
      simp [fitsW] at hf
      simp; omega
    · rfl

theorem cutTs_th {W : Wd} {is : List Bool} {i : Int} (h0 : 0 ≤ i) (h1 : i < W.T.length) : (cutTs is W.T).getD i.toNat Th.none = cutT is i.toNat (W.th i) := by
  unfold cutTs Wd.th
  simp only [List.getD_eq_getElem?_getD, List.getElem?_mapIdx]
  rw [List.getElem?_eq_getElem (by omega)]
  rfl

theorem Wd.th_after {W : Wd} {major : Bool} {i : Int} (h0 : 0 ≤ i) (h1 : i < W.T.length) : (W.after major).th i = cutT (W.pass major).1 i.toNat (W.th i) := cutTs_th h0 h1

theorem Wd.after_len {W : Wd} {major : Bool} : (W.after major).T.length = W.T.length := by simp [Wd.after, cutTs]

theorem Wd.after_live {W : Wd} (h : W.ok) {major : Bool} {i : Int} : (W.after major).live i ↔ atB (W.pass major).1 i = true := by
  obtain ⟨m, _⟩ := Wd.pass_mid h major
  constructor
  · rintro ⟨h0, h1, h2⟩
    rw [Wd.after_len] at h1
    rw [Wd.th_after h0 h1] at h2
    cases hb : atB (W.pass major).1 i
    · rw [cutT_dead (by rw [atB_toNat h0, hb])] at h2; cases h2
    · rfl
  · intro hb
    have hl := m.live i hb
    refine ⟨hl.1, by rw [Wd.after_len]; exact hl.2.1, ?_⟩
    rw [Wd.th_after hl.1 hl.2.1, (cutT_live (by rw [atB_toNat hl.1]; exact hb)).1]
    exact hl.2.2

/-- The fields of a thing that is alive, behind a cut. -/
theorem cutT_fields {W : Wd} (h : W.ok) {q : List (Int × Int)} {is : List Bool} (hs : Closed W.nd q fun k => atB is k = true) {i : Int} (hi : W.live i) (hb : atB is i = true) :
    ∀ v ∈ (cutT is i.toNat (W.th i)).fs, (v = (2, 0)) ∨ (v ∈ (W.th i).fs ∧ inS is v = true) := by
  intro v hv
  have hf := h.tk i hi
  unfold cutT at hv
  rw [if_pos (by rw [atB_toNat hi.1]; exact hb)] at hv
  have shut : ∀ j, Leads W.nd q (fun k => atB is k = true) i j → atB is j = true := fun j hj => hs i j hb hj
  have inS_of : ∀ v : Vl, (v.1 = 3 → atB is v.2 = true) → inS is v = true := fun v hv => by
    unfold inS
    by_cases e : v.1 = 3
    · simp [e, hv e]
    · simp [e]
  have two : (W.th i).fs.length = 2 → ∃ a b, (W.th i).fs = [a, b] := fun hl => by
    match hx : (W.th i).fs, hl with
    | [a, b], _ => exact ⟨a, b, rfl⟩
  change v ∈ (if _ then _ else _) at hv
  split at hv
  · left; simp at hv; exact hv
  · rename_i hc4
    split at hv
    · rename_i hc3
      rw [hc3.1] at hf
      simp [fitsW] at hf
      obtain ⟨a, b, e⟩ := two (by omega)
      rw [e] at hv
      simp at hv
      rcases hv with rfl | rfl
      · exact .inl rfl
      · refine .inr ⟨by rw [e]; simp, inS_of _ fun e3 => shut _ (.inr (.inl ⟨hc3.1, ?_⟩))⟩
        show (W.th i).fs[1]? = _
        rw [e]; cases v; simp_all
    · rename_i hc3
      right
      refine ⟨hv, inS_of v fun e3 => ?_⟩
      have e4 : v = (3, v.2) := by cases v; simp_all
      have hk := fitsW_spec hf
      by_cases k12 : (W.th i).k = 1 ∨ (W.th i).k = 2
      · exact shut _ (.inl ⟨k12, by rw [← e4]; exact hv⟩)
      by_cases k3 : (W.th i).k = 3
      · have h0 : inS is ((W.th i).fs.getD 0 (0, 0)) = true := by
          cases hx : inS is ((W.th i).fs.getD 0 (0, 0))
          · exact absurd ⟨k3, hx⟩ hc3
          · rfl
        rw [k3] at hf
        simp [fitsW] at hf
        obtain ⟨a, b, e⟩ := two (by omega)
        rw [e] at hv h0
        simp at hv h0
        rcases hv with rfl | rfl
        · simp [inS, e3] at h0; exact h0
        · exact shut _ (.inr (.inl ⟨k3, by show (W.th i).fs[1]? = _; rw [e, ← e4]; rfl⟩))
      by_cases k4 : (W.th i).k = 4
      · have h0 : inS is ((W.th i).fs.getD 0 (0, 0)) = true := by
          cases hx : inS is ((W.th i).fs.getD 0 (0, 0))
          · exact absurd ⟨k4, hx⟩ hc4
          · rfl
        rw [k4] at hf
        simp [fitsW] at hf
        obtain ⟨a, b, e⟩ := two (by omega)
        rw [e] at hv h0
        simp at hv h0
        rcases hv with rfl | rfl
        · simp [inS, e3] at h0; exact h0
        · refine shut _ (.inr (.inr (.inl ⟨k4, by show (W.th i).fs[1]? = _; rw [e, ← e4]; rfl, fun u hu hu3 => ?_⟩)))
          have hu' : (W.th i).fs[0]? = some u := hu
          rw [e] at hu'
          simp at hu'
          subst hu'
          simp [inS, hu3] at h0; exact h0
      · have k5 : (W.th i).k = 5 := by
          have h1 : (W.th i).k ≠ 1 := fun e => k12 (.inl e)
          have h2 : (W.th i).k ≠ 2 := fun e => k12 (.inr e)
          omega
        rw [k5] at hf
        simp [fitsW] at hf
        have : (W.th i).fs = [] := by
          cases hx : (W.th i).fs with
          | nil => rfl
          | cons a l => rw [hx] at hf; simp at hf
        rw [this] at hv; cases hv

theorem sum_after (is : List Bool) : ∀ (l : List Th) (n : Nat) (hl : ∀ j (h : j < l.length), is.getD (n + j) false = true → l[j].dead = false ∧ fitsW l[j].k l[j].fs.length = true),
    sumW (l.mapIdx fun i t => cutT is (n + i) t) (fun t => !t.dead && !t.old) = 0 ∧
    sumW (l.mapIdx fun i t => cutT is (n + i) t) (fun t => !t.dead && t.old) = (l.mapIdx fun i t => if is.getD (n + i) false then t.words else 0).sum
  | [], _, _ => ⟨rfl, rfl⟩
  | t :: l, n, hl => by
    have ih := sum_after is l (n + 1) (fun j h => by
      have := hl (j + 1) (by simp; omega)
      simp only [List.getElem_cons_succ] at this
      rw [show n + 1 + j = n + (j + 1) by omega]; exact this)
    have e : ∀ (f : Nat → Th → Th), (fun i t => f (n + 1 + i) t) = fun i t => f (n + (i + 1)) t := fun f => by funext i t; rw [show n + 1 + i = n + (i + 1) by omega]
    have e2 : ∀ (f : Nat → Th → Int), (fun i t => f (n + 1 + i) t) = fun i t => f (n + (i + 1)) t := fun f => by funext i t; rw [show n + 1 + i = n + (i + 1) by omega]
    rw [e (cutT is), e2 (fun i t => if is.getD i false then t.words else 0)] at ih
    have h0 := hl 0 (by simp)
    simp only [List.getElem_cons_zero, Nat.add_zero] at h0
    simp only [sumW] at ih ⊢
    simp only [List.mapIdx_cons, List.map_cons, List.sum_cons, Nat.add_zero]
    rw [ih.1, ih.2]
    cases hb : is.getD n false
    · have hd := cutT_dead (t := t) hb
      simp [hd]
    · obtain ⟨h1, h2⟩ := h0 hb
      have hl2 := cutT_live (t := t) hb
      have hl3 := cutT_len hb h2
      simp only [hl2.1, hl2.2, h1, Th.words, hl3]
      simp

theorem Wd.after_sums {W : Wd} (h : W.ok) (major : Bool) : (W.after major).young = 0 ∧ (W.after major).olds = sumL (W.pass major).1 W.T := by
  obtain ⟨m, _⟩ := Wd.pass_mid h major
  have := sum_after (W.pass major).1 W.T 0 (fun j hj hb => by
    rw [Nat.zero_add, ← atB_nat] at hb
    have hl := m.live _ hb
    obtain ⟨h', e⟩ := Wd.live_th hl
    simp only [Int.toNat_natCast] at e
    rw [← e]
    exact ⟨hl.2.2, h.tk _ hl⟩)
  simp only [Nat.zero_add] at this
  exact this

theorem Wd.after_th_alive {W : Wd} (h : W.ok) {major : Bool} {i : Int} (hb : atB (W.pass major).1 i = true) : ((W.after major).th i).k = (W.th i).k := by
  obtain ⟨m, _⟩ := Wd.pass_mid h major
  have hl := m.live i hb
  rw [Wd.th_after hl.1 hl.2.1, cutT_kind]

theorem newRegs_mem {is : List Bool} {l : List It} {e : Int × Int} (h : e ∈ newRegs atB nowW is l) : ∃ i ∈ l, i.1 = e ∧ i.2.1 = false ∧ atB is e.1 = true := by
  unfold newRegs at h
  simp only [List.mem_map, List.mem_filter, Bool.and_eq_true, Bool.not_eq_true'] at h
  obtain ⟨i, ⟨hi, h1, h2⟩, rfl⟩ := h
  exact ⟨i, hi, rfl, h1, h2⟩

theorem newWait_mem {is : List Bool} {l : List (Int × Int)} {e : Int × Int} (h : e ∈ newWait atB nowW is l) : e ∈ l ∧ atB is e.1 = true := by
  unfold newWait at h
  simp only [List.mem_map, List.mem_filter] at h
  obtain ⟨i, ⟨hi, h1⟩, rfl⟩ := h
  exact ⟨hi, h1⟩

theorem Wd.ok.after {W : Wd} (h : W.ok) {major : Bool} (hroom : sumL (W.pass major).1 W.T ≤ W.grow) : (W.after major).ok := by
  obtain ⟨m, hfst, hcnt, hits⟩ := Wd.pass_mid h major
  have hs := Wd.after_sums h major
  have lv : ∀ i, atB (W.pass major).1 i = true → (W.after major).live i := fun i hi => (Wd.after_live h).2 hi
  have clo1 : ∀ i, atB (W.first major) i = true → atB (W.pass major).1 i = true := m.first
  have root : ∀ v ∈ W.roots, v.1 = 3 → atB (W.pass major).1 v.2 = true := fun v hv e => by
    have hl := Wd.okV_ref (h.rv v hv) e
    have e2 : v = (3, v.2) := by cases v; simp_all
    exact m.first _ (Wd.first_at.2 ⟨hl.1, hl.2.1, .inr (by rw [← e2]; exact hv)⟩)
  refine ⟨h.hr, fun v hv => ?_, fun i hi => ?_, fun i hi v hv => ?_, fun e he => ?_, fun e he => ?_, ?_, h.m1, h.m2, h.g1, h.g2, ?_, ?_⟩
  · rcases h.rv v hv with h1 | h1 | h1 | h1
    · exact .inl h1
    · exact .inr (.inl h1)
    · exact .inr (.inr (.inl h1))
    · exact .inr (.inr (.inr ⟨h1.1, lv _ (root v hv h1.1)⟩))
  · have hb := (Wd.after_live h).1 hi
    have hl := m.live i hb
    rw [Wd.th_after hl.1 hl.2.1, cutT_kind, cutT_len (by rw [atB_toNat hl.1]; exact hb) (h.tk i hl)]
    exact h.tk i hl
  · have hb := (Wd.after_live h).1 hi
    have hl := m.live i hb
    rw [Wd.th_after hl.1 hl.2.1] at hv
    rcases cutT_fields h m.shut hl hb v hv with rfl | ⟨hv1, hv2⟩
    · exact .inr (.inr (.inl ⟨rfl, rfl⟩))
    · rcases h.tv i hl v hv1 with h1 | h1 | h1 | h1
      · exact .inl h1
      · exact .inr (.inl h1)
      · exact .inr (.inr (.inl h1))
      · refine .inr (.inr (.inr ⟨h1.1, lv _ ?_⟩))
        simp [inS, h1.1] at hv2
        exact hv2
  · obtain ⟨i, hi, rfl, hd, hg⟩ := newRegs_mem he
    have h1 : (i.1, i.2.1) ∈ (W.pass major).2.2.map (fun i => (i.1, i.2.1)) := List.mem_map.2 ⟨i, hi, rfl⟩
    rw [hits] at h1
    obtain ⟨e, he', e2⟩ := List.mem_map.1 h1
    have e3 : e = i.1 := congrArg (fun p : (Int × Int) × Bool => p.1) e2
    have e4 : (!atB (W.clo W.wait (W.first major)) e.2) = i.2.1 := congrArg (fun p : (Int × Int) × Bool => p.2) e2
    have hgv := h.gv e he'
    rw [e3] at hgv e4
    rw [hd] at e4
    refine ⟨lv _ hg, ?_, lv _ (hfst _ (by simpa using e4))⟩
    rw [Wd.after_th_alive h hg]; exact hgv.2.1
  · obtain ⟨h1, h2⟩ := newWait_mem he
    have hwv := m.wv e h1
    refine ⟨lv _ h2, by rw [Wd.after_th_alive h h2]; exact hwv.2.1, lv _ (m.shut _ _ h2 (.inr (.inr (.inr ⟨hwv.2.1, h1⟩))))⟩
  · have hq := h.hq
    have h1 : (W.after major).wait.length ≤ (W.pass major).2.1.length := by
      simp only [Wd.after, newWait, List.length_map]; exact List.length_filter_le _ _
    have h2 : (W.after major).regs.length ≤ unN (W.pass major).2.2 := by
      simp only [Wd.after, newRegs, List.length_map]
      have hmv : ∀ i ∈ (W.pass major).2.2, i.2.1 = false → i.2.2 = false := by
        have key : ∀ (l : List It) (is : List Bool) (q : List (Int × Int)), (∀ i ∈ l, i.2.1 = false → i.2.2 = false) → ∀ i ∈ (scanM atB W.keepW is q l).2.2.1, i.2.1 = false → i.2.2 = false := by
          intro l
          induction l with
          | nil => intro is q _ i hi; simp [scanM] at hi
          | cons a l ih =>
            intro is q hl i hi
            simp only [scanM] at hi
            split at hi
            · rename_i hc
              simp only [Bool.and_eq_true] at hc
              rcases List.mem_cons.1 hi with rfl | hi
              · intro e; rw [hc.1.1] at e; cases e
              · exact ih _ _ (fun j hj => hl j (by simp [hj])) i hi
            · rcases List.mem_cons.1 hi with rfl | hi
              · exact hl _ (by simp)
              · exact ih _ _ (fun j hj => hl j (by simp [hj])) i hi
        have key2 : ∀ (n : Nat) (l : List It) (is : List Bool) (q : List (Int × Int)), (∀ i ∈ l, i.2.1 = false → i.2.2 = false) → ∀ i ∈ (roundsM atB W.keepW n is q l).2.2, i.2.1 = false → i.2.2 = false := by
          intro n
          induction n with
          | zero => intro l is q hl; exact hl
          | succ n ih =>
            intro l is q hl
            simp only [roundsM]
            split
            · exact ih _ _ _ (key l is q hl)
            · exact key l is q hl
        exact key2 _ _ _ _ (fun i hi => by simp only [itemsM, List.mem_map] at hi; obtain ⟨e, _, rfl⟩ := hi; intro _; rfl)
      unfold unN
      rw [← List.countP_eq_length_filter, ← List.countP_eq_length_filter]
      exact List.countP_mono_left fun i hi h => by
        simp only [Bool.and_eq_true, Bool.not_eq_true'] at h
        simp [hmv i hi h.1]
    show (W.after major).regs.length + (W.after major).wait.length ≤ 24
    omega
  · show (W.after major).young ≤ W.most; rw [hs.1]; have := h.m1; omega
  · show (W.after major).olds ≤ W.grow; rw [hs.2]; exact hroom

theorem Wd.ok.cut {W : Wd} (h : W.ok) (major : Bool) : (W.cut major).2.ok := by
  unfold Wd.cut
  split
  · exact h
  · split
    · exact h
    · exact h.after (by omega)

theorem Wd.ok.room {W : Wd} (h : W.ok) (n : Int) (hn : n ≤ 13) : (W.room n).2.ok ∧ ((W.room n).1 = 0 → n ≤ (W.room n).2.most - (W.room n).2.young) := by
  unfold Wd.room
  split
  · refine ⟨h.cut _, fun h0 => ?_⟩
    unfold Wd.cut at h0 ⊢
    split
    · rename_i hc; rw [if_pos hc] at h0; simp at h0
    · rename_i hc
      rw [if_neg hc] at h0
      split
      · rename_i hd; rw [if_pos hd] at h0; simp at h0
      · show n ≤ W.most - (W.after _).young
        rw [(Wd.after_sums h _).1]
        have := h.m1; omega
  · exact ⟨h, fun _ => by show n ≤ W.most - W.young; omega⟩

theorem Wd.ok.newT {W : Wd} (h : W.ok) {r k : Int} {l : List Int} (hf : fitsW k l.length = true) : (W.newT r k l).2.ok := by
  unfold Wd.newT
  have hl := (fitsW_spec hf).2.2.2
  have hr := h.room (1 + l.length) (by omega)
  split
  · rename_i h0
    refine hr.1.put (by simpa using hf) (fun v hv => ?_) (by simpa using hr.2 h0)
    obtain ⟨a, _, rfl⟩ := List.mem_map.1 hv
    exact Wd.rt_ok hr.1 a
  · exact h

theorem Wd.thing_live {W : Wd} (h : W.ok) {k : Int} (hk : ¬ W.thing k < 0) : W.live (W.thing k) := by
  unfold Wd.thing at hk ⊢
  split
  · rename_i h3; exact Wd.okV_ref (Wd.rt_ok h k) h3
  · rename_i h3; rw [if_neg h3] at hk; simp at hk

theorem Wd.guard_live {W : Wd} (h : W.ok) {k : Int} (hk : ¬ W.guard k < 0) : W.live (W.guard k) ∧ (W.th (W.guard k)).k = 5 ∧ W.guard k = W.thing k := by
  unfold Wd.guard at hk ⊢
  split
  · rename_i h3; rw [if_pos h3] at hk; simp at hk
  · rename_i h3
    have h5 : (W.th (W.thing k)).k = 5 := by
      by_cases e : (W.th (W.thing k)).k = 5
      · exact e
      · exact absurd (Or.inr e) h3
    exact ⟨Wd.thing_live h (fun e => h3 (.inl e)), h5, rfl⟩

theorem popW_mem : ∀ {l : List (Int × Int)} {g : Int} {r : Int × List (Int × Int)}, popW l g = some r → (g, r.1) ∈ l ∧ (∀ e ∈ r.2, e ∈ l) ∧ r.2.length + 1 = l.length
  | [], g, r, h => by simp [popW] at h
  | e :: l, g, r, h => by
    unfold popW at h
    split at h
    · rename_i hg
      simp at h; subst h
      refine ⟨?_, fun e he => by simp [he], rfl⟩
      rw [← hg]; simp
    · simp only [Option.map_eq_some_iff] at h
      obtain ⟨r', h1, rfl⟩ := h
      have ih := popW_mem h1
      refine ⟨by simp [ih.1], fun x hx => ?_, by simp; omega⟩
      rcases List.mem_cons.1 hx with rfl | hx
      · simp
      · simp [ih.2.1 x hx]

theorem Wd.field_at {W : Wd} {x : St} (h : W.fieldC x = 0) : ¬ W.thing x.a < 0 ∧ (W.th (W.thing x.a)).k ≠ 5 ∧ 0 ≤ x.i ∧ x.i < (W.th (W.thing x.a)).fs.length := by
  unfold Wd.fieldC at h
  split at h
  · simp at h
  · rename_i hc
    split at h
    · simp at h
    · rename_i hd
      exact ⟨fun e => hc (.inl e), fun e => hc (.inr e), by omega, by omega⟩

theorem Wd.okV_num {W : Wd} {n : Int} (h1 : -big ≤ n) (h2 : n < big) : W.okV (1, n) := .inr (.inl ⟨rfl, h1, h2⟩)

theorem checkM_use {x : St} (h : checkM x = 0) : ¬ usesM x.k = -1 ∧ (usesM x.k % 2 = 1 → rootOk x.r = true) ∧ (usesM x.k / 2 % 2 = 1 → rootOk x.a = true) ∧ (usesM x.k / 4 % 2 = 1 → rootOk x.b = true) ∧
    (x.k = 1 → -big ≤ x.n ∧ x.n < big) ∧ (x.k = 5 → 0 ≤ x.n ∧ x.n ≤ 12) := by
  unfold checkM at h
  split at h
  · simp at h
  · rename_i h1
    split at h
    · simp at h
    · rename_i h2
      split at h
      · simp at h
      · rename_i h3
        split at h
        · simp at h
        · rename_i h4
          have nb : ∀ b : Bool, ¬ b = false → b = true := fun b => by cases b <;> simp
          exact ⟨h1, fun h => nb _ fun e => h2 (.inl ⟨h, e⟩), fun h => nb _ fun e => h2 (.inr (.inl ⟨h, e⟩)), fun h => nb _ fun e => h2 (.inr (.inr ⟨h, e⟩)),
            fun h => Classical.not_not.1 fun e => h3 ⟨h, e⟩, fun h => Classical.not_not.1 fun e => h4 ⟨h, e⟩⟩

theorem Wd.ok.do {W : Wd} (h : W.ok) (x : St) : (W.do x).2.ok := by
  unfold Wd.do
  split
  · rename_i hc
    have hu := checkM_use hc
    unfold Wd.step
    by_cases k1 : x.k = 1
    · rw [if_pos k1]
      exact h.setR (Wd.okV_num (hu.2.2.2.2.1 k1).1 (hu.2.2.2.2.1 k1).2) _
    rw [if_neg k1]
    by_cases k2 : x.k = 2
    · rw [if_pos k2]
      exact h.setR (.inl ⟨rfl, rfl⟩) _
    rw [if_neg k2]
    by_cases k3 : x.k = 3
    · rw [if_pos k3]
      exact h.setR (Wd.rt_ok h _) _
    rw [if_neg k3]
    by_cases k4 : x.k = 4
    · rw [if_pos k4]
      exact h.newT rfl
    rw [if_neg k4]
    by_cases k5 : x.k = 5
    · rw [if_pos k5]
      refine h.newT ?_
      have := hu.2.2.2.2.2 k5
      simp [fitsW]; omega
    rw [if_neg k5]
    by_cases k6 : x.k = 6
    · rw [if_pos k6]
      exact h.newT rfl
    rw [if_neg k6]
    by_cases k7 : x.k = 7
    · rw [if_pos k7]
      exact h.newT rfl
    rw [if_neg k7]
    by_cases k8 : x.k = 8
    · rw [if_pos k8]
      exact h.newT rfl
    rw [if_neg k8]
    by_cases k9 : x.k = 9
    · rw [if_pos k9]
      unfold Wd.reg
      split
      · exact h
      · rename_i h1
        split
        · exact h
        · rename_i h2
          have ha := Wd.thing_live h (fun e => h1 (.inl e))
          have hb := Wd.guard_live h (fun e => h1 (.inr e))
          refine ⟨h.hr, h.rv, h.tk, h.tv, fun e he => ?_, h.wv, ?_, h.m1, h.m2, h.g1, h.g2, h.uy, h.uo⟩
          · rcases List.mem_append.1 he with he | he
            · exact h.gv e he
            · rw [List.mem_singleton.1 he]; exact ⟨hb.1, hb.2.1, ha⟩
          · show (W.regs ++ _).length + W.wait.length ≤ 24
            simp; omega
    rw [if_neg k9]
    by_cases k10 : x.k = 10
    · rw [if_pos k10]
      unfold Wd.pop
      split
      · exact h
      · rename_i h1
        split
        · exact h
        · rename_i r hr
          have hp := popW_mem hr
          have hw := h.wv _ hp.1
          refine ⟨by simpa using h.hr, fun v hv => ?_, h.tk, h.tv, h.gv, fun e he => h.wv e (hp.2.1 e he), ?_, h.m1, h.m2, h.g1, h.g2, h.uy, h.uo⟩
          · rcases List.mem_or_eq_of_mem_set hv with h2 | rfl
            · exact h.rv v h2
            · exact .inr (.inr (.inr ⟨rfl, hw.2.2⟩))
          · have := h.hq
            show W.regs.length + r.2.length ≤ 24
            omega
    rw [if_neg k10]
    by_cases k11 : x.k = 11
    · rw [if_pos k11]
      unfold Wd.get
      split
      · rename_i h0
        have hf := Wd.field_at h0
        refine h.setR ?_ _
        rw [List.getD_eq_getElem?_getD, List.getElem?_eq_getElem (by omega)]
        exact h.tv _ (Wd.thing_live h hf.1) _ (List.getElem_mem _)
      · exact h
    rw [if_neg k11]
    by_cases k12 : x.k = 12
    · rw [if_pos k12]
      unfold Wd.set
      split
      · rename_i h0
        have hf := Wd.field_at h0
        have hl := Wd.thing_live h hf.1
        refine h.setF hl (by simp) fun v hv => ?_
        rcases List.mem_or_eq_of_mem_set hv with h2 | rfl
        · exact h.tv _ hl v h2
        · exact Wd.rt_ok h _
      · exact h
    rw [if_neg k12]
    by_cases k13 : x.k = 13
    · rw [if_pos k13]
      unfold Wd.len
      split
      · exact h
      · rename_i h1
        have hl := Wd.thing_live h (fun e => h1 (.inl e))
        have := fitsW_spec (h.tk _ hl)
        exact h.setR (Wd.okV_num (by unfold big; omega) (by unfold big; omega)) _
    rw [if_neg k13]
    by_cases k14 : x.k = 14
    · rw [if_pos k14]
      unfold Wd.same
      exact h.setR (Wd.okV_num (by unfold big; split <;> omega) (by unfold big; split <;> omega)) _
    rw [if_neg k14]
    by_cases k15 : x.k = 15
    · rw [if_pos k15]
      exact h.cut _
    rw [if_neg k15]
    exact h.cut _
  · exact h

theorem Wd.new_ok {n o : Int} (h1 : 16 ≤ n) (h2 : n ≤ 256) (h3 : 0 ≤ o) (h4 : o ≤ 1024) : (Wd.new n o).ok := by
  have nl : ∀ i, ¬ (Wd.new n o).live i := fun i h => by have h1 := h.1; have h2 := h.2.1; simp [Wd.new] at h2; omega
  refine ⟨by simp [Wd.new], fun v hv => ?_, fun i hi => (nl i hi).elim, fun i hi => (nl i hi).elim, fun e he => by simp [Wd.new] at he, fun e he => by simp [Wd.new] at he, by simp [Wd.new], h1, h2, h3, h4, ?_, ?_⟩
  · simp [Wd.new] at hv; subst hv; exact .inl ⟨rfl, rfl⟩
  · show sumW [] _ ≤ n; simp [sumW]; omega
  · show sumW [] _ ≤ o; simp [sumW]; omega

end Go.Proofs.Ytjifdalflepcoac

namespace Go.Proofs.Ytjifdalflepcoac
open Go.RowKit
set_option linter.unusedVariables false
set_option linter.unusedSimpArgs false

end Go.Proofs.Ytjifdalflepcoac

namespace Go.Proofs.Ytjifdalflepcoac
open Go.RowKit
set_option linter.unusedVariables false
set_option linter.unusedSimpArgs false

theorem usesM_cases (k : Int) : k = 1 ∨ k = 2 ∨ k = 3 ∨ k = 4 ∨ k = 5 ∨ k = 6 ∨ k = 7 ∨ k = 8 ∨ k = 9 ∨ k = 10 ∨ k = 11 ∨ k = 12 ∨ k = 13 ∨ k = 14 ∨ k = 15 ∨ k = 16 ∨ (k < 1 ∨ 16 < k) := by omega

theorem ret_i64 {a b : Int} (h : a = b) : (Ending.returned (.int .i64 a)) = .returned (.int .i64 b) := by rw [h]

set_option maxHeartbeats 4000000 in
set_option maxRecDepth 100000 in
theorem RUsesOf_c (k : Int) (w : World) : Calls Try.prog 10 #[.int .i64 k] w fun e w' => e = .returned (.int .i64 (usesM k)) ∧ Keeps (fun _ => False) w w' := by
  rcases usesM_cases k with rfl | rfl | rfl | rfl | rfl | rfl | rfl | rfl | rfl | rfl | rfl | rfl | rfl | rfl | rfl | rfl | h
  case inr.inr.inr.inr.inr.inr.inr.inr.inr.inr.inr.inr.inr.inr.inr.inr =>
    have HE := Lib.hid (show usesM k = -1 by unfold usesM; repeat' (rw [if_neg (by omega)]))
    have e1 : (k == 1) = false := by simp; omega
    have e2 : (k == 2) = false := by simp; omega
    have e3 : (k == 3) = false := by simp; omega
    have e4 : (k == 4) = false := by simp; omega
    have e5 : (k == 5) = false := by simp; omega
    have e6 : (k == 6) = false := by simp; omega
    have e7 : (k == 7) = false := by simp; omega
    have e8 : (k == 8) = false := by simp; omega
    have e9 : (k == 9) = false := by simp; omega
    have e10 : (k == 10) = false := by simp; omega
    have e11 : (k == 11) = false := by simp; omega
    have e12 : (k == 12) = false := by simp; omega
    have e13 : (k == 13) = false := by simp; omega
    have e14 : (k == 14) = false := by simp; omega
    have e15 : (k == 15) = false := by simp; omega
    have e16 : (k == 16) = false := by simp; omega
    clear h
    go_enter Try.func10, Try.ntmps10
    go_wp2_with fail
    go_ret
    exact ⟨ret_i64 HE.out.symm, Keeps.refl _ _⟩
  all_goals
    go_enter Try.func10, Try.ntmps10
    go_wp2_with fail
    go_ret
    exact ⟨ret_i64 rfl, Keeps.refl _ _⟩

theorem usesM_vals (k : Int) : usesM k = -1 ∨ usesM k = 0 ∨ usesM k = 1 ∨ usesM k = 3 ∨ usesM k = 6 ∨ usesM k = 7 := by
  unfold usesM
  repeat' split
  all_goals simp

/-- A step's roots. -/
def St.at3 (x : St) (j : Nat) : Int := if j = 0 then x.r else if j = 1 then x.a else x.b

def useBit (u : Int) (j : Nat) : Bool := decide (u / 2 ^ j % 2 = 1)

theorem checkM_none {x : St} (h : usesM x.k = -1) : checkM x = 2 := by unfold checkM; rw [if_pos h]

theorem checkM_root {x : St} (h : usesM x.k ≠ -1) {j : Nat} (hj : j < 3) (hb : useBit (usesM x.k) j = true) (hr : rootOk (x.at3 j) = false) : checkM x = 1 := by
  unfold checkM
  rw [if_neg h, if_pos]
  unfold useBit at hb
  have hb : usesM x.k / 2 ^ j % 2 = 1 := by simpa using hb
  rcases (by omega : j = 0 ∨ j = 1 ∨ j = 2) with rfl | rfl | rfl
  · exact .inl ⟨by simpa using hb, hr⟩
  · exact .inr (.inl ⟨by simpa using hb, hr⟩)
  · exact .inr (.inr ⟨by simpa using hb, hr⟩)

theorem checkM_rest {x : St} (h : usesM x.k ≠ -1) (hb : ∀ j, j < 3 → useBit (usesM x.k) j = true → rootOk (x.at3 j) = true) :
    checkM x = if x.k = 1 ∧ ¬ (-big ≤ x.n ∧ x.n < big) then 1 else if x.k = 5 ∧ ¬ (0 ≤ x.n ∧ x.n ≤ 12) then 1 else 0 := by
  unfold checkM
  rw [if_neg h, if_neg]
  rintro (⟨h1, h2⟩ | ⟨h1, h2⟩ | ⟨h1, h2⟩)
  · have := hb 0 (by decide) (by unfold useBit; simpa using h1)
    rw [show x.at3 0 = x.r from rfl, h2] at this; cases this
  · have := hb 1 (by decide) (by unfold useBit; simpa using h1)
    rw [show x.at3 1 = x.a from rfl, h2] at this; cases this
  · have := hb 2 (by decide) (by unfold useBit; simpa using h1)
    rw [show x.at3 2 = x.b from rfl, h2] at this; cases this

end Go.Proofs.Ytjifdalflepcoac

namespace Go.Proofs.Ytjifdalflepcoac
open Go.RowKit
set_option linter.unusedVariables false
set_option linter.unusedSimpArgs false
variable {P : Program}

end Go.Proofs.Ytjifdalflepcoac

namespace Go.Proofs.Ytjifdalflepcoac
open Go.RowKit
set_option linter.unusedVariables false
set_option linter.unusedSimpArgs false

end Go.Proofs.Ytjifdalflepcoac

namespace Go.Proofs.Ytjifdalflepcoac
open Go.RowKit
set_option linter.unusedVariables false
set_option linter.unusedSimpArgs false

theorem rootOk_iff (k : Int) : rootOk k = true ↔ 0 ≤ k ∧ k < 12 := by simp [rootOk]

/-- The roots ahead of j are right. -/
def Sound (x : St) (j : Nat) : Prop := ∀ i, i < j → useBit (usesM x.k) i = true → rootOk (x.at3 i) = true

theorem Sound.next {x : St} {j : Nat} (h : Sound x j) (hb : useBit (usesM x.k) j = true → rootOk (x.at3 j) = true) : Sound x (j + 1) := fun i hi h1 => by
  rcases Nat.lt_or_eq_of_le (Nat.le_of_lt_succ hi) with h2 | rfl
  · exact h i h2 h1
  · exact hb h1

set_option maxHeartbeats 16000000 in
set_option maxRecDepth 100000 in
theorem RStepFault_c (x : St) (w : World) : Calls Try.prog 8 #[.agg #[.int .i64 x.k, .int .i64 x.r, .int .i64 x.a, .int .i64 x.b, .int .i64 x.i, .int .i64 x.n]] w fun e w' => e = .returned (.int .i64 (checkM x)) ∧ Keeps (fun _ => False) w w' := by
  have HU := Lib.hid (fun w => RUsesOf_c x.k w)
  have HN := Lib.hid (fun h => checkM_none (x := x) h)
  have HR := Lib.hid (fun j (h1 : usesM x.k ≠ -1) (h2 : j < 3) (h3 : useBit (usesM x.k) j = true) h4 => checkM_root (x := x) (j := j) h1 h2 h3 h4)
  have HX := Lib.hid (fun h (h2 : Sound x 3) => checkM_rest (x := x) h h2)
  have S0 := Lib.hid (show Sound x 0 from fun i hi => by omega)
  have SN := Lib.hid (fun j => @Sound.next x j)
  have hv := usesM_vals x.k
  have B1 : Blk (w.alloc (.cells #[.int .i64 x.k, .int .i64 x.r, .int .i64 x.a, .int .i64 x.b, .int .i64 x.i, .int .i64 x.n] 23)) w.heap.size [.int .i64 x.k, .int .i64 x.r, .int .i64 x.a, .int .i64 x.b, .int .i64 x.i, .int .i64 x.n] 23 := Blk.newAt _ rfl rfl
  have K1 := Lib.hid ((Keeps.refl (fun _ => False) w).alloc (.cells #[.int .i64 x.k, .int .i64 x.r, .int .i64 x.a, .int .i64 x.b, .int .i64 x.i, .int .i64 x.n] 23))
  have HB := Lib.hid B1
  clear B1
  obtain ⟨xk, xr, xa, xb, xi, xn⟩ := x
  dsimp only at hv
  generalize hu : usesM xk = u at hv
  have hU := Lib.hid hu
  dsimp only at HU
  rw [hu] at HU
  go_enter Try.func8, Try.ntmps8
  go_wp2_with fail
  refine (HU.out _).mono ?_
  rintro e w1 ⟨rfl, hk⟩
  have HB1 := Lib.hid (hk.blk HB.out (fun h => h))
  have K2 := Lib.hid (K1.out.trans hk)
  clear hk HU hu
  generalize w.heap.size = p at *
  have p0 := HB1.out.cell 0; have p1 := HB1.out.cell 1; have p2 := HB1.out.cell 2; have p3 := HB1.out.cell 3; have p4 := HB1.out.cell 4; have p5 := HB1.out.cell 5; have pl := HB1.out.lt
  simp only [List.getElem?_cons_zero, List.getElem?_cons_succ] at p0 p1 p2 p3 p4 p5
  by_cases hneg : u = -1
  · have HE := Lib.hid (HN.out (hU.out.trans hneg))
    subst hneg
    clear hv
    go_wp2_with fail
    go_ret
    exact ⟨ret_i64 HE.out.symm, K2.out⟩
  · have hnn : usesM xk ≠ -1 := by rw [hU.out]; exact hneg
    have HNN := Lib.hid hnn
    have hd : decide (u < 0) = false := by simp; omega
    clear hnn
    go_upto_region 5 with (fail)
    generalize hw2 : w1.alloc (.cells #[.int .i64 xr, .int .i64 xa, .int .i64 xb] 3) = w2
    have K3 := Lib.hid (show Keeps (fun _ => False) w w2 by rw [← hw2]; exact K2.out.alloc _)
    have HB2 := Lib.hid (show Blk w2 p _ _ by rw [← hw2]; exact HB1.out.alloc _)
    have HL := Lib.hid (show Blk w2 w1.heap.size [.int .i64 xr, .int .i64 xa, .int .i64 xb] 3 by rw [← hw2]; exact Blk.newAt _ rfl rfl)
    clear p0 p1 p2 p3 p4 p5 pl HB1 K2 hw2
    generalize w1.heap.size = q at *
    have p0 := HB2.out.cell 0; have p5 := HB2.out.cell 5; have pl := HB2.out.lt
    have q0 := HL.out.cell 0; have q1 := HL.out.cell 1; have q2 := HL.out.cell 2; have ql := HL.out.lt
    simp only [List.getElem?_cons_zero, List.getElem?_cons_succ] at p0 p5 q0 q1 q2
    go_wp2_with fail
    go_loopw [5] (fun j wr => ∃ i : Nat, i ≤ 3 ∧ j = .int .i64 i ∧ wr = w2 ∧ Hid (Sound ⟨xk, xr, xa, xb, xi, xn⟩ i)) (fun j _ => 3 - (intOf j).toNat)
    case atStart => exact ⟨0, by omega, rfl, rfl, S0⟩
    case round =>
      obtain ⟨j, hj, rfl, rfl, hS⟩ := hrel
      clear S0
      rcases (by omega : j = 3 ∨ j = 0 ∨ j = 1 ∨ j = 2) with rfl | hj'
      · have HX2 := Lib.hid (HX.out HNN.out hS.out)
        clear HX HN HR SN hS hU HNN hv hd
        by_cases k1 : xk = 1
        · subst k1
          by_cases n1 : xn ≥ 1152921504606846976
          · have HE := Lib.hid (show checkM ⟨1, xr, xa, xb, xi, xn⟩ = 1 by rw [HX2.out, if_pos ⟨rfl, fun h => by unfold big at h; omega⟩])
            have d1 : decide (xn ≥ 1152921504606846976) = true := by simpa using n1
            clear n1 HX2
            go_wp2_with fail
            go_ret
            exact ⟨ret_i64 HE.out.symm, K3.out⟩
          · have d1 : decide (xn ≥ 1152921504606846976) = false := by simpa using n1
            by_cases n2 : xn < -1152921504606846976
            · have HE := Lib.hid (show checkM ⟨1, xr, xa, xb, xi, xn⟩ = 1 by rw [HX2.out, if_pos ⟨rfl, fun h => by unfold big at h; omega⟩])
              have d2 : decide (xn < -1152921504606846976) = true := by simpa using n2
              clear n1 n2 HX2
              go_wp2_with fail
              go_ret
              exact ⟨ret_i64 HE.out.symm, K3.out⟩
            · have HE := Lib.hid (show checkM ⟨1, xr, xa, xb, xi, xn⟩ = 0 by rw [HX2.out, if_neg (fun h => h.2 (by unfold big; omega)), if_neg (fun h => by omega)])
              have d2 : decide (xn < -1152921504606846976) = false := by simpa using n2
              clear n1 n2 HX2
              go_wp2_with fail
              go_ret
              exact ⟨ret_i64 HE.out.symm, K3.out⟩
        · have e1 : (xk == 1) = false := by simpa using k1
          by_cases k5 : xk = 5
          · subst k5
            by_cases n1 : xn < 0
            · have HE := Lib.hid (show checkM ⟨5, xr, xa, xb, xi, xn⟩ = 1 by rw [HX2.out, if_neg (fun h => by omega), if_pos ⟨rfl, fun h => by omega⟩])
              have d1 : decide (xn < 0) = true := by simpa using n1
              clear n1 HX2 k1
              go_wp2_with fail
              go_ret
              exact ⟨ret_i64 HE.out.symm, K3.out⟩
            · have d1 : decide (xn < 0) = false := by simpa using n1
              by_cases n2 : xn > 12
              · have HE := Lib.hid (show checkM ⟨5, xr, xa, xb, xi, xn⟩ = 1 by rw [HX2.out, if_neg (fun h => by omega), if_pos ⟨rfl, fun h => by omega⟩])
                have d2 : decide (12 < xn) = true := by simpa using n2
                clear n1 n2 HX2 k1
                go_wp2_with fail
                go_ret
                exact ⟨ret_i64 HE.out.symm, K3.out⟩
              · have HE := Lib.hid (show checkM ⟨5, xr, xa, xb, xi, xn⟩ = 0 by rw [HX2.out, if_neg (fun h => by omega), if_neg (fun h => h.2 (by omega))])
                have d2 : decide (12 < xn) = false := by simpa using n2
                clear n1 n2 HX2 k1
                go_wp2_with fail
                go_ret
                exact ⟨ret_i64 HE.out.symm, K3.out⟩
          · have e5 : (xk == 5) = false := by simpa using k5
            have HE := Lib.hid (show checkM ⟨xk, xr, xa, xb, xi, xn⟩ = 0 by rw [HX2.out, if_neg (fun h => k1 h.1), if_neg (fun h => k5 h.1)])
            clear k1 k5 HX2
            go_wp2_with fail
            go_ret
            exact ⟨ret_i64 HE.out.symm, K3.out⟩
      · have HB2 := Lib.hid (fun hb => (HR.out j HNN.out (by omega) hb))
        have HNX := Lib.hid (fun h => (SN.out j hS.out h))
        clear HX HN HR SN hS HNN
        cases hub : useBit u j
        · have HSN := Lib.hid (HNX.out (fun h => by rw [hU.out, hub] at h; cases h))
          clear HNX HB2 hU
          rcases hv with rfl | rfl | rfl | rfl | rfl | rfl <;> rcases hj' with rfl | rfl | rfl <;> first | (exfalso; revert hub; decide) | (exfalso; exact hneg rfl) | skip
          all_goals
            clear hub hneg
            go_wp2_with fail
            go_roundw
            case rel => exact ⟨_, by decide, by first | rfl | go_num, by first | rfl | trivial, HSN⟩
            case measure => simp [intOf]
        · have HNX2 := Lib.hid (fun h => HNX.out (fun _ => h))
          have HBB := Lib.hid (HB2.out (by rw [hU.out]; exact hub))
          clear HNX HB2 hU
          cases hro : rootOk (St.at3 ⟨xk, xr, xa, xb, xi, xn⟩ j)
          · have HE := Lib.hid (HBB.out hro)
            clear HBB HNX2
            have hlim : St.at3 ⟨xk, xr, xa, xb, xi, xn⟩ j < 0 ∨ 12 ≤ St.at3 ⟨xk, xr, xa, xb, xi, xn⟩ j := by
              unfold rootOk at hro; simp at hro; omega
            clear hro
            rcases hv with rfl | rfl | rfl | rfl | rfl | rfl <;> rcases hj' with rfl | rfl | rfl <;> first | (exfalso; revert hub; decide) | (exfalso; exact hneg rfl) | skip
            all_goals
              clear hub hneg
              simp [St.at3] at hlim
              rcases hlim with hlim | hlim
              · have d1 := decide_eq_true hlim
                clear hlim
                go_wp2_with fail
                go_ret
                exact ⟨ret_i64 HE.out.symm, K3.out⟩
              · have d1 : decide (_ < (0 : Int)) = false := decide_eq_false (Int.not_lt.2 (Int.le_trans (by decide) hlim))
                have d2 := decide_eq_true hlim
                clear hlim
                go_wp2_with fail
                go_ret
                exact ⟨ret_i64 HE.out.symm, K3.out⟩
          · have HSN := Lib.hid (HNX2.out hro)
            clear HBB HNX2
            have hlim : 0 ≤ St.at3 ⟨xk, xr, xa, xb, xi, xn⟩ j ∧ St.at3 ⟨xk, xr, xa, xb, xi, xn⟩ j < 12 := (rootOk_iff _).1 hro
            clear hro
            rcases hv with rfl | rfl | rfl | rfl | rfl | rfl <;> rcases hj' with rfl | rfl | rfl <;> first | (exfalso; revert hub; decide) | (exfalso; exact hneg rfl) | skip
            all_goals
              clear hub hneg
              simp [St.at3] at hlim
              obtain ⟨l1, l2⟩ := hlim
              have d1 : decide (_ < (0 : Int)) = false := decide_eq_false (Int.not_lt.2 l1)
              have d2 : decide ((12 : Int) ≤ _) = false := decide_eq_false (Int.not_le.2 l2)
              clear l1 l2
              go_wp2_with fail
              go_roundw
              case rel => exact ⟨_, by decide, by first | rfl | go_num, by first | rfl | trivial, HSN⟩
              case measure => simp [intOf]

end Go.Proofs.Ytjifdalflepcoac

namespace Go.Proofs.Ytjifdalflepcoac
open Go.RowKit
set_option linter.unusedVariables false
set_option linter.unusedSimpArgs false

def usesL : List Int := [0, 1, 1, 3, 7, 3, 7, 7, 1, 6, 3, 3, 6, 3, 7, 0, 0]

theorem uses_index (k : Nat) (hk : k < 17) (w : World) : (Instr.index 65 (.agg #[.int .i64 0, .int .i64 1, .int .i64 1, .int .i64 3, .int .i64 7, .int .i64 3, .int .i64 7, .int .i64 7, .int .i64 1, .int .i64 6, .int .i64 3, .int .i64 3, .int .i64 6, .int .i64 3, .int .i64 7, .int .i64 0, .int .i64 0]) (.int .i64 (k : Int))).run Try.prog w = .ok (.int .i64 (usesL.getD k 0)) w := by
  match k, hk with
  | 0, _ => show _ = _; kernel_rfl
  | 1, _ => show _ = _; kernel_rfl
  | 2, _ => show _ = _; kernel_rfl
  | 3, _ => show _ = _; kernel_rfl
  | 4, _ => show _ = _; kernel_rfl
  | 5, _ => show _ = _; kernel_rfl
  | 6, _ => show _ = _; kernel_rfl
  | 7, _ => show _ = _; kernel_rfl
  | 8, _ => show _ = _; kernel_rfl
  | 9, _ => show _ = _; kernel_rfl
  | 10, _ => show _ = _; kernel_rfl
  | 11, _ => show _ = _; kernel_rfl
  | 12, _ => show _ = _; kernel_rfl
  | 13, _ => show _ = _; kernel_rfl
  | 14, _ => show _ = _; kernel_rfl
  | 15, _ => show _ = _; kernel_rfl
  | 16, _ => show _ = _; kernel_rfl
  | n + 17, h => omega

theorem uses_list : ∀ n : Nat, n < 17 → 1 ≤ n → usesM n = usesL.getD n 0 := by decide

set_option maxHeartbeats 4000000 in
set_option maxRecDepth 100000 in
theorem Uses_c (k : Int) (w : World) : Calls Try.prog 9 #[.int .i64 k] w fun e w' => e = .returned (.int .i64 (usesM k)) ∧ w = w' := by
  by_cases h1 : k < 1
  · have HE := Lib.hid (show usesM k = -1 by unfold usesM; repeat' (rw [if_neg (by omega)]))
    have d1 : decide (k < 1) = true := by simpa using h1
    clear h1
    go_enter Try.func9, Try.ntmps9
    go_wp2_with fail
    go_ret
    exact ⟨ret_i64 HE.out.symm, rfl⟩
  by_cases h2 : 16 < k
  · have HE := Lib.hid (show usesM k = -1 by unfold usesM; repeat' (rw [if_neg (by omega)]))
    have d1 : decide (k < 1) = false := by simp; omega
    have d2 : decide (16 < k) = true := by simpa using h2
    clear h1 h2
    go_enter Try.func9, Try.ntmps9
    go_wp2_with fail
    go_ret
    exact ⟨ret_i64 HE.out.symm, rfl⟩
  · obtain ⟨n, rfl⟩ : ∃ n : Nat, k = n := ⟨k.toNat, by omega⟩
    have d1 : decide ((n : Int) < 1) = false := by simpa using h1
    have d2 : decide (16 < (n : Int)) = false := by simpa using h2
    have HE := Lib.hid (uses_list n (by omega) (by omega))
    have hix := uses_index n (by omega)
    clear h1 h2
    go_enter Try.func9, Try.ntmps9
    go_wp2_with fail
    go_ret
    exact ⟨ret_i64 HE.out.symm, rfl⟩

/-- May a root be? -/
def rootB (u : Int) (j : Nat) (k : Int) : Bool := !useBit u j || rootOk k

set_option maxHeartbeats 4000000 in
set_option maxRecDepth 100000 in
theorem CheckRoot_c (u : Int) (hu : u = 0 ∨ u = 1 ∨ u = 3 ∨ u = 6 ∨ u = 7) (j : Nat) (hj : j = 0 ∨ j = 1 ∨ j = 2) (bit : Int) (hbit : bit = 2 ^ j) (k : Int) (b : Nat) (w : World) (hc : w.cell? ⟨b, 0, none⟩ = some (.int .i64 u)) (hl : b < w.heap.size) :
    Calls Try.prog 19 #[.int .i64 k, .int .i64 bit, .pointer (some ⟨b, 0, none⟩)] w fun e w' => e = .returned (.bool (rootB u j k)) ∧ w = w' := by
  have key : ∀ z : Bool, decide (k ≥ 0) = z → True := fun _ _ => trivial
  by_cases h0 : k < 0
  · have d1 : decide (0 ≤ k) = false := by simpa using h0
    have HR := Lib.hid (show rootOk k = false by unfold rootOk; rw [d1]; rfl)
    clear h0
    rcases hu with rfl | rfl | rfl | rfl | rfl <;> rcases hj with rfl | rfl | rfl <;> subst hbit <;> (go_enter Try.func19, Try.ntmps19; go_wp2_with fail; go_ret; exact ⟨ret_bool (by unfold rootB; rw [HR.out]; decide), rfl⟩)
  · have d1 : decide (0 ≤ k) = true := by simp; omega
    by_cases h1 : k < 12
    · have d2 : decide (k < 12) = true := by simpa using h1
      have HR := Lib.hid (show rootOk k = true by unfold rootOk; rw [d1, d2]; rfl)
      clear h0 h1
      rcases hu with rfl | rfl | rfl | rfl | rfl <;> rcases hj with rfl | rfl | rfl <;> subst hbit <;> (go_enter Try.func19, Try.ntmps19; go_wp2_with fail; go_ret; exact ⟨ret_bool (by unfold rootB; rw [HR.out]; decide), rfl⟩)
    · have d2 : decide (k < 12) = false := by simpa using h1
      have HR := Lib.hid (show rootOk k = false by unfold rootOk; rw [d1, d2]; rfl)
      clear h0 h1
      rcases hu with rfl | rfl | rfl | rfl | rfl <;> rcases hj with rfl | rfl | rfl <;> subst hbit <;> (go_enter Try.func19, Try.ntmps19; go_wp2_with fail; go_ret; exact ⟨ret_bool (by unfold rootB; rw [HR.out]; decide), rfl⟩)

end Go.Proofs.Ytjifdalflepcoac

namespace Go.Proofs.Ytjifdalflepcoac
open Go.RowKit
set_option linter.unusedVariables false
set_option linter.unusedSimpArgs false

theorem rootB_bad {x : St} (h : usesM x.k ≠ -1) {j : Nat} (hj : j < 3) (hb : rootB (usesM x.k) j (x.at3 j) = false) : checkM x = 1 := by
  unfold rootB at hb
  simp only [Bool.or_eq_false_iff, Bool.not_eq_false'] at hb
  exact checkM_root h hj hb.1 hb.2

theorem rootB_good {x : St} (h0 : rootB (usesM x.k) 0 x.r = true) (h1 : rootB (usesM x.k) 1 x.a = true) (h2 : rootB (usesM x.k) 2 x.b = true) : ∀ j, j < 3 → useBit (usesM x.k) j = true → rootOk (x.at3 j) = true := by
  intro j hj hb
  have key : ∀ {k : Int}, rootB (usesM x.k) j k = true → rootOk k = true := fun {k} h => by
    unfold rootB at h
    rw [hb] at h
    simpa using h
  rcases (by omega : j = 0 ∨ j = 1 ∨ j = 2) with rfl | rfl | rfl
  · exact key h0
  · exact key h1
  · exact key h2

set_option maxHeartbeats 16000000 in
set_option maxRecDepth 100000 in
theorem Check_c (x : St) (w : World) : Calls Try.prog 7 #[.agg #[.int .i64 x.k, .int .i64 x.r, .int .i64 x.a, .int .i64 x.b, .int .i64 x.i, .int .i64 x.n]] w fun e w' => e = .returned (.int .i64 (checkM x)) ∧ Keeps (fun _ => False) w w' := by
  have HU := Lib.hid (fun w => Uses_c x.k w)
  have HN := Lib.hid (fun h => checkM_none (x := x) h)
  have HR := Lib.hid (fun (h1 : usesM x.k ≠ -1) j (h2 : j < 3) h3 => rootB_bad (x := x) h1 (j := j) h2 h3)
  have HX := Lib.hid (fun (h : usesM x.k ≠ -1) h0 h1 h2 => checkM_rest (x := x) h (rootB_good h0 h1 h2))
  have hv := usesM_vals x.k
  have B1 : Blk (w.alloc (.cells #[.int .i64 x.k, .int .i64 x.r, .int .i64 x.a, .int .i64 x.b, .int .i64 x.i, .int .i64 x.n] 23)) w.heap.size [.int .i64 x.k, .int .i64 x.r, .int .i64 x.a, .int .i64 x.b, .int .i64 x.i, .int .i64 x.n] 23 := Blk.newAt _ rfl rfl
  have ka := (Keeps.refl (fun _ => False) w).alloc (.cells #[.int .i64 x.k, .int .i64 x.r, .int .i64 x.a, .int .i64 x.b, .int .i64 x.i, .int .i64 x.n] 23)
  obtain ⟨xk, xr, xa, xb, xi, xn⟩ := x
  dsimp only at hv B1 ka
  generalize hu : usesM xk = u at hv
  have hU := Lib.hid hu
  dsimp only at HU HR HX HN
  rw [hu] at HU HR HX HN
  clear hu
  go_enter Try.func7, Try.ntmps7
  go_wp2_with fail
  generalize w.alloc (.cells #[.int .i64 xk, .int .i64 xr, .int .i64 xa, .int .i64 xb, .int .i64 xi, .int .i64 xn] 23) = w1 at *
  generalize w.heap.size = p at *
  refine (HU.out _).mono ?_
  rintro e _ ⟨rfl, rfl⟩
  have p0 := B1.cell 0; have p1 := B1.cell 1; have p2 := B1.cell 2; have p3 := B1.cell 3; have p5 := B1.cell 5; have pl := B1.lt
  simp only [List.getElem?_cons_zero, List.getElem?_cons_succ] at p0 p1 p2 p3 p5
  have HB := Lib.hid B1; have K1 := Lib.hid ka
  clear B1 ka HU
  by_cases hneg : u = -1
  · have HE := Lib.hid (HN.out hneg)
    subst hneg
    clear hv
    go_wp2_with fail
    go_ret
    exact ⟨ret_i64 HE.out.symm, K1.out.alloc _⟩
  · have hd : decide (u < 0) = false := by simp; omega
    have hu5 : u = 0 ∨ u = 1 ∨ u = 3 ∨ u = 6 ∨ u = 7 := by omega
    have HNN := Lib.hid hneg
    have hR := HR.out hneg; have hX := HX.out hneg
    have HR := Lib.hid hR; have HX := Lib.hid hX
    have HU5 := Lib.hid hu5
    clear hneg hv hR hX hu5
    go_upto_region 4 with (fail)
    have ka := (Keeps.refl (fun _ => False) w1).alloc (.cells #[.int .i64 u] 3)
    have hub : Blk (w1.alloc (.cells #[.int .i64 u] 3)) w1.heap.size [.int .i64 u] 3 := Blk.newAt _ rfl rfl
    have HB2 := Lib.hid (ka.blk HB.out (fun h => h)); have K2 := Lib.hid (K1.out.trans ka)
    clear p0 p1 p2 p3 p5 pl ka HB K1
    generalize w1.alloc (.cells #[.int .i64 u] 3) = w2 at *
    generalize w1.heap.size = q at *
    have p0 := HB2.out.cell 0; have p1 := HB2.out.cell 1; have p2 := HB2.out.cell 2; have p3 := HB2.out.cell 3; have p5 := HB2.out.cell 5; have pl := HB2.out.lt
    simp only [List.getElem?_cons_zero, List.getElem?_cons_succ] at p0 p1 p2 p3 p5
    have q0 := hub.cell 0; have ql := hub.lt
    simp only [List.getElem?_cons_zero] at q0
    have C0 := Lib.hid (CheckRoot_c u HU5.out 0 (by decide) 1 rfl xr q w2 q0 ql)
    have C1 := Lib.hid (CheckRoot_c u HU5.out 1 (by decide) 2 rfl xa q w2 q0 ql)
    have C2 := Lib.hid (CheckRoot_c u HU5.out 2 (by decide) 4 rfl xb q w2 q0 ql)
    clear hub q0 ql
    obtain ⟨z0, h0⟩ : ∃ z, rootB u 0 xr = z := ⟨_, rfl⟩
    obtain ⟨z1, h1⟩ : ∃ z, rootB u 1 xa = z := ⟨_, rfl⟩
    obtain ⟨z2, h2⟩ : ∃ z, rootB u 2 xb = z := ⟨_, rfl⟩
    rw [h0] at C0; rw [h1] at C1; rw [h2] at C2
    have H0 := Lib.hid h0; have H1 := Lib.hid h1; have H2 := Lib.hid h2
    clear h0 h1 h2
    go_wp2_with fail
    refine C0.out.mono ?_
    rintro e _ ⟨rfl, rfl⟩
    cases z0
    · have HE := Lib.hid (HR.out 0 (by decide) H0.out)
      go_wp2_with fail
      go_ret
      exact ⟨ret_i64 HE.out.symm, K2.out⟩
    go_wp2_with fail
    refine C1.out.mono ?_
    rintro e _ ⟨rfl, rfl⟩
    cases z1
    · have HE := Lib.hid (HR.out 1 (by decide) H1.out)
      go_wp2_with fail
      go_ret
      exact ⟨ret_i64 HE.out.symm, K2.out⟩
    go_wp2_with fail
    refine C2.out.mono ?_
    rintro e _ ⟨rfl, rfl⟩
    cases z2
    · have HE := Lib.hid (HR.out 2 (by decide) H2.out)
      go_wp2_with fail
      go_ret
      exact ⟨ret_i64 HE.out.symm, K2.out⟩
    have HX2 := Lib.hid (HX.out H0.out H1.out H2.out)
    clear HX HR C0 C1 C2
    by_cases k1 : xk = 1
    · subst k1
      by_cases n2 : xn < -1152921504606846976
      · have HE := Lib.hid (show checkM ⟨1, xr, xa, xb, xi, xn⟩ = 1 by rw [HX2.out, if_pos ⟨rfl, fun h => by unfold big at h; omega⟩])
        have d2 : decide (xn < -1152921504606846976) = true := by simpa using n2
        clear n2 HX2
        go_wp2_with fail
        go_ret
        exact ⟨ret_i64 HE.out.symm, K2.out⟩
      have d2 : decide (xn < -1152921504606846976) = false := by simpa using n2
      by_cases n1 : 1152921504606846976 ≤ xn
      · have HE := Lib.hid (show checkM ⟨1, xr, xa, xb, xi, xn⟩ = 1 by rw [HX2.out, if_pos ⟨rfl, fun h => by unfold big at h; omega⟩])
        have d1 : decide (1152921504606846976 ≤ xn) = true := by simpa using n1
        clear n1 n2 HX2
        go_wp2_with fail
        go_ret
        exact ⟨ret_i64 HE.out.symm, K2.out⟩
      · have HE := Lib.hid (show checkM ⟨1, xr, xa, xb, xi, xn⟩ = 0 by rw [HX2.out, if_neg (fun h => h.2 (by unfold big; omega)), if_neg (fun h => by omega)])
        have d1 : decide (1152921504606846976 ≤ xn) = false := by simpa using n1
        clear n1 n2 HX2
        go_wp2_with fail
        go_ret
        exact ⟨ret_i64 HE.out.symm, K2.out⟩
    · have e1 : (xk == 1) = false := by simpa using k1
      by_cases k5 : xk = 5
      · subst k5
        by_cases n1 : xn < 0
        · have HE := Lib.hid (show checkM ⟨5, xr, xa, xb, xi, xn⟩ = 1 by rw [HX2.out, if_neg (fun h => by omega), if_pos ⟨rfl, fun h => by omega⟩])
          have d1 : decide (xn < 0) = true := by simpa using n1
          clear n1 HX2 k1
          go_wp2_with fail
          go_ret
          exact ⟨ret_i64 HE.out.symm, K2.out⟩
        have d1 : decide (xn < 0) = false := by simpa using n1
        by_cases n2 : 12 < xn
        · have HE := Lib.hid (show checkM ⟨5, xr, xa, xb, xi, xn⟩ = 1 by rw [HX2.out, if_neg (fun h => by omega), if_pos ⟨rfl, fun h => by omega⟩])
          have d2 : decide (12 < xn) = true := by simpa using n2
          clear n1 n2 HX2 k1
          go_wp2_with fail
          go_ret
          exact ⟨ret_i64 HE.out.symm, K2.out⟩
        · have HE := Lib.hid (show checkM ⟨5, xr, xa, xb, xi, xn⟩ = 0 by rw [HX2.out, if_neg (fun h => by omega), if_neg (fun h => h.2 (by omega))])
          have d2 : decide (12 < xn) = false := by simpa using n2
          clear n1 n2 HX2 k1
          go_wp2_with fail
          go_ret
          exact ⟨ret_i64 HE.out.symm, K2.out⟩
      · have e5 : (xk == 5) = false := by simpa using k5
        have HE := Lib.hid (show checkM ⟨xk, xr, xa, xb, xi, xn⟩ = 0 by rw [HX2.out, if_neg (fun h => k1 h.1), if_neg (fun h => k5 h.1)])
        clear k1 k5 HX2
        go_wp2_with fail
        go_ret
        exact ⟨ret_i64 HE.out.symm, K2.out⟩

end Go.Proofs.Ytjifdalflepcoac

namespace Go.Proofs.Ytjifdalflepcoac
open Go.RowKit
set_option linter.unusedVariables false
set_option linter.unusedSimpArgs false

/-- Blocks of words and of cards. -/
def WH.In (h : WH) (k : Nat) : Prop := (k = h.pa ∨ k = h.g) ∨ k = h.cb

/-- Words and cards are others, and nothing else. -/
def WoodIn (w : World) (h : WH) (w' : World) (O : Wo) : Prop := WoodAt w' h O ∧ Keeps h.In w w'

theorem WH.In.own {h : WH} {k : Nat} (hk : h.In k) : h.Own k := by
  rcases hk with hk | hk
  · exact .inr (.inl hk)
  · exact .inr (.inr (.inl (.inr hk)))

section
variable {w w' : World} {h : WH} {O O' : Wo}

theorem WoodIn.arena (H : WoodAt w h O) {A : Ar} (t : ArenaTo w h.pa h.g w' A) (hn : A.nur = O.ar.nur) : WoodIn w h w' { O with ar := A } :=
  ⟨H.arena t hn, t.k.mono (fun k _ hk => .inl hk)⟩

theorem WoodIn.to (t : WoodIn w h w' O') : WoodTo w h w' O' := ⟨h, t.1, rfl, t.2.mono (fun _ _ hk => hk.own), fun k hk => .inl hk⟩

end

end Go.Proofs.Ytjifdalflepcoac

namespace Go.Proofs.Ytjifdalflepcoac
set_option linter.unusedVariables false
set_option linter.unusedSimpArgs false

/-- The word of a value, if things stand at φ. -/
def encV (φ : Int → Int) (v : Vl) : Int := if v.1 = 3 then 4 * φ v.2 + 1 else if v.1 = 1 then 4 * v.2 else if v.1 = 2 then 3 else 2

def encE (φ : Int → Int) (e : Int × Int) : Int × Int := (4 * φ e.1 + 1, 4 * φ e.2 + 1)

theorem encV_ref (φ : Int → Int) {v : Vl} (h : v.1 = 3) : encV φ v = 4 * φ v.2 + 1 := if_pos h

theorem encV_mod {W : Wd} {φ : Int → Int} {v : Vl} (h : W.okV v) : encV φ v % 4 = 1 ↔ v.1 = 3 := by
  rcases h with h | h | h | h
  · simp [encV, h.1]
  · simp [encV, h.1]
  · simp [encV, h.1]
  · simp only [encV, h.1, if_true, iff_true]; omega

theorem encV_plain {φ ψ : Int → Int} {v : Vl} (h : v.1 ≠ 3) : encV φ v = encV ψ v := by simp [encV, h]

theorem valO_encV {W : Wd} {φ : Int → Int} {v : Vl} (h : W.okV v) : valO (encV φ v) = reV φ v := by
  rcases h with h | h | h | h
  · have : v = (0, 0) := by cases v; simp_all
    subst this; rfl
  · have e : encV φ v = 4 * v.2 := by simp [encV, h.1]
    rw [e]
    have h1 : (4 * v.2) % 4 = 0 := by omega
    have h2 : (4 * v.2) / 4 = v.2 := by omega
    have := decW_int (x := 4 * v.2) h1 (by rw [h2]; exact h.2)
    unfold valO reV
    rw [if_neg (by omega), this, if_neg (by rw [h.1]; decide), h2]
    cases v; simp_all
  · have : v = (2, 0) := by cases v; simp_all
    subst this; rfl
  · have e : encV φ v = 4 * φ v.2 + 1 := encV_ref φ h.1
    rw [e]
    unfold valO reV
    rw [if_pos (by omega), if_pos h.1]
    congr 1; omega

/-- Things from a place up to another, without anything between. -/
def Tile (A : Ar) : List Int → Int → Int → Prop
  | [], a, b => a = b
  | p :: l, a, b => p = a ∧ (A.thing p).2.2 = 0 ∧ Tile A l (p + 1 + (A.thing p).2.1) b

theorem Tile.le {A : Ar} : ∀ {l : List Int} {a b : Int}, Tile A l a b → a ≤ b
  | [], a, b, h => by have : a = b := h; omega
  | p :: l, a, b, h => by
    have := Tile.le h.2.2
    have := A.thing_fields p
    have := h.1
    omega

theorem Tile.mem {A : Ar} : ∀ {l : List Int} {a b : Int}, Tile A l a b → ∀ p ∈ l, a ≤ p ∧ p + 1 + (A.thing p).2.1 ≤ b ∧ (A.thing p).2.2 = 0
  | q :: l, a, b, h, p, hp => by
    rcases List.mem_cons.1 hp with rfl | hp
    · have := Tile.le h.2.2
      have := h.1
      exact ⟨by omega, by omega, h.2.1⟩
    · have h1 := Tile.mem h.2.2 p hp
      have := A.thing_fields q
      have := h.1
      exact ⟨by omega, h1.2.1, h1.2.2⟩

theorem Tile.apart {A : Ar} : ∀ {l : List Int} {a b : Int}, Tile A l a b → l.Pairwise fun p q => p + 1 + (A.thing p).2.1 ≤ q
  | [], _, _, _ => List.Pairwise.nil
  | p :: l, a, b, h => List.Pairwise.cons (fun q hq => (Tile.mem h.2.2 q hq).1) (Tile.apart h.2.2)

theorem Tile.congr {A B : Ar} : ∀ {l : List Int} {a b : Int}, (∀ p ∈ l, B.thing p = A.thing p) → Tile A l a b → Tile B l a b
  | [], _, _, _, h => h
  | p :: l, a, b, hs, h => by
    refine ⟨h.1, ?_, ?_⟩
    · rw [hs p (by simp)]; exact h.2.1
    · rw [hs p (by simp)]; exact Tile.congr (fun q hq => hs q (by simp [hq])) h.2.2

theorem Tile.app {A : Ar} {m : List Int} {c : Int} : ∀ {l : List Int} {a b : Int}, Tile A l a b → Tile A m b c → Tile A (l ++ m) a c
  | [], a, b, h, k => by have : a = b := h; subst this; exact k
  | p :: l, a, b, h, k => ⟨h.1, h.2.1, Tile.app h.2.2 k⟩

theorem Tile.list {A : Ar} : ∀ {l : List Int} {a b : Int} {n : Nat}, Tile A l a b → (b - a).toNat ≤ n → A.list n a b = l
  | [], a, b, n, h, hn => by
    have : a = b := h
    subst this
    exact Ar.list_end (fun h => by omega)
  | p :: l, a, b, n, h, hn => by
    have hle := Tile.le h.2.2
    have hf := A.thing_fields p
    have he := h.1
    subst he
    obtain ⟨n, rfl⟩ : ∃ m, n = m + 1 := ⟨n - 1, by omega⟩
    rw [Ar.list_step (by omega) h.2.1, Tile.list h.2.2 (by omega)]

/-- How many words: of a tile. -/
theorem Tile.sum {A : Ar} : ∀ {l : List Int} {a b : Int}, Tile A l a b → b = a + (l.map fun p => 1 + (A.thing p).2.1).sum
  | [], a, b, h => by have : a = b := h; subst this; simp
  | p :: l, a, b, h => by
    have := Tile.sum h.2.2
    have := h.1
    simp only [List.map_cons, List.sum_cons]
    omega

theorem Ar.load_store {A : Ar} (h : A.ok) (p q x : Int) : (A.store p x).load q = if q = p ∧ A.inUse p = true then x else A.load q := by
  have hu : ∀ r, (A.store p x).inUse r = A.inUse r := fun r => by
    unfold Ar.inUse Ar.young Ar.old
    rw [A.store_yng, A.store_nur, A.store_grn]
  unfold Ar.load
  rw [hu]
  by_cases hp : A.inUse p = true
  · have hl := h.use_lt hp
    have e : A.store p x = { A with ws := A.ws.set p.toNat x } := by unfold Ar.store; rw [if_pos hp]
    by_cases hq : A.inUse q = true
    · have hlq := h.use_lt hq
      rw [if_pos hq, if_pos hq, e]
      show (A.ws.set p.toNat x).getD q.toNat 0 = _
      simp only [List.getD_eq_getElem?_getD, List.getElem?_set]
      by_cases e2 : q = p
      · subst e2; rw [if_pos rfl, if_pos (by omega), if_pos ⟨rfl, hp⟩]; rfl
      · rw [if_neg (by omega), if_neg (fun h => e2 h.1)]
    · rw [if_neg hq, if_neg hq, if_neg (fun hh => by rw [hh.1] at hq; exact hq hh.2)]
  · have e : A.store p x = A := by unfold Ar.store; rw [if_neg hp]
    rw [e, if_neg (fun hh : q = p ∧ A.inUse p = true => hp hh.2)]

end Go.Proofs.Ytjifdalflepcoac

namespace Go.Proofs.Ytjifdalflepcoac
set_option linter.unusedVariables false
set_option linter.unusedSimpArgs false

/-- A value, by the number that its thing has among what was met. -/
def numV (M : List Int) (v : Vl) : Vl := reV (fun x => ((M.idxOf x : Nat) : Int)) v

def numN (M : List Int) (n : Nd) : Nd := (n.1, n.2.map (numV M))

theorem numV_app {M m : List Int} {v : Vl} (h : v.1 = 3 → v.2 ∈ M) : numV (M ++ m) v = numV M v := by
  unfold numV reV
  by_cases h3 : v.1 = 3
  · rw [if_pos h3, if_pos h3]
    dsimp only
    rw [List.idxOf_append, if_pos (h h3)]
  · rw [if_neg h3, if_neg h3]

theorem numV_map_app {M m : List Int} {l : List Vl} (h : ∀ v ∈ l, v.1 = 3 → v.2 ∈ M) : l.map (numV (M ++ m)) = l.map (numV M) :=
  List.map_congr_left fun v hv => numV_app (h v hv)

/-- Behind a step: the new ones are told, all that they lead to was met. -/
structure Told (G : Gr) (L : List Vl) (s s' : VS) : Prop where
  pre : ∃ m, s'.1 = s.1 ++ m
  len : s'.2.length = s'.1.length
  nodup : s.1.Nodup → s'.1.Nodup
  met : ∀ v ∈ L, v.1 = 3 → v.2 ∈ s'.1
  shut : ∀ (k : Nat) (x : Int), s.1.length ≤ k → s'.1[k]? = some x → ∀ v ∈ (G x).2, v.1 = 3 → v.2 ∈ s'.1
  node : ∀ (k : Nat) (x : Int), s.1.length ≤ k → s'.1[k]? = some x → s'.2[k]? = some (numN s'.1 (G x))
  keep : ∀ k, k < s.1.length → s'.2[k]? = s.2[k]?
  led : ∀ (k : Nat) (x : Int), s.1.length ≤ k → s'.1[k]? = some x → ((3, x) : Vl) ∈ L ∨ ∃ (j : Nat) (y : Int), s.1.length ≤ j ∧ j < k ∧ s'.1[j]? = some y ∧ ((3, x) : Vl) ∈ (G y).2

theorem Told.refl (G : Gr) {L : List Vl} {s : VS} (hl : s.2.length = s.1.length) (hm : ∀ v ∈ L, v.1 = 3 → v.2 ∈ s.1) : Told G L s s :=
  have no : ∀ (k : Nat) (x : Int), s.1.length ≤ k → s.1[k]? = some x → False := fun k x h1 h2 => by
    rw [List.getElem?_eq_none h1] at h2; cases h2
  ⟨⟨[], by simp⟩, hl, fun h => h, hm, fun k x h1 h2 => (no k x h1 h2).elim, fun k x h1 h2 => (no k x h1 h2).elim, fun _ _ => rfl, fun k x h1 h2 => (no k x h1 h2).elim⟩

theorem getElem?_pre {α : Type} {a m : List α} {k : Nat} (h : k < a.length) : (a ++ m)[k]? = a[k]? := List.getElem?_append_left h

theorem Told.then {G : Gr} {L L' : List Vl} {s t u : VS} (A : Told G L s t) (B : Told G L' t u) : Told G (L ++ L') s u := by
  obtain ⟨m, hm⟩ := A.pre
  obtain ⟨m', hm'⟩ := B.pre
  have hsub : ∀ x ∈ t.1, x ∈ u.1 := fun x hx => by rw [hm']; simp [hx]
  have ht : s.1.length ≤ t.1.length := by rw [hm]; simp
  refine ⟨⟨m ++ m', by rw [hm', hm]; simp⟩, B.len, fun h => B.nodup (A.nodup h), fun v hv h3 => ?_, fun k x hk hx v hv h3 => ?_, fun k x hk hx => ?_, fun k hk => ?_, fun k x hk hx => ?_⟩
  · rcases List.mem_append.1 hv with h | h
    · exact hsub _ (A.met v h h3)
    · exact B.met v h h3
  · by_cases hlt : k < t.1.length
    · rw [hm', getElem?_pre hlt] at hx
      exact hsub _ (A.shut k x hk hx v hv h3)
    · exact B.shut k x (by omega) hx v hv h3
  · by_cases hlt : k < t.1.length
    · have hx' : t.1[k]? = some x := by rw [hm', getElem?_pre hlt] at hx; exact hx
      rw [B.keep k hlt, A.node k x hk hx']
      unfold numN
      rw [hm', numV_map_app (A.shut k x hk hx')]
    · exact B.node k x (by omega) hx
  · rw [B.keep k (by omega), A.keep k hk]
  · by_cases hlt : k < t.1.length
    · have hx' : t.1[k]? = some x := by rw [hm', getElem?_pre hlt] at hx; exact hx
      rcases A.led k x hk hx' with h | ⟨j, y, h1, h0, h2, h3⟩
      · exact .inl (by simp [h])
      · exact .inr ⟨j, y, h1, h0, by rw [hm', getElem?_pre (by omega)]; exact h2, h3⟩
    · rcases B.led k x (by omega) hx with h | ⟨j, y, h1, h0, h2, h3⟩
      · exact .inl (by simp [h])
      · exact .inr ⟨j, y, by omega, h0, h2, h3⟩

/-- What roots lead to, in the order in which it is met. -/
def metM (G : Gr) (roots : List Vl) : List Int := (fldM (valM G deep) roots ([], [])).2.1

end Go.Proofs.Ytjifdalflepcoac

namespace Go.Proofs.Ytjifdalflepcoac
set_option linter.unusedVariables false
set_option linter.unusedSimpArgs false

/-- Things of W stand in O at φ, and lead to the same. -/
structure Rep (O : Wo) (W : Wd) (φ : Int → Int) : Prop where
  ho : O.ok
  hw : W.ok
  ty : Tile O.ar O.ar.things.1 0 O.ar.yng
  tz : Tile O.ar O.ar.things.2 O.ar.nur O.ar.grn
  inj : ∀ i j, W.live i → W.live j → φ i = φ j → i = j
  onto : ∀ p, p ∈ O.ar.things.1 ∨ p ∈ O.ar.things.2 → ∃ i, W.live i ∧ φ i = p
  iny : ∀ i, W.live i → (W.th i).old = false → φ i ∈ O.ar.things.1
  ino : ∀ i, W.live i → (W.th i).old = true → φ i ∈ O.ar.things.2
  th : ∀ i, W.live i → O.ar.thing (φ i) = ((W.th i).k, ((W.th i).fs.length : Int), 0)
  fl : ∀ i, W.live i → ∀ (j : Nat) (v : Vl), (W.th i).fs[j]? = some v → O.ar.load (φ i + 1 + j) = encV φ v
  rt : O.rt = W.roots.map (encV φ)
  rg : O.rg = W.regs.map (encE φ)
  wt : O.wt = W.wait.map (encE φ)
  nur : (O.ar.nur : Int) = W.most
  len : (O.ar.ws.length : Int) = W.most + W.grow
  cl : O.cd.length = cardsN W.grow
  card : ∀ i, W.live i → (W.th i).old = true → ∀ v ∈ (W.th i).fs, v.1 = 3 → (W.th v.2).old = false → dirtyL O.ar.nur O.cd (φ i) = true

section
variable {O : Wo} {W : Wd} {φ : Int → Int}

theorem young_iff {A : Ar} {i : Int} : A.young i = true ↔ 0 ≤ i ∧ i < A.yng := by simp [Ar.young]
theorem old_iff {A : Ar} {i : Int} : A.old i = true ↔ (A.nur : Int) ≤ i ∧ i < A.grn := by simp [Ar.old]

theorem Tile.in_young {A : Ar} {l : List Int} (h : Tile A l 0 A.yng) {p : Int} (hp : p ∈ l) {j : Int} (h0 : 0 ≤ j) (h1 : j ≤ (A.thing p).2.1) : A.young (p + j) = true := by
  have := Tile.mem h p hp
  rw [young_iff]; omega

theorem Tile.in_old {A : Ar} {l : List Int} (h : Tile A l A.nur A.grn) {p : Int} (hp : p ∈ l) {j : Int} (h0 : 0 ≤ j) (h1 : j ≤ (A.thing p).2.1) : A.old (p + j) = true := by
  have := Tile.mem h p hp
  rw [old_iff]; omega

theorem Rep.young (R : Rep O W φ) {i : Int} (hi : W.live i) (ho : (W.th i).old = false) {j : Int} (h0 : 0 ≤ j) (h1 : j ≤ (W.th i).fs.length) : O.ar.young (φ i + j) = true :=
  R.ty.in_young (R.iny i hi ho) h0 (by rw [R.th i hi]; exact h1)

theorem Rep.old (R : Rep O W φ) {i : Int} (hi : W.live i) (ho : (W.th i).old = true) {j : Int} (h0 : 0 ≤ j) (h1 : j ≤ (W.th i).fs.length) : O.ar.old (φ i + j) = true :=
  R.tz.in_old (R.ino i hi ho) h0 (by rw [R.th i hi]; exact h1)

theorem not_both {A : Ar} (h : A.ok) {i : Int} (hy : A.young i = true) : A.old i = false := by
  have := h.h1
  rw [young_iff] at hy
  cases ho : A.old i
  · rfl
  · rw [old_iff] at ho; omega

theorem Rep.young_iff (R : Rep O W φ) {i : Int} (hi : W.live i) : O.ar.young (φ i) = true ↔ (W.th i).old = false := by
  constructor
  · intro h
    cases ho : (W.th i).old
    · rfl
    · have := R.old hi ho (j := 0) (by omega) (by omega)
      rw [Int.add_zero, not_both R.ho.ha h] at this; cases this
  · intro h
    have := R.young hi h (j := 0) (by omega) (by omega)
    rwa [Int.add_zero] at this

theorem Rep.old_iff (R : Rep O W φ) {i : Int} (hi : W.live i) : O.ar.old (φ i) = true ↔ (W.th i).old = true := by
  constructor
  · intro h
    cases ho : (W.th i).old
    · have := (R.young_iff hi).2 ho
      rw [not_both R.ho.ha this] at h; cases h
    · rfl
  · intro h
    have := R.old hi h (j := 0) (by omega) (by omega)
    rwa [Int.add_zero] at this

theorem Rep.use (R : Rep O W φ) {i : Int} (hi : W.live i) {j : Int} (h0 : 0 ≤ j) (h1 : j ≤ (W.th i).fs.length) : O.ar.inUse (φ i + j) = true := by
  unfold Ar.inUse
  rw [Bool.or_eq_true]
  cases ho : (W.th i).old
  · exact .inl (R.young hi ho h0 h1)
  · exact .inr (R.old hi ho h0 h1)

theorem Rep.place (R : Rep O W φ) {i : Int} (hi : W.live i) : 0 ≤ φ i ∧ φ i < 1280 ∧ φ i < O.ar.ws.length := by
  have := R.use hi (j := 0) (by omega) (by omega)
  rw [Int.add_zero] at this
  have := R.ho.ha.use_lt this
  have := R.ho.ha.h4
  omega

/-- Two in a list that goes upward. -/
theorem pairwise_two {l : List Int} {f : Int → Int} (h : l.Pairwise fun p q => p + 1 + f p ≤ q) {p q : Int} (hp : p ∈ l) (hq : q ∈ l) : p = q ∨ p + 1 + f p ≤ q ∨ q + 1 + f q ≤ p := by
  induction h with
  | nil => cases hp
  | cons h1 _ ih =>
    rcases List.mem_cons.1 hp with rfl | hp'
    · rcases List.mem_cons.1 hq with rfl | hq'
      · exact .inl rfl
      · exact .inr (.inl (h1 q hq'))
    · rcases List.mem_cons.1 hq with rfl | hq'
      · exact .inr (.inr (h1 p hp'))
      · exact ih hp' hq'

/-- Things stand apart. -/
theorem Rep.apart (R : Rep O W φ) {i j : Int} (hi : W.live i) (hj : W.live j) (h : i ≠ j) : φ i + 1 + (W.th i).fs.length ≤ φ j ∨ φ j + 1 + (W.th j).fs.length ≤ φ i := by
  have hne : φ i ≠ φ j := fun e => h (R.inj i j hi hj e)
  have h1 := R.ho.ha.h1
  have ti := R.th i hi; have tj := R.th j hj
  cases oi : (W.th i).old <;> cases oj : (W.th j).old
  · have := pairwise_two (f := fun p => (O.ar.thing p).2.1) R.ty.apart (R.iny i hi oi) (R.iny j hj oj)
    rw [ti, tj] at this
    dsimp only at this
    omega
  · have a := R.ty.mem _ (R.iny i hi oi); have b := R.tz.mem _ (R.ino j hj oj)
    rw [ti] at a
    dsimp only at a
    omega
  · have a := R.tz.mem _ (R.ino i hi oi); have b := R.ty.mem _ (R.iny j hj oj)
    rw [tj] at b
    dsimp only at b
    omega
  · have := pairwise_two (f := fun p => (O.ar.thing p).2.1) R.tz.apart (R.ino i hi oi) (R.ino j hj oj)
    rw [ti, tj] at this
    dsimp only at this
    omega

theorem Tile.nodup {A : Ar} {l : List Int} {a b : Int} (h : Tile A l a b) : l.Nodup := by
  refine List.Pairwise.imp ?_ h.apart
  intro p q hpq e
  have := A.thing_fields p
  omega

/-! What is seen. -/

theorem map_waits (h : ∀ i j, W.live i → W.live j → φ i = φ j → i = j) : ∀ (l : List (Int × Int)), (∀ e ∈ l, W.okE e) → ∀ i, W.live i → waitO (l.map (encE φ)) (4 * φ i + 1) = (waitAt l i).map fun x => 4 * φ x + 1
  | [], _, _, _ => rfl
  | e :: l, hl, i, hi => by
    have ih := map_waits h l (fun e he => hl e (by simp [he])) i hi
    have he := hl e (by simp)
    unfold waitO waitAt at *
    simp only [List.map_cons, List.filter_cons]
    by_cases c : e.1 = i
    · have c' : (encE φ e).1 = 4 * φ i + 1 := by simp [encE, c]
      rw [if_pos (by simpa using c'), if_pos (by simpa using c)]
      simp only [List.map_cons, ih]
      simp [encE]
    · have c' : ¬ (encE φ e).1 = 4 * φ i + 1 := by
        intro h'
        simp only [encE] at h'
        exact c (h _ _ he.1 hi (by omega))
      rw [if_neg (by simpa using c'), if_neg (by simpa using c)]
      exact ih

theorem Rep.fields (R : Rep O W φ) {i : Int} (hi : W.live i) : O.ar.fields (φ i) = (W.th i).fs.map (encV φ) := by
  unfold Ar.fields
  rw [R.th i hi]
  apply List.ext_getElem
  · simp
  · intro k h1 h2
    simp only [List.length_map, List.length_range] at h1 h2
    simp only [List.getElem_map, List.getElem_range]
    exact R.fl i hi k _ (List.getElem?_eq_getElem (by simpa using h2))

theorem Rep.iso (R : Rep O W φ) : Iso W.gr O.gr W.live φ := by
  refine ⟨R.inj, fun i hi => ?_, fun i hi v hv h3 => ?_⟩
  · unfold Wo.gr Wd.gr
    dsimp only
    rw [R.th i hi, R.fields hi]
    dsimp only
    refine Prod.ext rfl ?_
    dsimp only
    rw [List.map_append, List.map_map]
    congr 1
    · refine List.map_congr_left fun v hv => ?_
      exact valO_encV (R.hw.tv i hi v hv)
    · by_cases hk : (W.th i).k = 5
      · rw [if_pos hk, if_pos hk, R.wt, map_waits R.inj W.wait R.hw.wv i hi, List.map_map, List.map_map]
        refine List.map_congr_left fun x hx => ?_
        simp only [Function.comp]
        unfold valO reV
        rw [if_pos (by omega), if_pos rfl]
        show ((3 : Int), (4 * φ x + 1) / 4) = (3, φ x)
        rw [show (4 * φ x + 1) / 4 = φ x by omega]
      · rw [if_neg hk, if_neg hk]; rfl
  · unfold Wd.gr at hv
    dsimp only at hv
    rcases List.mem_append.1 hv with h1 | h1
    · exact Wd.okV_ref (R.hw.tv i hi v h1) h3
    · split at h1
      · obtain ⟨x, hx, rfl⟩ := List.mem_map.1 h1
        unfold waitAt at hx
        obtain ⟨e, he, rfl⟩ := List.mem_map.1 hx
        exact (R.hw.wv e (List.mem_filter.1 he).1).2.2
      · cases h1

theorem Rep.view (R : Rep O W φ) : O.view = W.view := by
  unfold Wo.view Wd.view
  rw [R.rt, List.map_map]
  have : W.roots.map (valO ∘ encV φ) = W.roots.map (reV φ) := List.map_congr_left fun v hv => valO_encV (R.hw.rv v hv)
  rw [this]
  exact viewM_iso R.iso (fun u hu h3 => Wd.okV_ref (R.hw.rv u hu) h3)

/-! How many words. -/

/-- The live things that are old, or young. -/
def Wd.idx (W : Wd) (old : Bool) : List Int := ((List.range W.T.length).map (Int.ofNat ·)).filter fun i => !(W.th i).dead && ((W.th i).old == old)

theorem Wd.mem_idx {W : Wd} {b : Bool} {i : Int} : i ∈ W.idx b ↔ W.live i ∧ (W.th i).old = b := by
  unfold Wd.idx Wd.live
  simp only [List.mem_filter, List.mem_map, List.mem_range, Bool.and_eq_true, Bool.not_eq_true', beq_iff_eq]
  constructor
  · rintro ⟨⟨n, hn, rfl⟩, h1, h2⟩
    exact ⟨⟨Int.natCast_nonneg n, Int.ofNat_lt.2 hn, h1⟩, h2⟩
  · rintro ⟨⟨h0, h1, h2⟩, h3⟩
    have h4 : i.toNat < W.T.length := by omega
    have h5 : ((i.toNat : Nat) : Int) = i := by omega
    exact ⟨⟨i.toNat, h4, h5⟩, h2, h3⟩

theorem nodup_range_int (n : Nat) : ((List.range n).map (Int.ofNat ·)).Nodup := by
  rw [List.Nodup, List.pairwise_map]
  refine List.Pairwise.imp ?_ (List.nodup_range (n := n))
  intro a b h e
  exact h (Int.ofNat.inj e)

theorem Wd.idx_nodup (W : Wd) (b : Bool) : (W.idx b).Nodup := (nodup_range_int _).filter _

theorem sum_perm {l m : List Int} (h : l.Perm m) : l.sum = m.sum := by
  induction h with
  | nil => rfl
  | cons x _ ih => simp [ih]
  | swap x y l => simp; omega
  | trans _ _ ih1 ih2 => exact ih1.trans ih2

theorem sum_nonneg {l : List Int} (h : ∀ x ∈ l, 0 ≤ x) : 0 ≤ l.sum := by
  induction l with
  | nil => simp
  | cons a l ih => simp only [List.sum_cons]; have := h a (by simp); have := ih (fun x hx => h x (by simp [hx])); omega

/-- A part of a list without doubles has no more. -/
theorem sum_sub {f : Int → Int} (h0 : ∀ i, 0 ≤ f i) : ∀ {l m : List Int}, l.Nodup → (∀ i ∈ l, i ∈ m) → (l.map f).sum ≤ (m.map f).sum
  | [], m, _, _ => by simpa using sum_nonneg (l := m.map f) (fun x hx => by obtain ⟨i, _, rfl⟩ := List.mem_map.1 hx; exact h0 i)
  | a :: l, m, hn, hs => by
    have ha := hs a (by simp)
    have hp : m.Perm (a :: m.erase a) := List.perm_cons_erase ha
    rw [sum_perm (hp.map f)]
    simp only [List.map_cons, List.sum_cons]
    rw [List.nodup_cons] at hn
    have := sum_sub h0 (l := l) (m := m.erase a) hn.2 (fun i hi => (List.mem_erase_of_ne (fun e => hn.1 (by rw [← e]; exact hi))).2 (hs i (by simp [hi])))
    omega

theorem sum_filter {p : Int → Bool} {f : Int → Int} : ∀ (l : List Int), ((l.filter p).map f).sum = (l.map fun i => if p i then f i else 0).sum
  | [] => rfl
  | a :: l => by
    simp only [List.filter_cons, List.map_cons, List.sum_cons]
    cases h : p a
    · simp [sum_filter l]
    · simp [sum_filter l]

theorem sumW_range (W : Wd) (p : Th → Bool) : sumW W.T p = (((List.range W.T.length).map (Int.ofNat ·)).map fun i => if p (W.th i) then (W.th i).words else 0).sum := by
  unfold sumW
  congr 1
  apply List.ext_getElem
  · simp
  · intro k h1 h2
    simp only [List.length_map] at h1
    simp only [List.getElem_map, List.getElem_range]
    have e : W.th (Int.ofNat k) = W.T[k] := by
      unfold Wd.th
      rw [List.getD_eq_getElem?_getD, show (Int.ofNat k).toNat = k from rfl, List.getElem?_eq_getElem h1]; rfl
    rw [e]

theorem Wd.sum_idx (W : Wd) (b : Bool) : ((W.idx b).map fun i => (W.th i).words).sum = sumW W.T fun t => !t.dead && (t.old == b) := by
  rw [sumW_range]
  unfold Wd.idx
  rw [sum_filter]

theorem map_nodup {φ : Int → Int} {l : List Int} (h : l.Nodup) (inj : ∀ i ∈ l, ∀ j ∈ l, φ i = φ j → i = j) : (l.map φ).Nodup := by
  rw [List.Nodup, List.pairwise_map]
  refine List.Pairwise.imp_of_mem ?_ h
  intro a b ha hb hne e
  exact hne (inj a ha b hb e)

theorem Rep.perm_y (R : Rep O W φ) : O.ar.things.1.Perm ((W.idx false).map φ) := by
  rw [List.perm_ext_iff_of_nodup R.ty.nodup (map_nodup (W.idx_nodup _) (fun i hi j hj e => R.inj i j (Wd.mem_idx.1 hi).1 (Wd.mem_idx.1 hj).1 e))]
  intro p
  constructor
  · intro hp
    obtain ⟨i, hi, rfl⟩ := R.onto p (.inl hp)
    have := R.ty.in_young hp (j := 0) (by omega) (R.ho.ha |> fun _ => (O.ar.thing_fields (φ i)).1)
    rw [Int.add_zero] at this
    exact List.mem_map.2 ⟨i, Wd.mem_idx.2 ⟨hi, (R.young_iff hi).1 this⟩, rfl⟩
  · intro hp
    obtain ⟨i, hi, rfl⟩ := List.mem_map.1 hp
    exact R.iny i (Wd.mem_idx.1 hi).1 (Wd.mem_idx.1 hi).2

theorem Rep.perm_o (R : Rep O W φ) : O.ar.things.2.Perm ((W.idx true).map φ) := by
  rw [List.perm_ext_iff_of_nodup R.tz.nodup (map_nodup (W.idx_nodup _) (fun i hi j hj e => R.inj i j (Wd.mem_idx.1 hi).1 (Wd.mem_idx.1 hj).1 e))]
  intro p
  constructor
  · intro hp
    obtain ⟨i, hi, rfl⟩ := R.onto p (.inr hp)
    have := R.tz.in_old hp (j := 0) (by omega) (O.ar.thing_fields (φ i)).1
    rw [Int.add_zero] at this
    exact List.mem_map.2 ⟨i, Wd.mem_idx.2 ⟨hi, (R.old_iff hi).1 this⟩, rfl⟩
  · intro hp
    obtain ⟨i, hi, rfl⟩ := List.mem_map.1 hp
    exact R.ino i (Wd.mem_idx.1 hi).1 (Wd.mem_idx.1 hi).2

theorem Rep.sy (R : Rep O W φ) : (O.ar.yng : Int) = W.young := by
  have h1 := R.ty.sum
  rw [sum_perm (R.perm_y.map _), List.map_map] at h1
  have e : (W.idx false).map ((fun p => 1 + (O.ar.thing p).2.1) ∘ φ) = (W.idx false).map fun i => (W.th i).words :=
    List.map_congr_left fun i hi => by simp only [Function.comp]; rw [R.th i (Wd.mem_idx.1 hi).1]; rfl
  rw [e, Wd.sum_idx] at h1
  unfold Wd.young
  rw [h1]
  have : (fun t : Th => !t.dead && (t.old == false)) = fun t : Th => !t.dead && !t.old := by funext t; cases t.old <;> rfl
  rw [this]; omega

theorem Rep.so (R : Rep O W φ) : (O.ar.grn : Int) - O.ar.nur = W.olds := by
  have h1 := R.tz.sum
  rw [sum_perm (R.perm_o.map _), List.map_map] at h1
  have e : (W.idx true).map ((fun p => 1 + (O.ar.thing p).2.1) ∘ φ) = (W.idx true).map fun i => (W.th i).words :=
    List.map_congr_left fun i hi => by simp only [Function.comp]; rw [R.th i (Wd.mem_idx.1 hi).1]; rfl
  rw [e, Wd.sum_idx] at h1
  unfold Wd.olds
  rw [h1]
  have : (fun t : Th => !t.dead && (t.old == true)) = fun t : Th => !t.dead && t.old := by funext t; cases t.old <;> rfl
  rw [this]; omega

end
end Go.Proofs.Ytjifdalflepcoac

namespace Go.Proofs.Ytjifdalflepcoac
set_option linter.unusedVariables false
set_option linter.unusedSimpArgs false

section
variable {O : Wo} {W : Wd} {φ ψ : Int → Int}

theorem Tile.things {A : Ar} (h : A.ok) {Y Z : List Int} (hy : Tile A Y 0 A.yng) (hz : Tile A Z A.nur A.grn) : A.things = (Y, Z) := by
  have := h.h1; have := h.h2; have := h.h3; have := h.h4
  unfold Ar.things
  rw [hy.list (by omega), hz.list (by omega)]

theorem encV_congr {v : Vl} (h : v.1 = 3 → ψ v.2 = φ v.2) : encV ψ v = encV φ v := by
  unfold encV
  by_cases h3 : v.1 = 3
  · rw [if_pos h3, if_pos h3, h h3]
  · rw [if_neg h3, if_neg h3]

theorem encV_R64 (R : Rep O W φ) {v : Vl} (hv : W.okV v) : R64 (encV φ v) := by
  unfold R64
  rcases hv with h | h | h | h
  · have e : encV φ v = 2 := by simp [encV, h.1]
    rw [e]; decide
  · have e : encV φ v = 4 * v.2 := by simp [encV, h.1]
    have := h.2
    unfold big at this
    rw [e]; omega
  · have e : encV φ v = 3 := by simp [encV, h.1]
    rw [e]; decide
  · rw [encV_ref φ h.1]
    have := R.place h.2
    omega

theorem Rep.new {n o : Int} (h : Ar.fits n o = true) : Rep (Wo.new n o) (Wd.new n o) id := by
  have h' := h
  simp [Ar.fits] at h'
  have no : ∀ i, ¬ (Wd.new n o).live i := fun i hi => by have := hi.2.1; have := hi.1; simp [Wd.new] at *; omega
  have hok : (Wo.new n o).ok := by
    refine ⟨Ar.new_ok h, by simp [Wo.new], fun x hx => ?_, fun e he => by simp [Wo.new] at he, fun e he => by simp [Wo.new] at he, by simp [Wo.new], ?_⟩
    · simp [Wo.new] at hx; subst hx; unfold R64; omega
    · simp [Wo.new, cardsN]; omega
  have t1 : Tile (Wo.new n o).ar [] 0 (Wo.new n o).ar.yng := by simp [Wo.new, Ar.new, Tile]
  have t2 : Tile (Wo.new n o).ar [] (Wo.new n o).ar.nur (Wo.new n o).ar.grn := by simp [Wo.new, Ar.new, Tile]
  have ht := Tile.things hok.ha t1 t2
  refine ⟨hok, Wd.new_ok (by omega) (by omega) (by omega) (by omega), by rw [ht]; exact t1, by rw [ht]; exact t2, fun i j hi => (no i hi).elim, fun p hp => ?_, fun i hi => (no i hi).elim, fun i hi => (no i hi).elim, fun i hi => (no i hi).elim, fun i hi => (no i hi).elim, ?_, rfl, rfl, ?_, ?_, ?_, fun i hi => (no i hi).elim⟩
  · rw [ht] at hp; simp at hp
  · simp [Wo.new, Wd.new, encV]
  · simp [Wo.new, Ar.new, Wd.new]; omega
  · simp [Wo.new, Ar.new, Wd.new]; omega
  · simp [Wo.new, Wd.new]

theorem Rep.setR (R : Rep O W φ) {v : Vl} (hv : W.okV v) (r : Int) : Rep { O with rt := O.rt.set r.toNat (encV φ v) } (W.setR r v) φ := by
  refine ⟨⟨R.ho.ha, by simpa using R.ho.h12, fun x hx => ?_, R.ho.hg, R.ho.hw, R.ho.hq, R.ho.hc⟩, R.hw.setR hv r, R.ty, R.tz, R.inj, R.onto, R.iny, R.ino, R.th, R.fl, ?_, R.rg, R.wt, R.nur, R.len, R.cl, R.card⟩
  · rcases List.mem_or_eq_of_mem_set hx with h1 | rfl
    · exact R.ho.hR x h1
    · exact encV_R64 R hv
  · show O.rt.set r.toNat (encV φ v) = (W.roots.set r.toNat v).map (encV φ)
    rw [R.rt, List.map_set]

/-- A new thing's place. -/
def extF (n y : Int) (φ : Int → Int) (i : Int) : Int := if i = n then y else φ i

theorem thing_of_load {A B : Ar} {p : Int} (h : B.load p = A.load p) : B.thing p = A.thing p := by unfold Ar.thing; rw [h]

/-- A new thing stands behind the young ones. -/
theorem Rep.put (R : Rep O W φ) {A' : Ar} {k r : Int} {l : List Vl} (hA : A'.ok) (h1 : A'.nur = O.ar.nur) (h2 : A'.grn = O.ar.grn) (h3 : A'.ws.length = O.ar.ws.length) (h4 : (A'.yng : Int) = O.ar.yng + (1 + l.length))
    (hq : ∀ q, O.ar.inUse q = true → A'.load q = O.ar.load q) (ht : A'.thing O.ar.yng = (k, (l.length : Int), 0)) (hl : ∀ (j : Nat) (v : Vl), l[j]? = some v → A'.load (O.ar.yng + 1 + j) = encV φ v)
    (hok : ∀ v ∈ l, W.okV v) (hf : fitsW k l.length = true) :
    Rep { O with ar := A', rt := O.rt.set r.toNat (4 * O.ar.yng + 1) } (W.put r k l) (extF W.T.length O.ar.yng φ) := by
  have hroom : 1 + (l.length : Int) ≤ W.most - W.young := by
    have := hA.h1; have := R.sy; have := R.nur; omega
  have old : ∀ {i}, W.live i → ¬ i = (W.T.length : Int) := fun hi e => by have := hi.2.1; omega
  have fe : ∀ {i}, W.live i → (extF W.T.length O.ar.yng φ) i = φ i := fun hi => if_neg (old hi)
  have fn : (extF W.T.length O.ar.yng φ) (W.T.length : Int) = O.ar.yng := if_pos rfl
  have ee : ∀ {v}, W.okV v → encV (extF W.T.length O.ar.yng φ) v = encV φ v := fun hv => encV_congr (fun h3 => fe (Wd.okV_ref hv h3))
  have thp : ∀ p, O.ar.inUse p = true → A'.thing p = O.ar.thing p := fun p hp => thing_of_load (hq p hp)
  have tho : ∀ {i}, W.live i → (W.put r k l).th i = W.th i := fun hi => Wd.th_put hi.1 hi.2.1
  have useY : ∀ p ∈ O.ar.things.1, O.ar.inUse p = true := fun p hp => by
    have := R.ty.in_young hp (j := 0) (by omega) (O.ar.thing_fields p).1
    rw [Int.add_zero] at this; unfold Ar.inUse; rw [this]; rfl
  have useO : ∀ p ∈ O.ar.things.2, O.ar.inUse p = true := fun p hp => by
    have := R.tz.in_old hp (j := 0) (by omega) (O.ar.thing_fields p).1
    rw [Int.add_zero] at this; unfold Ar.inUse; rw [this]; simp
  have t1 : Tile A' (O.ar.things.1 ++ [(O.ar.yng : Int)]) 0 A'.yng := by
    refine Tile.app (Tile.congr (fun p hp => thp p (useY p hp)) R.ty) ⟨rfl, by rw [ht], ?_⟩
    rw [ht]
    show (O.ar.yng : Int) + 1 + l.length = A'.yng
    omega
  have t2 : Tile A' O.ar.things.2 A'.nur A'.grn := by rw [h1, h2]; exact Tile.congr (fun p hp => thp p (useO p hp)) R.tz
  have hth := Tile.things hA t1 t2
  have nl : (W.put r k l).live W.T.length := by
    refine ⟨by omega, by simp [Wd.put]; omega, ?_⟩
    rw [Wd.th_put_new]
  have lt : ∀ {i}, W.live i → φ i ≠ O.ar.yng := fun {i} hi e => by
    have := R.use hi (j := 0) (by omega) (by omega)
    rw [Int.add_zero] at this
    unfold Ar.inUse at this
    have h1' := R.ho.ha.h1; have h5 := hA.h1; rw [h1] at h5
    rw [Bool.or_eq_true, Go.Proofs.Ytjifdalflepcoac.young_iff, Go.Proofs.Ytjifdalflepcoac.old_iff] at this
    omega
  refine ⟨⟨hA, by simpa using R.ho.h12, fun x hx => ?_, R.ho.hg, R.ho.hw, R.ho.hq, R.ho.hc⟩, R.hw.put hf hok hroom, by rw [hth]; exact t1, by rw [hth]; exact t2, fun i j hi hj e => ?_, fun p hp => ?_, fun i hi ho => ?_, fun i hi ho => ?_, fun i hi => ?_, fun i hi j v hv => ?_, ?_, ?_, ?_, ?_, ?_, R.cl, fun i hi ho v hv h3' hy => ?_⟩
  · rcases List.mem_or_eq_of_mem_set hx with h5 | rfl
    · exact R.ho.hR x h5
    · have := R.ho.ha.h1; have := R.ho.ha.h2; have := R.ho.ha.h3; have := R.ho.ha.h4
      unfold R64; omega
  · rcases Wd.put_live hi with hi | rfl <;> rcases Wd.put_live hj with hj | rfl
    · rw [fe hi, fe hj] at e; exact R.inj i j hi hj e
    · rw [fe hi, fn] at e; exact (lt hi e).elim
    · rw [fe hj, fn] at e; exact (lt hj e.symm).elim
    · rfl
  · rw [hth] at hp
    dsimp only at hp
    rw [List.mem_append, List.mem_singleton] at hp
    rcases hp with (h5 | rfl) | h5
    · obtain ⟨i, hi, rfl⟩ := R.onto p (.inl h5); exact ⟨i, Wd.live_put hi, fe hi⟩
    · exact ⟨_, nl, fn⟩
    · obtain ⟨i, hi, rfl⟩ := R.onto p (.inr h5); exact ⟨i, Wd.live_put hi, fe hi⟩
  · rw [hth]
    rcases Wd.put_live hi with hi | rfl
    · rw [tho hi] at ho; rw [fe hi]; exact List.mem_append_left _ (R.iny i hi ho)
    · rw [fn]; simp
  · rw [hth]
    rcases Wd.put_live hi with hi | rfl
    · rw [tho hi] at ho; rw [fe hi]; exact R.ino i hi ho
    · rw [Wd.th_put_new] at ho; cases ho
  · rcases Wd.put_live hi with hi | rfl
    · have := R.use hi (j := 0) (by omega) (by omega)
      rw [Int.add_zero] at this
      rw [fe hi, tho hi]; exact (thp _ this).trans (R.th i hi)
    · rw [fn, Wd.th_put_new]; exact ht
  · rcases Wd.put_live hi with hi | rfl
    · rw [tho hi] at hv
      have hj : j < (W.th i).fs.length := (List.getElem?_eq_some_iff.1 hv).1
      have := R.use hi (j := 1 + j) (by omega) (by omega)
      rw [← Int.add_assoc] at this
      rw [fe hi, ee (R.hw.tv i hi v (List.mem_of_getElem? hv))]
      exact (hq _ this).trans (R.fl i hi j v hv)
    · rw [Wd.th_put_new] at hv
      rw [fn, ee (hok v (List.mem_of_getElem? hv))]
      exact hl j v hv
  · show O.rt.set r.toNat (4 * O.ar.yng + 1) = (W.roots.set r.toNat (refV W.T.length)).map _
    rw [List.map_set, R.rt]
    congr 1
    · exact List.map_congr_left fun v hv => (ee (R.hw.rv v hv)).symm
    · show _ = encV _ (3, (W.T.length : Int))
      rw [encV_ref _ rfl]; dsimp only; rw [fn]
  · show O.rg = W.regs.map _
    rw [R.rg]
    exact List.map_congr_left fun e he => by have := R.hw.gv e he; unfold encE; rw [fe this.1, fe this.2.2]
  · show O.wt = W.wait.map _
    rw [R.wt]
    exact List.map_congr_left fun e he => by have := R.hw.wv e he; unfold encE; rw [fe this.1, fe this.2.2]
  · show (A'.nur : Int) = W.most; rw [h1]; exact R.nur
  · show (A'.ws.length : Int) = W.most + W.grow; rw [h3]; exact R.len
  · show dirtyL A'.nur O.cd _ = true
    rcases Wd.put_live hi with hi | rfl
    · rw [tho hi] at ho hv
      have hl3 := Wd.okV_ref (R.hw.tv i hi v hv) h3'
      rw [tho hl3] at hy
      rw [fe hi, h1]
      exact R.card i hi ho v hv h3' hy
    · rw [Wd.th_put_new] at ho; cases ho

theorem lay_head {l m : List Int} {i : Nat} {x : Int} (h : i + (x :: m).length ≤ l.length) : (lay l i (x :: m)).getD i 0 = x := by
  rw [lay_getD h, if_pos ⟨Nat.le_refl _, by simp⟩]; simp

/-- What a new thing changes. -/
theorem Ar.make_loads {A : Ar} (hA : A.ok) {k f : Int} (h : fitsW k f = true ∧ 1 + f ≤ (A.nur : Int) - A.yng) :
    (∀ q, A.inUse q = true → (A.make k f).2.load q = A.load q) ∧ (A.make k f).2.load A.yng = 16 * f + k ∧ (∀ j : Int, 0 ≤ j → j < f → (A.make k f).2.load (A.yng + 1 + j) = 2) ∧ ((A.make k f).2.yng : Int) = A.yng + (1 + f) ∧
    (A.make k f).2.nur = A.nur ∧ (A.make k f).2.grn = A.grn ∧ (A.make k f).2.ws.length = A.ws.length := by
  have hf := fitsW_spec h.1
  have hl := thingW_length (k := k) hf.2.2.1
  have a1 := hA.h1; have a2 := hA.h2; have a3 := hA.h3
  have hle : A.yng + (thingW k f).length ≤ A.ws.length := by rw [hl]; omega
  rw [Ar.make_yes h]
  have hload : ∀ q : Int, 0 ≤ q → q < A.yng + (1 + f) → Ar.load { A with yng := A.yng + (1 + f).toNat, ws := lay A.ws A.yng (thingW k f) } q = (lay A.ws A.yng (thingW k f)).getD q.toNat 0 := by
    intro q h0 h1
    unfold Ar.load
    rw [if_pos]
    unfold Ar.inUse
    rw [Bool.or_eq_true]
    left
    rw [young_iff]
    refine ⟨h0, ?_⟩
    show q < ((A.yng + (1 + f).toNat : Nat) : Int)
    omega
  refine ⟨fun q hq => ?_, ?_, fun j h0 h1 => ?_, ?_, rfl, rfl, ?_⟩
  · have hu : Ar.inUse { A with yng := A.yng + (1 + f).toNat, ws := lay A.ws A.yng (thingW k f) } q = true := by
      unfold Ar.inUse at *
      rw [Bool.or_eq_true] at *
      rw [young_iff, old_iff] at *
      dsimp only
      omega
    unfold Ar.load
    rw [hu, hq]
    simp only [if_true]
    rw [lay_getD hle, if_neg]
    rw [hl]
    unfold Ar.inUse at hq
    rw [Bool.or_eq_true, young_iff, old_iff] at hq
    omega
  · rw [hload _ (by omega) (by omega)]
    unfold thingW at *
    rw [Int.toNat_natCast]
    exact lay_head hle
  · rw [hload _ (by omega) (by omega), lay_getD hle, if_pos (by rw [hl]; omega)]
    unfold thingW
    rw [show ((A.yng : Int) + 1 + j).toNat - A.yng = j.toNat + 1 by omega, List.getD_cons_succ]
    simp only [List.getD_eq_getElem?_getD]
    rw [List.getElem?_replicate, if_pos (by omega)]; rfl
  · dsimp only; omega
  · dsimp only; exact lay_length hle

theorem partsW_of {k f : Int} (h : fitsW k f = true) : partsW (16 * f + k) = (k, f, 0) := by
  have hf := fitsW_spec h
  unfold partsW
  rw [show (16 * f + k) % 16 = k by omega, show (16 * f + k) / 16 = f by omega, if_pos h]

/-! Fields. -/

theorem dirtyL_iff {base : Int} {l : List Bool} {p : Int} : dirtyL base l p = true ↔ base ≤ p ∧ (p - base) / 8 < l.length ∧ l.getD ((p - base) / 8).toNat false = true := by
  unfold dirtyL
  rw [Bool.and_eq_true, decide_eq_true_eq]
  unfold cardOf
  by_cases c : base ≤ p ∧ (p - base) / 8 < l.length
  · rw [if_pos c]
    constructor
    · rintro ⟨_, h⟩; exact ⟨c.1, c.2, h⟩
    · rintro ⟨_, _, h⟩; exact ⟨by omega, h⟩
  · rw [if_neg c]
    constructor
    · rintro ⟨h, _⟩; omega
    · rintro ⟨h1, h2, _⟩; exact absurd ⟨h1, h2⟩ c

theorem dirtyL_mark {base : Int} {l : List Bool} {p : Int} (q : Int) (h : dirtyL base l p = true) : dirtyL base (markL base l q) p = true := by
  rw [dirtyL_iff] at *
  rw [markL_length]
  refine ⟨h.1, h.2.1, ?_⟩
  unfold markL
  split
  · rw [List.getD_eq_getElem?_getD, List.getElem?_set]
    split
    · split
      · rfl
      · rename_i h1 h2; omega
    · rw [← List.getD_eq_getElem?_getD]; exact h.2.2
  · exact h.2.2

theorem dirtyL_self {base : Int} {l : List Bool} {p : Int} (h1 : base ≤ p) (h2 : (p - base) / 8 < l.length) : dirtyL base (markL base l p) p = true := by
  have hc : cardOf base l.length p = (p - base) / 8 := by unfold cardOf; rw [if_pos ⟨h1, h2⟩]
  rw [dirtyL_iff, markL_length]
  refine ⟨h1, h2, ?_⟩
  unfold markL
  rw [hc, if_pos (by omega), List.getD_eq_getElem?_getD, List.getElem?_set, if_pos rfl, if_pos (by omega)]; rfl

theorem Rep.thingAt (R : Rep O W φ) {v : Vl} (hv : W.okV v) : O.ar.thingAt (encV φ v) = if v.1 = 3 then (φ v.2, (W.th v.2).k, ((W.th v.2).fs.length : Int), 0) else (0, 0, 0, 2) := by
  unfold Ar.thingAt
  by_cases h3 : v.1 = 3
  · rw [if_pos h3]
    have e := encV_ref φ h3
    have e4 : encV φ v / 4 = φ v.2 := by rw [e]; omega
    rw [e4, R.th _ (Wd.okV_ref hv h3), if_pos ⟨(encV_mod hv).2 h3, rfl⟩]
  · rw [if_neg h3, if_neg (fun h => h3 ((encV_mod hv).1 h.1))]

theorem Rep.get (R : Rep O W φ) {v : Vl} (hv : W.okV v) (i : Int) : O.ar.get (encV φ v) i =
    if v.1 ≠ 3 ∨ (W.th v.2).k = 5 then (0, 2) else if i < 0 ∨ ((W.th v.2).fs.length : Int) ≤ i then (0, 1) else (encV φ ((W.th v.2).fs.getD i.toNat (0, 0)), 0) := by
  unfold Ar.get
  rw [R.thingAt hv]
  by_cases h3 : v.1 = 3
  · rw [if_pos h3]
    dsimp only
    by_cases hk : (W.th v.2).k = 5
    · rw [if_pos (.inr hk), if_pos (.inr hk)]
    · have c0 : ¬ ((0 : Int) ≠ 0 ∨ (W.th v.2).k = 5) := fun h => by rcases h with h | h; exact h rfl; exact hk h
      have c1 : ¬ (v.1 ≠ 3 ∨ (W.th v.2).k = 5) := fun h => by rcases h with h | h; exact h h3; exact hk h
      rw [if_neg c0, if_neg c1]
      by_cases hi : i < 0 ∨ ((W.th v.2).fs.length : Int) ≤ i
      · rw [if_pos hi, if_pos hi]
      · rw [if_neg hi, if_neg hi]
        have hlt : i.toNat < (W.th v.2).fs.length := by omega
        have := R.fl v.2 (Wd.okV_ref hv h3) i.toNat _ (List.getElem?_eq_getElem hlt)
        rw [show ((i.toNat : Nat) : Int) = i by omega] at this
        have e4 : encV φ v / 4 = φ v.2 := by rw [encV_ref φ h3]; omega
        rw [e4, this, List.getD_eq_getElem?_getD, List.getElem?_eq_getElem hlt]; rfl
  · rw [if_neg h3, if_pos (.inl (by decide)), if_pos (.inl h3)]

/-- A field is another one. -/
theorem Rep.setF (R : Rep O W φ) {a i : Int} {u : Vl} (ha : W.live a) (h0 : 0 ≤ i) (h1 : i < (W.th a).fs.length) (hu : W.okV u) {cd : List Bool}
    (hc1 : cd.length = O.cd.length) (hc2 : ∀ p, dirtyL O.ar.nur O.cd p = true → dirtyL O.ar.nur cd p = true) (hc3 : u.1 = 3 → (W.th u.2).old = false → (W.th a).old = true → dirtyL O.ar.nur cd (φ a) = true) :
    Rep { O with ar := O.ar.store (φ a + 1 + i) (encV φ u), cd := cd } (W.setF a ((W.th a).fs.set i.toNat u)) φ := by
  have hlv := fun j => Wd.setF_live (fs := (W.th a).fs.set i.toNat u) ha j
  have hth : ∀ {j}, W.live j → (W.setF a ((W.th a).fs.set i.toNat u)).th j = if j = a then { W.th a with fs := (W.th a).fs.set i.toNat u } else W.th j := fun hj => Wd.th_setF hj.1 ha
  have hold : ∀ {j}, W.live j → ((W.setF a ((W.th a).fs.set i.toNat u)).th j).old = (W.th j).old := fun hj => by
    rw [hth hj]; split
    · rename_i e; subst e; rfl
    · rfl
  have huse : O.ar.inUse (φ a + 1 + i) = true := by rw [Int.add_assoc]; exact R.use ha (by omega) (by omega)
  have hload := fun q => Ar.load_store R.ho.ha (φ a + 1 + i) q (encV φ u)
  have hst : ∀ j, W.live j → (O.ar.store (φ a + 1 + i) (encV φ u)).thing (φ j) = O.ar.thing (φ j) := fun j hj => by
    refine thing_of_load ?_
    rw [hload, if_neg]
    rintro ⟨e, _⟩
    by_cases ej : j = a
    · subst ej; omega
    · have := R.apart hj ha ej
      omega
  have hok : (O.ar.store (φ a + 1 + i) (encV φ u)).ok := R.ho.ha.store _ _ (encV_R64 R hu)
  have tp : ∀ p, p ∈ O.ar.things.1 ∨ p ∈ O.ar.things.2 → (O.ar.store (φ a + 1 + i) (encV φ u)).thing p = O.ar.thing p := fun p hp => by
    obtain ⟨j, hj, rfl⟩ := R.onto p hp
    exact hst j hj
  have t1 : Tile (O.ar.store (φ a + 1 + i) (encV φ u)) O.ar.things.1 0 (O.ar.store (φ a + 1 + i) (encV φ u)).yng := by
    rw [Ar.store_yng]; exact Tile.congr (fun p hp => tp p (.inl hp)) R.ty
  have t2 : Tile (O.ar.store (φ a + 1 + i) (encV φ u)) O.ar.things.2 (O.ar.store (φ a + 1 + i) (encV φ u)).nur (O.ar.store (φ a + 1 + i) (encV φ u)).grn := by
    rw [Ar.store_nur, Ar.store_grn]; exact Tile.congr (fun p hp => tp p (.inr hp)) R.tz
  have hthi := Tile.things hok t1 t2
  refine ⟨⟨hok, R.ho.h12, R.ho.hR, R.ho.hg, R.ho.hw, R.ho.hq, by show cd.length ≤ 1000; rw [hc1]; exact R.ho.hc⟩, R.hw.setF ha (by simp) (fun v hv => ?_), by rw [hthi]; exact t1, by rw [hthi]; exact t2,
    fun j k hj hk e => R.inj j k ((hlv j).1 hj) ((hlv k).1 hk) e, fun p hp => ?_, fun j hj ho => ?_, fun j hj ho => ?_, fun j hj => ?_, fun j hj n v hv => ?_, R.rt, R.rg, R.wt, ?_, ?_, by show cd.length = _; rw [hc1]; exact R.cl, fun j hj ho v hv h3 hy => ?_⟩
  · rcases List.mem_or_eq_of_mem_set hv with h5 | rfl
    · exact R.hw.tv a ha v h5
    · exact hu
  · rw [hthi] at hp
    obtain ⟨j, hj, e⟩ := R.onto p hp
    exact ⟨j, (hlv j).2 hj, e⟩
  · rw [hthi]
    have hj' := (hlv j).1 hj
    rw [hold hj'] at ho
    exact R.iny j hj' ho
  · rw [hthi]
    have hj' := (hlv j).1 hj
    rw [hold hj'] at ho
    exact R.ino j hj' ho
  · have hj' := (hlv j).1 hj
    show (O.ar.store _ _).thing (φ j) = _
    rw [hst j hj', R.th j hj', hth hj']
    split
    · rename_i e; subst e; simp
    · rfl
  · have hj' := (hlv j).1 hj
    rw [hth hj'] at hv
    show (O.ar.store _ _).load _ = _
    rw [hload]
    by_cases e : j = a
    · subst e
      rw [if_pos rfl] at hv
      dsimp only at hv
      rw [List.getElem?_set] at hv
      by_cases en : i.toNat = n
      · rw [if_pos en] at hv
        subst en
        rw [if_pos (by omega)] at hv
        cases hv
        rw [if_pos ⟨by omega, huse⟩]
      · rw [if_neg en] at hv
        rw [if_neg (fun h => by omega)]
        exact R.fl j hj' n v hv
    · rw [if_neg e] at hv
      have hn : n < (W.th j).fs.length := (List.getElem?_eq_some_iff.1 hv).1
      have := R.apart hj' ha e
      rw [if_neg (fun h => by omega)]
      exact R.fl j hj' n v hv
  · show ((O.ar.store _ _).nur : Int) = W.most; rw [Ar.store_nur]; exact R.nur
  · show ((O.ar.store _ _).ws.length : Int) = W.most + W.grow; rw [Ar.store_len]; exact R.len
  · show dirtyL (O.ar.store _ _).nur cd (φ j) = true
    rw [Ar.store_nur]
    have hj' := (hlv j).1 hj
    rw [hold hj'] at ho
    have inF : ∀ w ∈ (W.th j).fs, w = v → dirtyL O.ar.nur cd (φ j) = true := fun w hw e => by
      subst e
      have hl3 := Wd.okV_ref (R.hw.tv j hj' w hw) h3
      rw [hold hl3] at hy
      exact hc2 _ (R.card j hj' ho w hw h3 hy)
    rw [hth hj'] at hv
    by_cases e : j = a
    · subst e
      rw [if_pos rfl] at hv
      rcases List.mem_or_eq_of_mem_set hv with h5 | rfl
      · exact inF v h5 rfl
      · rw [hold (Wd.okV_ref hu h3)] at hy
        exact hc3 h3 hy ho
    · rw [if_neg e] at hv
      exact inF v hv rfl

/-- Set, in a wood and a world. -/
theorem Rep.set (R : Rep O W φ) {v u : Vl} (hv : W.okV v) (hu : W.okV u) (i : Int) :
    (O.set (encV φ v) i (encV φ u)).1 = (if v.1 ≠ 3 ∨ (W.th v.2).k = 5 then 2 else if i < 0 ∨ ((W.th v.2).fs.length : Int) ≤ i then 1 else 0) ∧
    ((O.set (encV φ v) i (encV φ u)).1 ≠ 0 → (O.set (encV φ v) i (encV φ u)).2 = O) ∧
    ((O.set (encV φ v) i (encV φ u)).1 = 0 → Rep (O.set (encV φ v) i (encV φ u)).2 (W.setF v.2 ((W.th v.2).fs.set i.toNat u)) φ) := by
  have hg := R.get hv i
  by_cases hc : (O.ar.get (encV φ v) i).2 = 0
  · rw [Wo.set_yes' hc]
    rw [hg] at hc
    by_cases c1 : v.1 ≠ 3 ∨ (W.th v.2).k = 5
    · rw [if_pos c1] at hc; cases hc
    · rw [if_neg c1] at hc ⊢
      by_cases c2 : i < 0 ∨ ((W.th v.2).fs.length : Int) ≤ i
      · rw [if_pos c2] at hc; cases hc
      · rw [if_neg c2]
        refine ⟨rfl, fun h => (h rfl).elim, fun _ => ?_⟩
        have h3 : v.1 = 3 := Decidable.byContradiction fun h => c1 (.inl h)
        have ha := Wd.okV_ref hv h3
        have e4 : encV φ v / 4 = φ v.2 := by rw [encV_ref φ h3]; omega
        dsimp only
        rw [e4]
        have hst : ∀ p q x, (O.ar.store q x).young p = O.ar.young p ∧ (O.ar.store q x).old p = O.ar.old p := fun p q x => by
          unfold Ar.young Ar.old; rw [Ar.store_yng, Ar.store_nur, Ar.store_grn]; exact ⟨rfl, rfl⟩
        refine R.setF ha (by omega) (by omega) hu ?_ (fun p hp => ?_) (fun hu3 huo hao => ?_)
        · split
          · exact markL_length _ _ _
          · rfl
        · split
          · exact dirtyL_mark _ hp
          · exact hp
        · have hul := Wd.okV_ref hu hu3
          have e5 : encV φ u / 4 = φ u.2 := by rw [encV_ref φ hu3]; omega
          rw [if_pos ⟨(encV_mod hu).2 hu3, by rw [(hst _ _ _).1, e5]; exact (R.young_iff hul).2 huo, by rw [(hst _ _ _).2]; exact (R.old_iff ha).2 hao⟩]
          have hp := (R.old_iff ha).2 hao
          rw [Go.Proofs.Ytjifdalflepcoac.old_iff] at hp
          have hl := R.len; have hn := R.nur; have hcl := R.cl; have h3' := R.ho.ha.h3; have hg1 := R.hw.g1
          refine dirtyL_self hp.1 ?_
          rw [hcl]
          unfold cardsN
          omega
  · rw [Wo.set_no' hc]
    rw [hg] at hc ⊢
    by_cases c1 : v.1 ≠ 3 ∨ (W.th v.2).k = 5
    · rw [if_pos c1, if_pos c1]; exact ⟨rfl, fun _ => rfl, fun h => by cases h⟩
    · rw [if_neg c1] at hc ⊢
      rw [if_neg c1]
      by_cases c2 : i < 0 ∨ ((W.th v.2).fs.length : Int) ≤ i
      · rw [if_pos c2, if_pos c2]; exact ⟨rfl, fun _ => rfl, fun h => by cases h⟩
      · rw [if_neg c2] at hc; exact (hc rfl).elim

/-! What stands beside. -/

theorem Rep.reg (R : Rep O W φ) {e : Int × Int} (he : W.okE e) (hr : W.regs.length + W.wait.length < 24) : Rep { O with rg := O.rg ++ [encE φ e] } { W with regs := W.regs ++ [e] } φ := by
  have hle := R.place he.1; have hle2 := R.place he.2.2
  refine ⟨⟨R.ho.ha, R.ho.h12, R.ho.hR, fun x hx => ?_, R.ho.hw, ?_, R.ho.hc⟩, ?_, R.ty, R.tz, R.inj, R.onto, R.iny, R.ino, R.th, R.fl, R.rt, ?_, R.wt, R.nur, R.len, R.cl, R.card⟩
  · rcases List.mem_append.1 hx with h1 | h1
    · exact R.ho.hg x h1
    · rw [List.mem_singleton.1 h1]
      unfold encE R64e R64
      dsimp only
      omega
  · have h1 : O.rg.length = W.regs.length := by rw [R.rg]; simp
    have h2 : O.wt.length = W.wait.length := by rw [R.wt]; simp
    simp; omega
  · have h := R.hw
    refine ⟨h.hr, h.rv, h.tk, h.tv, fun x hx => ?_, h.wv, by simp; omega, h.m1, h.m2, h.g1, h.g2, h.uy, h.uo⟩
    rcases List.mem_append.1 hx with h1 | h1
    · exact h.gv x h1
    · rw [List.mem_singleton.1 h1]; exact he
  · show O.rg ++ [encE φ e] = (W.regs ++ [e]).map (encE φ)
    rw [R.rg]; simp

end
end Go.Proofs.Ytjifdalflepcoac

namespace Go.Proofs.Ytjifdalflepcoac
open Go.RowKit
set_option linter.unusedVariables false
set_option linter.unusedSimpArgs false

section
variable {w w' : World} {h : WH} {O : Wo}

theorem WoodAt.roots (H : WoodAt w h O) : ∃ g o cap, h.ro = .slice (some ⟨g, o, none⟩) O.rt.length cap ∧ ownB h.ro g ∧ g < w.heap.size ∧ w.cell? ⟨h.p, 3, none⟩ = some (.slice (some ⟨g, o, none⟩) O.rt.length cap) ∧ (∀ k, w.frozen? ⟨g, k, none⟩ = false) ∧
    ∀ k, k < O.rt.length → w.cell? ⟨g, o + k, none⟩ = some (.int .i64 (O.rt.getD k 0)) := by
  obtain ⟨ao, cap, e, hrd, -, -⟩ := H.hr.rd
  have h12 := H.ok.h12
  obtain ⟨g, o, rfl, hg, hc⟩ := hrd (by intro e; have := congrArg List.length e; rw [List.length_map, h12] at this; cases this)
  have hown : ownB h.ro g := by rw [e]; rfl
  obtain ⟨-, cur, hb⟩ := H.hr.own hown
  refine ⟨g, o, cap, e, hown, hg, by have := H.ptrs.2.2.2; rw [e] at this; exact this, fun k => hb.free k, fun k hk => ?_⟩
  rw [hc k (by simpa using hk)]
  simp [List.getD, hk]

theorem WoodAt.setRoot (H : WoodAt w h O) {g o cap k : Nat} {x : Int} (e : h.ro = .slice (some ⟨g, o, none⟩) O.rt.length cap) (hk : k < O.rt.length) (hx : R64 x) :
    WoodAt (w.setCell ⟨g, o + k, none⟩ (.int .i64 x)) h { O with rt := O.rt.set k x } ∧ Keeps (ownB h.ro) w (w.setCell ⟨g, o + k, none⟩ (.int .i64 x)) := by
  have hown : ownB h.ro g := by rw [e]; rfl
  have kk : Keeps (ownB h.ro) w (w.setCell ⟨g, o + k, none⟩ (.int .i64 x)) := (Keeps.refl _ _).setCell (p := ⟨g, o + k, none⟩) (.inl hown) _
  refine ⟨⟨kk.blk H.hp (H.ro_ne H.hp (by decide)), H.ha.keep kk (H.ro_ne H.ha.hp (by decide)) H.ap, H.hc.keep kk (H.ro_ne H.hc.hp (by decide)) (H.ro_ne H.hc.hq (by decide)), H.hs.keep kk (fun b hb => ?_), ?_, H.ap, { H.ok with h12 := by simpa using H.ok.h12, hR := fun y hy => ?_ }⟩, kk⟩
  · obtain ⟨c, T, hc, hT⟩ := H.hs.fp_type hb
    rcases hT with rfl | rfl
    · exact H.ro_ne hc (by decide)
    · exact H.ro_ne hc (by decide)
  · have hs := H.hr
    rw [e] at hs ⊢
    have := hs.set (j := k) (u := .int .i64 x) (by omega)
    show Sl _ _ _ _ (O.rt.set k x).length ((O.rt.set k x).map _)
    rw [List.length_set, List.map_set]
    exact this
  · rcases List.mem_or_eq_of_mem_set hy with h1 | rfl
    · exact H.ok.hR y h1
    · exact hx

theorem WoodTo.setRoot (H : WoodAt w h O) {g o cap k : Nat} {x : Int} (e : h.ro = .slice (some ⟨g, o, none⟩) O.rt.length cap) (hk : k < O.rt.length) (hx : R64 x) : WoodTo w h (w.setCell ⟨g, o + k, none⟩ (.int .i64 x)) { O with rt := O.rt.set k x } :=
  ⟨h, (H.setRoot e hk hx).1, rfl, (H.setRoot e hk hx).2.mono (fun b _ hb => .inr (.inr (.inr (.inr hb)))), fun b hb => .inl hb⟩
end

end Go.Proofs.Ytjifdalflepcoac

namespace Go.Proofs.Ytjifdalflepcoac
set_option linter.unusedVariables false
set_option linter.unusedSimpArgs false

section
variable {W : Wd}

/-- All that is live. -/
def Wd.all (W : Wd) : List Int := W.idx false ++ W.idx true

theorem Wd.mem_all {i : Int} : i ∈ W.all ↔ W.live i := by
  unfold Wd.all
  rw [List.mem_append, Wd.mem_idx, Wd.mem_idx]
  constructor
  · rintro (h | h) <;> exact h.1
  · intro h; cases ho : (W.th i).old
    · exact .inl ⟨h, rfl⟩
    · exact .inr ⟨h, rfl⟩

theorem Wd.gr_refs (h : W.ok) {i : Int} (hi : W.live i) {v : Vl} (hv : v ∈ (W.gr i).2) (h3 : v.1 = 3) : W.live v.2 := by
  unfold Wd.gr at hv
  dsimp only at hv
  rcases List.mem_append.1 hv with h1 | h1
  · exact Wd.okV_ref (h.tv i hi v h1) h3
  · split at h1
    · obtain ⟨x, hx, rfl⟩ := List.mem_map.1 h1
      unfold waitAt at hx
      obtain ⟨e, he, rfl⟩ := List.mem_map.1 hx
      exact (h.wv e (List.mem_filter.1 he).1).2.2
    · cases h1

theorem Wd.inU (h : W.ok) : InU W.gr W.all := ⟨fun i hi v hv h3 => Wd.mem_all.2 (Wd.gr_refs h (Wd.mem_all.1 hi) hv h3)⟩

def Wd.met (W : Wd) : List Int := metM W.gr W.roots

structure Seen (W : Wd) : Prop where
  eq : W.view = (W.roots.map (numV W.met), W.met.map fun x => numN W.met (W.gr x))
  nd : W.met.Nodup
  rt : ∀ v ∈ W.roots, v.1 = 3 → v.2 ∈ W.met
  fd : ∀ x ∈ W.met, ∀ v ∈ (W.gr x).2, v.1 = 3 → v.2 ∈ W.met
  led : ∀ (k : Nat) (x : Int), W.met[k]? = some x → ((3, x) : Vl) ∈ W.roots ∨ ∃ (j : Nat) (y : Int), j < k ∧ W.met[j]? = some y ∧ ((3, x) : Vl) ∈ (W.gr y).2
  lv : ∀ x ∈ W.met, W.live x

theorem Seen.fits (S : Seen W) (h : W.ok) (hw : W.wait = []) : ∀ n ∈ W.view.2, fitsW n.1 n.2.length = true := by
  rw [S.eq]
  intro n hn
  obtain ⟨x, hx, rfl⟩ := List.mem_map.1 hn
  have hl := S.lv x hx
  unfold numN Wd.gr waitAt
  rw [hw]
  simp only [List.length_map, List.filter_nil, List.map_nil, ite_self, List.append_nil]
  exact h.tk x hl

end
end Go.Proofs.Ytjifdalflepcoac

namespace Go.Proofs.Ytjifdalflepcoac
open Go.RowKit
set_option linter.unusedVariables false
set_option linter.unusedSimpArgs false

/-- The wood of a statement: all its blocks are new. -/
structure WM (w0 w : World) (p : Nat) (h : WH) (O : Wo) : Prop where
  H : WoodAt w h O
  e : h.p = p
  K : Keeps (fun _ => False) w0 w
  own : ∀ k, h.Own k → w0.heap.size ≤ k

section
variable {w0 w w' : World} {p : Nat} {h : WH} {O O' : Wo}

theorem WM.to (M : WM w0 w p h O) (t : WoodTo w h w' O') : ∃ h', WM w0 w' p h' O' := by
  obtain ⟨h', H', e', k', o'⟩ := t
  refine ⟨h', H', e'.trans M.e, M.K.then k' (fun b hb => .inr (M.own b hb)), fun b hb => ?_⟩
  rcases o' b hb with h1 | h1
  · exact M.own b h1
  · have := M.K.size; omega

theorem WM.same (M : WM w0 w p h O) (k : Keeps (fun _ => False) w w') : WM w0 w' p h O := ⟨M.H.keep k (fun _ _ h => h), M.e, M.K.trans k, M.own⟩

/-- Another block stays. -/
theorem WM.blk (M : WM w0 w p h O) (t : WoodTo w h w' O') {b : Nat} {c : List Value} {T : TypeId} (hb : Blk w b c T) (h1 : T ≠ 43 ∧ T ≠ 70 ∧ T ≠ 2 ∧ T ≠ 132 ∧ T ≠ 4 ∧ T ≠ 53 ∧ T ≠ 100) : Blk w' b c T := by
  obtain ⟨h', H', e', k', o'⟩ := t
  refine k'.blk hb (fun ho => ?_)
  obtain ⟨c', T', hc, hT⟩ := M.H.own_type ho
  have hne : T ≠ T' := by rcases hT with rfl | rfl | rfl | rfl | rfl | rfl | rfl <;> simp [h1]
  exact hb.ne hc hne rfl
end

end Go.Proofs.Ytjifdalflepcoac

namespace Go.Proofs.Ytjifdalflepcoac
set_option linter.unusedVariables false
set_option linter.unusedSimpArgs false

/-- The word that leads to a place. -/
def refW (x : Int) : Int := IntKind.i64.wrap (4 * x + 1)

def mAlive (A : Ar) (x : Int) : Bool := !(decide (x % 4 = 1) && A.young (x / 4)) || decide (A.load (x / 4) < 0)
def mNow (A : Ar) (x : Int) : Int := if x % 4 = 1 ∧ A.young (x / 4) = true ∧ A.load (x / 4) < 0 then refW (-1 - A.load (x / 4)) else x
def mBring (A : Ar) (x : Int) : Ar := if mAlive A x = true then A else (A.copy (x / 4)).2.store (x / 4) (-1 - (A.copy (x / 4)).1)
def mField (A : Ar) (i : Int) : Ar := (mBring A (A.load i)).store i (mNow (mBring A (A.load i)) (A.load i))
def mFields : Nat → Ar → Int → Ar
  | 0, A, _ => A
  | n + 1, A, i => mFields n (mField A i) (i + 1)

/-- Words; the weak pairs, the ephemerons that were looked at. -/
structure Ms where
  A : Ar
  wk : List Int
  ep : List Int

def mLook (s : Ms) (i : Int) : Ms :=
  if (s.A.thing i).1 = 1 ∨ (s.A.thing i).1 = 2 then { s with A := mFields (s.A.thing i).2.1.toNat s.A (i + 1) }
  else if (s.A.thing i).1 = 3 then ⟨mField s.A (i + 2), s.wk ++ [i], s.ep⟩
  else if (s.A.thing i).1 = 4 then { s with ep := s.ep ++ [i] }
  else s

def mScan : Nat → Ms → Int → Ms × Int
  | 0, s, c => (s, c)
  | n + 1, s, c => if c < s.A.grn then mScan n (mLook s c) (c + (1 + (s.A.thing c).2.1)) else (s, c)

def mEph1 (A : Ar) (i : Int) : Ar := if mAlive A (A.load (i + 1)) = true then mField (mField A (i + 1)) (i + 2) else A
def mEph (A : Ar) (l : List Int) : Ar := l.foldl mEph1 A
def mKp (A : Ar) (x : Int) : Ar × Int := (mBring A x, mNow (mBring A x) x)

/-- What was brought over, where it is not looked at yet, what waits. -/
structure Md where
  s : Ms
  c : Int
  q : List (Int × Int)

def mRound (d : Md) : Md :=
  let r := mScan 2000 d.s d.c
  let w := wakeM mAlive mKp (mEph r.1.A r.1.ep) d.q
  ⟨{ r.1 with A := w.1 }, r.2, w.2.1⟩

def mDrain : Nat → Md → Md
  | 0, d => d
  | n + 1, d => if (mRound d).c < (mRound d).s.A.grn then mDrain n (mRound d) else mRound d

/-- The state of Settle: what waits is beside. -/
abbrev Mt := Ms × Int
def mtAlive (t : Mt) (x : Int) : Bool := mAlive t.1.A x
def mtNow (t : Mt) (x : Int) : Int := mNow t.1.A x
def mtKeep (t : Mt) (q : List (Int × Int)) (x : Int) : Mt × List (Int × Int) × Int :=
  let d := mDrain 2000 ⟨{ t.1 with A := mBring t.1.A x }, t.2, q⟩
  ((d.s, d.c), d.q, mNow (mBring t.1.A x) x)

def mFix (A : Ar) (i : Int) (dead : Bool) : Ar := A.store i (if dead then 3 else mNow A (A.load i))
def mGoneW (A : Ar) (l : List Int) : Ar := l.foldl (fun A i => mFix A (i + 1) (!mAlive A (A.load (i + 1)))) A
def mGoneE1 (A : Ar) (i : Int) : Ar := mFix (mFix A (i + 1) (!mAlive A (A.load (i + 1)))) (i + 2) (!mAlive A (A.load (i + 1)))
def mGone (s : Ms) : Ar := s.ep.foldl mGoneE1 (mGoneW s.A s.wk)

def mRoots (A : Ar) : List Int → Ar × List Int
  | [] => (A, [])
  | x :: l => ((mRoots (mBring A x) l).1, mNow (mBring A x) x :: (mRoots (mBring A x) l).2)

def mDirty (base : Int) (cd : List Bool) (s : Ms) (l : List Int) : Ms := l.foldl (fun s i => if dirtyL base cd i = true then mLook s i else s) s

/-- Ahead of Settle. -/
def mPre (O : Wo) : Md :=
  mDrain 2000 ⟨mDirty O.ar.nur O.cd ⟨(mRoots O.ar O.rt).1, [], []⟩ O.ar.things.2, O.ar.grn, O.wt⟩

/-- Behind Settle. -/
def mPass (O : Wo) : Mt × List (Int × Int) × List It := passM mtAlive mtKeep ((mPre O).s, (mPre O).c) O.rg (mPre O).q

def mCut (O : Wo) : Int × Wo :=
  if (O.ar.yng : Int) > (O.ar.ws.length : Int) - O.ar.grn then (3, O)
  else (0, ⟨(mGone (mPass O).1.1).clear, O.cd.map fun _ => false, (mRoots O.ar O.rt).2,
    newRegs mtAlive mtNow (mPass O).1 (mPass O).2.2, newWait mtAlive mtNow (mPass O).1 (mPass O).2.1⟩)

/-! What stays as it was. -/

/-- The same bounds; the old space in use has maybe grown. -/
structure Sm (A B : Ar) : Prop where
  ok : B.ok
  nur : B.nur = A.nur
  yng : B.yng = A.yng
  len : B.ws.length = A.ws.length
  grn : A.grn ≤ B.grn

theorem Sm.refl {A : Ar} (h : A.ok) : Sm A A := ⟨h, rfl, rfl, rfl, Nat.le_refl _⟩
theorem Sm.trans {A B C : Ar} (h : Sm A B) (k : Sm B C) : Sm A C := ⟨k.ok, k.nur.trans h.nur, k.yng.trans h.yng, k.len.trans h.len, Nat.le_trans h.grn k.grn⟩

theorem Sm.store {A : Ar} (h : A.ok) (i : Int) {x : Int} (hx : R64 x) : Sm A (A.store i x) := ⟨h.store i x hx, A.store_nur i x, A.store_yng i x, A.store_len i x, by rw [A.store_grn]; exact Nat.le_refl _⟩

theorem Sm.copy {A : Ar} (h : A.ok) (i : Int) : Sm A (A.copy i).2 := by
  refine ⟨h.copy i, ?_, ?_, ?_, ?_⟩
  all_goals unfold Ar.copy; dsimp only; split
  all_goals first | rfl | exact Nat.le_add_right _ _ | exact Nat.le_refl _ | skip
  rename_i hc
  have hf := A.thing_fields i
  have hs := Ar.whole_spec h hf.1 hc.2.1
  have := h.h1; have := h.h2; have := h.h3
  exact lay_length (by simp; omega)

theorem Ar.copy_range {A : Ar} (h : A.ok) (i : Int) : -1 ≤ (A.copy i).1 ∧ (A.copy i).1 ≤ 1280 := by
  have := h.h3; have := h.h4
  unfold Ar.copy
  dsimp only
  split
  · dsimp only; omega
  · dsimp only; omega

theorem R64_wrap (x : Int) : R64 (IntKind.i64.wrap x) := by
  unfold R64
  rw [IntKind.wrap_i64]
  omega

theorem Sm.bring {A : Ar} (h : A.ok) (x : Int) : Sm A (mBring A x) := by
  unfold mBring
  split
  · exact Sm.refl h
  · have := Ar.copy_range h (x / 4)
    exact (Sm.copy h _).trans (Sm.store (h.copy _) _ (by unfold R64; omega))

theorem mNow_R64 {A : Ar} {x : Int} (hx : R64 x) : R64 (mNow A x) := by
  unfold mNow
  split
  · exact R64_wrap _
  · exact hx

theorem Sm.field {A : Ar} (h : A.ok) (i : Int) : Sm A (mField A i) :=
  (Sm.bring h _).trans (Sm.store (Sm.bring h _).ok _ (mNow_R64 (h.load i)))

theorem Sm.fields {A : Ar} (h : A.ok) : ∀ (n : Nat) (i : Int), Sm A (mFields n A i) := by
  intro n
  induction n generalizing A with
  | zero => intro i; exact Sm.refl h
  | succ n ih => intro i; exact (Sm.field h i).trans (ih (Sm.field h i).ok (i + 1))

theorem Sm.look {s : Ms} (h : s.A.ok) (i : Int) : Sm s.A (mLook s i).A := by
  unfold mLook
  split
  · exact Sm.fields h _ _
  · split
    · exact Sm.field h _
    · split <;> exact Sm.refl h

theorem Sm.scan : ∀ (n : Nat) (s : Ms) (c : Int), s.A.ok → Sm s.A (mScan n s c).1.A
  | 0, s, c, h => Sm.refl h
  | n + 1, s, c, h => by
    unfold mScan
    split
    · exact (Sm.look h c).trans (Sm.scan n _ _ (Sm.look h c).ok)
    · exact Sm.refl h

theorem Sm.eph1 {A : Ar} (h : A.ok) (i : Int) : Sm A (mEph1 A i) := by
  unfold mEph1
  split
  · exact (Sm.field h _).trans (Sm.field (Sm.field h _).ok _)
  · exact Sm.refl h

theorem Sm.eph : ∀ (l : List Int) {A : Ar} (h : A.ok), Sm A (mEph A l)
  | [], A, h => Sm.refl h
  | i :: l, A, h => (Sm.eph1 h i).trans (Sm.eph l (Sm.eph1 h i).ok)

theorem Sm.wake : ∀ (l : List (Int × Int)) {A : Ar} (h : A.ok), Sm A (wakeM mAlive mKp A l).1
  | [], A, h => Sm.refl h
  | e :: l, A, h => by
    unfold wakeM
    split
    · exact (Sm.bring h e.2).trans (Sm.wake l (Sm.bring h e.2).ok)
    · exact Sm.wake l h

theorem Sm.round (d : Md) (h : d.s.A.ok) : Sm d.s.A (mRound d).s.A := by
  have h1 := Sm.scan 2000 d.s d.c h
  have h2 := Sm.eph (mScan 2000 d.s d.c).1.ep h1.ok
  exact (h1.trans h2).trans (Sm.wake d.q h2.ok)

theorem Sm.drain : ∀ (n : Nat) (d : Md), d.s.A.ok → Sm d.s.A (mDrain n d).s.A
  | 0, d, h => Sm.refl h
  | n + 1, d, h => by
    unfold mDrain
    split
    · exact (Sm.round d h).trans (Sm.drain n _ (Sm.round d h).ok)
    · exact Sm.round d h

theorem Sm.keep (t : Mt) (q : List (Int × Int)) (x : Int) (h : t.1.A.ok) : Sm t.1.A (mtKeep t q x).1.1.A :=
  (Sm.bring h x).trans (Sm.drain 2000 ⟨{ t.1 with A := mBring t.1.A x }, t.2, q⟩ (Sm.bring h x).ok)

end Go.Proofs.Ytjifdalflepcoac

namespace Go.Proofs.Ytjifdalflepcoac
set_option linter.unusedVariables false
set_option linter.unusedSimpArgs false

/-- The word x is v's, ahead of or behind the cut. -/
def Wrd (φ ψ : Int → Int) (S : Int → Prop) (x : Int) (v : Vl) : Prop := x = encV φ v ∨ ((v.1 = 3 → S v.2) ∧ x = encV ψ v)

/-- S is what was brought over, in the order N, and what is old; it stands at ψ now. -/
structure Cu (O : Wo) (W : Wd) (φ : Int → Int) (A : Ar) (S : Int → Prop) (ψ : Int → Int) (N : List Int) : Prop where
  sm : Sm O.ar A
  sl : ∀ i, S i → W.live i
  so : ∀ i, W.live i → (W.th i).old = true → S i
  po : ∀ i, W.live i → (W.th i).old = true → ψ i = φ i
  nd : N.Nodup
  nm : ∀ i, i ∈ N ↔ S i ∧ (W.th i).old = false
  tile : Tile A (N.map ψ) O.ar.grn A.grn
  th : ∀ i, S i → A.thing (ψ i) = ((W.th i).k, ((W.th i).fs.length : Int), 0)
  yet : ∀ i, W.live i → (W.th i).old = false → ¬ S i → ∀ j : Int, 0 ≤ j → j ≤ (W.th i).fs.length → A.load (φ i + j) = O.ar.load (φ i + j)
  fwd : ∀ i ∈ N, A.load (φ i) = -1 - ψ i
  fd : ∀ i, S i → ∀ (j : Nat) (v : Vl), (W.th i).fs[j]? = some v → Wrd φ ψ S (A.load (ψ i + 1 + j)) v

section
variable {O : Wo} {W : Wd} {φ ψ ψ' : Int → Int} {A A' : Ar} {S S' : Int → Prop} {N N' : List Int}

/-- The field j of i is as it shall be. -/
def Up (W : Wd) (A : Ar) (S : Int → Prop) (ψ : Int → Int) (i : Int) (j : Nat) (v : Vl) : Prop := (v.1 = 3 → S v.2) ∧ A.load (ψ i + 1 + j) = encV ψ v

/-- What comes behind. -/
structure Ext (W : Wd) (A : Ar) (S : Int → Prop) (ψ : Int → Int) (N : List Int) (A' : Ar) (S' : Int → Prop) (ψ' : Int → Int) (N' : List Int) : Prop where
  sub : ∀ i, S i → S' i
  at_ : ∀ i, S i → ψ' i = ψ i
  pre : ∃ m, N' = N ++ m
  up : ∀ i, S i → ∀ (j : Nat) (v : Vl), (W.th i).fs[j]? = some v → Up W A S ψ i j v → Up W A' S' ψ' i j v
  grn : A.grn ≤ A'.grn

theorem Ext.refl : Ext W A S ψ N A S ψ N := ⟨fun _ h => h, fun _ _ => rfl, ⟨[], by simp⟩, fun _ _ _ _ _ h => h, Nat.le_refl _⟩

theorem Ext.trans {A2 : Ar} {S2 : Int → Prop} {ψ2 : Int → Int} {N2 : List Int} (h : Ext W A S ψ N A' S' ψ' N') (k : Ext W A' S' ψ' N' A2 S2 ψ2 N2) : Ext W A S ψ N A2 S2 ψ2 N2 := by
  obtain ⟨m, e⟩ := h.pre; obtain ⟨m', e'⟩ := k.pre
  exact ⟨fun i hi => k.sub i (h.sub i hi), fun i hi => (k.at_ i (h.sub i hi)).trans (h.at_ i hi), ⟨m ++ m', by rw [e', e]; simp⟩, fun i hi j v hv hu => k.up i (h.sub i hi) j v hv (h.up i hi j v hv hu), Nat.le_trans h.grn k.grn⟩

theorem Ext.wrd (h : Ext W A S ψ N A' S' ψ' N') {x : Int} {v : Vl} (hw : Wrd φ ψ S x v) : Wrd φ ψ' S' x v := by
  rcases hw with h1 | ⟨h1, h2⟩
  · exact .inl h1
  · exact .inr ⟨fun h3 => h.sub _ (h1 h3), by rw [h2]; exact (encV_congr (fun h3 => h.at_ _ (h1 h3))).symm⟩

theorem inj_of_nodup {f : Int → Int} : ∀ {l : List Int}, (l.map f).Nodup → ∀ {a b : Int}, a ∈ l → b ∈ l → f a = f b → a = b
  | x :: l, h, a, b, ha, hb, e => by
    simp only [List.map_cons, List.nodup_cons] at h
    rcases List.mem_cons.1 ha with ea | ha'
    · rcases List.mem_cons.1 hb with eb | hb'
      · rw [ea, eb]
      · rw [ea] at e; exact (h.1 (List.mem_map.2 ⟨b, hb', e.symm⟩)).elim
    · rcases List.mem_cons.1 hb with eb | hb'
      · rw [eb] at e; exact (h.1 (List.mem_map.2 ⟨a, ha', e⟩)).elim
      · exact inj_of_nodup h.2 ha' hb' e

theorem Cu.old_of (C : Cu O W φ A S ψ N) {i : Int} (hi : S i) (hn : ¬ i ∈ N) : (W.th i).old = true := by
  cases h : (W.th i).old
  · exact (hn ((C.nm i).2 ⟨hi, h⟩)).elim
  · rfl

/-- Where the things of S stand. -/
theorem Cu.place (R : Rep O W φ) (C : Cu O W φ A S ψ N) {i : Int} (hi : S i) :
    (A.nur : Int) ≤ ψ i ∧ ψ i + 1 + (W.th i).fs.length ≤ A.grn ∧ (i ∈ N → (O.ar.grn : Int) ≤ ψ i) ∧ (¬ i ∈ N → ψ i + 1 + (W.th i).fs.length ≤ O.ar.grn) := by
  have hg := C.sm.grn
  have hn := C.sm.nur
  have h2 := R.ho.ha.h2
  by_cases h : i ∈ N
  · have := C.tile.mem (ψ i) (List.mem_map.2 ⟨i, h, rfl⟩)
    rw [C.th i hi] at this
    dsimp only at this
    exact ⟨by omega, by omega, fun _ => by omega, fun h' => (h' h).elim⟩
  · have ho := C.old_of hi h
    have hl := C.sl i hi
    have := R.tz.mem _ (R.ino i hl ho)
    rw [R.th i hl] at this
    dsimp only at this
    rw [C.po i hl ho]
    exact ⟨by omega, by omega, fun h' => (h h').elim, fun _ => by omega⟩

theorem Cu.inO (R : Rep O W φ) (C : Cu O W φ A S ψ N) {i : Int} (hi : S i) {j : Int} (h0 : 0 ≤ j) (h1 : j ≤ (W.th i).fs.length) : A.old (ψ i + j) = true := by
  have := C.place R hi
  rw [old_iff]; omega

theorem Cu.inU (R : Rep O W φ) (C : Cu O W φ A S ψ N) {i : Int} (hi : S i) {j : Int} (h0 : 0 ≤ j) (h1 : j ≤ (W.th i).fs.length) : A.inUse (ψ i + j) = true := by
  unfold Ar.inUse; rw [C.inO R hi h0 h1]; simp

theorem Cu.apart (R : Rep O W φ) (C : Cu O W φ A S ψ N) {i j : Int} (hi : S i) (hj : S j) (h : i ≠ j) : ψ i + 1 + (W.th i).fs.length ≤ ψ j ∨ ψ j + 1 + (W.th j).fs.length ≤ ψ i := by
  have pi := C.place R hi; have pj := C.place R hj
  have ti := C.th i hi; have tj := C.th j hj
  by_cases ni : i ∈ N <;> by_cases nj : j ∈ N
  · have := pairwise_two (f := fun p => (A.thing p).2.1) C.tile.apart (List.mem_map.2 ⟨i, ni, rfl⟩) (List.mem_map.2 ⟨j, nj, rfl⟩)
    rw [ti, tj] at this
    dsimp only at this
    rcases this with e | e | e
    · exact (h (inj_of_nodup C.tile.nodup ni nj e)).elim
    · exact .inl e
    · exact .inr e
  · have := pi.2.2.1 ni; have := pj.2.2.2 nj; omega
  · have := pi.2.2.2 ni; have := pj.2.2.1 nj; omega
  · have oi := C.old_of hi ni; have oj := C.old_of hj nj
    have li := C.sl i hi; have lj := C.sl j hj
    rw [C.po i li oi, C.po j lj oj]
    exact R.apart li lj h

theorem Cu.inj (R : Rep O W φ) (C : Cu O W φ A S ψ N) {i j : Int} (hi : S i) (hj : S j) (e : ψ i = ψ j) : i = j := by
  by_cases h : i = j
  · exact h
  · have := C.apart R hi hj h; omega

theorem thing_of_load' {A B : Ar} {p q : Int} (h : B.load p = A.load q) : B.thing p = A.thing q := by unfold Ar.thing; rw [h]

theorem thing_pos {A : Ar} {p : Int} (h : (A.thing p).2.2 = 0) : 0 < A.load p := by
  unfold Ar.thing partsW at h
  split at h
  · rename_i hf
    have := fitsW_spec hf
    omega
  · simp at h

theorem Cu.fresh_load (R : Rep O W φ) (C : Cu O W φ A S ψ N) {i : Int} (hl : W.live i) (ho : (W.th i).old = false) (hs : ¬ S i) : A.load (φ i) = O.ar.load (φ i) ∧ 0 < A.load (φ i) := by
  have := C.yet i hl ho hs 0 (by omega) (by omega)
  rw [Int.add_zero] at this
  have h2 := R.th i hl
  exact ⟨this, by rw [this]; exact thing_pos (by rw [h2])⟩

theorem Cu.young_phi (R : Rep O W φ) (C : Cu O W φ A S ψ N) {i : Int} (hl : W.live i) : A.young (φ i) = true ↔ (W.th i).old = false := by
  have : A.young (φ i) = O.ar.young (φ i) := by unfold Ar.young; rw [C.sm.yng]
  rw [this]; exact R.young_iff hl

theorem Cu.young_psi (R : Rep O W φ) (C : Cu O W φ A S ψ N) {i : Int} (hi : S i) : A.young (ψ i) = false := by
  have := C.place R hi
  have h1 := C.sm.ok.h1
  cases h : A.young (ψ i)
  · rfl
  · rw [young_iff] at h; omega

theorem mAlive_plain {A : Ar} {x : Int} (h : ¬ x % 4 = 1) : mAlive A x = true := by unfold mAlive; simp [h]
theorem mNow_plain {A : Ar} {x : Int} (h : ¬ x % 4 = 1) : mNow A x = x := if_neg (fun h' => h h'.1)

/-- Is it alive? -/
theorem Cu.alive (R : Rep O W φ) (C : Cu O W φ A S ψ N) {x : Int} {v : Vl} (hv : W.okV v) (hx : Wrd φ ψ S x v) : mAlive A x = true ↔ (v.1 = 3 → S v.2) := by
  by_cases h3 : v.1 = 3
  · have hl := Wd.okV_ref hv h3
    rcases hx with rfl | ⟨hs, rfl⟩
    · have e := encV_ref φ h3
      have e4 : encV φ v / 4 = φ v.2 := by rw [e]; omega
      have e1 : encV φ v % 4 = 1 := by rw [e]; omega
      unfold mAlive
      rw [e4]
      cases ho : (W.th v.2).old
      · rw [(C.young_phi R hl).2 ho]
        by_cases hs : S v.2
        · have := C.fwd v.2 ((C.nm _).2 ⟨hs, ho⟩)
          have hp := C.place R hs
          have h0 : (0 : Int) ≤ A.nur := by omega
          simp [e1, this, hs]; omega
        · have := (C.fresh_load R hl ho hs).2
          simp [e1, h3, hs]; omega
      · have : A.young (φ v.2) = false := by
          cases h : A.young (φ v.2)
          · rfl
          · rw [C.young_phi R hl, ho] at h; cases h
        rw [this]
        simp [C.so _ hl ho]
    · have e := encV_ref ψ h3
      have e4 : encV ψ v / 4 = ψ v.2 := by rw [e]; omega
      unfold mAlive
      rw [e4, C.young_psi R (hs h3)]
      simp [hs h3]
  · have e : x = encV φ v := by
      rcases hx with h | ⟨_, h⟩
      · exact h
      · rw [h]; exact encV_plain h3
    subst e
    rw [mAlive_plain (fun h => h3 ((encV_mod hv).1 h))]
    simp [h3]

/-- The word of what is alive. -/
theorem Cu.now (R : Rep O W φ) (C : Cu O W φ A S ψ N) {x : Int} {v : Vl} (hv : W.okV v) (hx : Wrd φ ψ S x v) (hs : v.1 = 3 → S v.2) : mNow A x = encV ψ v := by
  by_cases h3 : v.1 = 3
  · have hl := Wd.okV_ref hv h3
    have hS := hs h3
    have hp := C.place R hS
    have hok := C.sm.ok
    have b1 := hok.h3; have b2 := hok.h4
    have e' := encV_ref ψ h3
    rcases hx with rfl | ⟨_, rfl⟩
    · have e := encV_ref φ h3
      have e4 : encV φ v / 4 = φ v.2 := by rw [e]; omega
      have e1 : encV φ v % 4 = 1 := by rw [e]; omega
      unfold mNow
      rw [e4]
      cases ho : (W.th v.2).old
      · have hf := C.fwd v.2 ((C.nm _).2 ⟨hS, ho⟩)
        rw [if_pos ⟨e1, (C.young_phi R hl).2 ho, by rw [hf]; omega⟩, hf, e']
        unfold refW
        rw [show 4 * (-1 - (-1 - ψ v.2)) + 1 = 4 * ψ v.2 + 1 by omega, IntKind.wrap_i64]
        omega
      · have : ¬ A.young (φ v.2) = true := by rw [C.young_phi R hl, ho]; decide
        rw [if_neg (fun h => this h.2.1), e, e', C.po _ hl ho]
    · have e4 : encV ψ v / 4 = ψ v.2 := by rw [e']; omega
      unfold mNow
      rw [e4, C.young_psi R hS, if_neg (fun h => by cases h.2.1)]
  · have e : x = encV φ v := by
      rcases hx with h | ⟨_, h⟩
      · exact h
      · rw [h]; exact encV_plain h3
    subst e
    rw [mNow_plain (fun h => h3 ((encV_mod hv).1 h))]
    exact encV_plain h3

/-- There is room for all that is young. -/
theorem Cu.room (R : Rep O W φ) (C : Cu O W φ A S ψ N) (hr : (O.ar.yng : Int) ≤ (O.ar.ws.length : Int) - O.ar.grn) {i : Int} (hl : W.live i) (ho : (W.th i).old = false) (hs : ¬ S i) :
    1 + ((W.th i).fs.length : Int) ≤ (A.ws.length : Int) - A.grn := by
  have hn : ¬ i ∈ N := fun h => hs ((C.nm i).1 h).1
  have h1 := C.tile.sum
  rw [List.map_map] at h1
  have e : N.map ((fun p => 1 + (A.thing p).2.1) ∘ ψ) = N.map fun i => (W.th i).words :=
    List.map_congr_left fun j hj => by simp only [Function.comp]; rw [C.th j ((C.nm j).1 hj).1]; rfl
  rw [e] at h1
  have h2 := sum_sub (f := fun i => (W.th i).words) (fun i => by unfold Th.words; omega) (l := i :: N) (m := W.idx false) (List.nodup_cons.2 ⟨hn, C.nd⟩) (by
    intro j hj
    rcases List.mem_cons.1 hj with rfl | hj
    · exact Wd.mem_idx.2 ⟨hl, ho⟩
    · have := (C.nm j).1 hj; exact Wd.mem_idx.2 ⟨C.sl j this.1, this.2⟩)
  rw [Wd.sum_idx] at h2
  have h3 : (sumW W.T fun t => !t.dead && (t.old == false)) = W.young := by
    unfold Wd.young
    congr 1
    funext t; cases t.old <;> rfl
  rw [h3, ← R.sy] at h2
  simp only [List.map_cons, List.sum_cons] at h2
  have h4 := C.sm.len
  have h5 : (W.th i).words = 1 + ((W.th i).fs.length : Int) := rfl
  omega

/-- What a copy changes. -/
theorem Ar.copy_loads {A : Ar} (hA : A.ok) {p : Int} (h : (A.thing p).2.2 = 0 ∧ A.whole p (A.thing p).2.1 = true ∧ 1 + (A.thing p).2.1 ≤ (A.ws.length : Int) - A.grn) :
    (A.copy p).1 = A.grn ∧ (∀ q, A.inUse q = true → (A.copy p).2.load q = A.load q) ∧ (∀ j : Int, 0 ≤ j → j ≤ (A.thing p).2.1 → (A.copy p).2.load (A.grn + j) = A.load (p + j)) ∧ ((A.copy p).2.grn : Int) = A.grn + (1 + (A.thing p).2.1) := by
  have hf := A.thing_fields p
  have hs := Ar.whole_spec hA hf.1 h.2.1
  have a1 := hA.h1; have a2 := hA.h2; have a3 := hA.h3
  have hl : ((A.ws.drop p.toNat).take (1 + (A.thing p).2.1).toNat).length = (1 + (A.thing p).2.1).toNat := by simp; omega
  have hle : A.grn + ((A.ws.drop p.toNat).take (1 + (A.thing p).2.1).toNat).length ≤ A.ws.length := by rw [hl]; omega
  rw [Ar.copy_yes h]
  refine ⟨rfl, fun q hq => ?_, fun j h0 h1 => ?_, by dsimp only; omega⟩
  · have hu : Ar.inUse { A with grn := A.grn + (1 + (A.thing p).2.1).toNat, ws := lay A.ws A.grn ((A.ws.drop p.toNat).take (1 + (A.thing p).2.1).toNat) } q = true := by
      unfold Ar.inUse at *
      rw [Bool.or_eq_true] at *
      rw [young_iff, old_iff] at *
      dsimp only
      omega
    unfold Ar.load
    rw [hu, hq]
    simp only [if_true]
    rw [lay_getD hle, if_neg]
    rw [hl]
    unfold Ar.inUse at hq
    rw [Bool.or_eq_true, young_iff, old_iff] at hq
    omega
  · have hu : Ar.inUse { A with grn := A.grn + (1 + (A.thing p).2.1).toNat, ws := lay A.ws A.grn ((A.ws.drop p.toNat).take (1 + (A.thing p).2.1).toNat) } (A.grn + j) = true := by
      unfold Ar.inUse
      rw [Bool.or_eq_true, old_iff]
      right
      dsimp only
      omega
    have hup : A.inUse (p + j) = true := by
      unfold Ar.whole at h
      unfold Ar.inUse
      have h2 := h.2.1
      simp only [Bool.or_eq_true, Bool.and_eq_true, young_iff, old_iff] at h2 ⊢
      omega
    unfold Ar.load
    rw [hu, hup]
    simp only [if_true]
    rw [lay_getD hle, if_pos (by rw [hl]; omega)]
    simp only [List.getD_eq_getElem?_getD]
    rw [List.getElem?_take, if_pos (by omega), List.getElem?_drop]
    congr 2; omega

end
end Go.Proofs.Ytjifdalflepcoac

namespace Go.Proofs.Ytjifdalflepcoac
set_option linter.unusedVariables false
set_option linter.unusedSimpArgs false

section
variable {O : Wo} {W : Wd} {φ ψ ψ' : Int → Int} {A A' : Ar} {S S' : Int → Prop} {N N' : List Int}

/-- Behind a step in the midst. -/
def CuTo (O : Wo) (W : Wd) (φ : Int → Int) (A : Ar) (S : Int → Prop) (ψ : Int → Int) (N : List Int) (A' : Ar) (Al : Int → Prop) (T : (Int → Prop) → (Int → Int) → List Int → Prop) : Prop :=
  ∃ S' ψ' N', Cu O W φ A' S' ψ' N' ∧ Ext W A S ψ N A' S' ψ' N' ∧ (∀ k, S' k → S k ∨ Al k) ∧ T S' ψ' N'

theorem Cu.bring (R : Rep O W φ) (C : Cu O W φ A S ψ N) (hr : (O.ar.yng : Int) ≤ (O.ar.ws.length : Int) - O.ar.grn) {x : Int} {v : Vl} (hv : W.okV v) (hx : Wrd φ ψ S x v) :
    CuTo O W φ A S ψ N (mBring A x) (fun k => v.1 = 3 ∧ k = v.2) fun S' ψ' N' => mNow (mBring A x) x = encV ψ' v ∧ (v.1 = 3 → S' v.2) ∧ ∀ q, A.old q = true → (mBring A x).load q = A.load q := by
  by_cases ha : mAlive A x = true
  · have e : mBring A x = A := by unfold mBring; rw [if_pos ha]
    have hs := (C.alive R hv hx).1 ha
    rw [e]
    exact ⟨S, ψ, N, C, Ext.refl, fun k hk => .inl hk, C.now R hv hx hs, hs, fun _ _ => rfl⟩
  · have hns : ¬ (v.1 = 3 → S v.2) := fun h => ha ((C.alive R hv hx).2 h)
    have h3 : v.1 = 3 := Decidable.byContradiction fun h => hns (fun h' => (h h').elim)
    have hs : ¬ S v.2 := fun h => hns (fun _ => h)
    obtain ⟨i, hi⟩ : ∃ i, v.2 = i := ⟨_, rfl⟩
    have hl := Wd.okV_ref hv h3
    rw [hi] at hs hl
    have ho : (W.th i).old = false := by
      cases h : (W.th i).old
      · rfl
      · exact (hs (C.so i hl h)).elim
    have hxe : x = encV φ v := by
      rcases hx with h | ⟨h, _⟩
      · exact h
      · exact (hns h).elim
    have e4 : x / 4 = φ i := by rw [hxe, encV_ref φ h3, hi]; omega
    have hA := C.sm.ok
    have hfl := C.fresh_load R hl ho hs
    have hth : A.thing (φ i) = ((W.th i).k, ((W.th i).fs.length : Int), 0) := (thing_of_load hfl.1).trans (R.th i hl)
    have hyA : ∀ j : Int, 0 ≤ j → j ≤ (W.th i).fs.length → A.young (φ i + j) = true := fun j h0 h1 => by
      have := R.young hl ho h0 h1
      unfold Ar.young at *; rw [C.sm.yng]; exact this
    have hy0 : A.young (φ i) = true := by have := hyA 0 (by omega) (by omega); rwa [Int.add_zero] at this
    have hcond : (A.thing (φ i)).2.2 = 0 ∧ A.whole (φ i) (A.thing (φ i)).2.1 = true ∧ 1 + (A.thing (φ i)).2.1 ≤ (A.ws.length : Int) - A.grn := by
      rw [hth]
      refine ⟨rfl, ?_, C.room R hr hl ho hs⟩
      unfold Ar.whole
      rw [hy0, hyA _ (by omega) (Int.le_refl _)]; rfl
    obtain ⟨c1, c2, c3, c4⟩ := Ar.copy_loads hA hcond
    rw [hth] at c3 c4
    dsimp only at c3 c4
    have hB : (A.copy (φ i)).2.ok := hA.copy _
    obtain ⟨B, hBe⟩ : ∃ B, (A.copy (φ i)).2 = B := ⟨_, rfl⟩
    have e : mBring A x = B.store (φ i) (-1 - A.grn) := by
      unfold mBring; rw [if_neg ha, e4, c1, hBe]
    rw [hBe] at c2 c3 c4 hB
    have hsB : Sm A B := by rw [← hBe]; exact Sm.copy hA _
    have hsm : Sm O.ar (mBring A x) := C.sm.trans (Sm.bring hA x)
    have hp := R.place hl
    have y0 := young_iff.1 hy0
    have a1 := hA.h1; have a2 := hA.h2
    have useB : B.inUse (φ i) = true := by unfold Ar.inUse; rw [Bool.or_eq_true, young_iff, hsB.yng]; exact .inl y0
    have hload := fun q => Ar.load_store hB (φ i) q (-1 - (A.grn : Int))
    have hlo : ∀ q, q ≠ φ i → (B.store (φ i) (-1 - (A.grn : Int))).load q = B.load q := fun q hq => by rw [hload, if_neg (fun h => hq h.1)]
    have hlq : ∀ q, A.inUse q = true → q ≠ φ i → (B.store (φ i) (-1 - (A.grn : Int))).load q = A.load q := fun q hq h => (hlo q h).trans (c2 q hq)
    have hold : ∀ q, A.old q = true → (B.store (φ i) (-1 - (A.grn : Int))).load q = A.load q := fun q hq => by
      refine hlq q (by unfold Ar.inUse; rw [hq]; simp) ?_
      have := old_iff.1 hq
      omega
    have hnew : ∀ j : Int, 0 ≤ j → j ≤ (W.th i).fs.length → (B.store (φ i) (-1 - (A.grn : Int))).load (A.grn + j) = O.ar.load (φ i + j) := fun j h0 h1 => by
      rw [hlo _ (by omega), c3 j h0 h1, C.yet i hl ho hs j h0 h1]
    rw [e]
    rw [e] at hsm
    have hni : ¬ i ∈ N := fun h => hs ((C.nm i).1 h).1
    have fe : ∀ k, k ≠ i → extF i A.grn ψ k = ψ k := fun k hk => if_neg hk
    have fi : extF i A.grn ψ i = A.grn := if_pos rfl
    have fS : ∀ k, S k → extF i A.grn ψ k = ψ k := fun k hk => fe k (fun h => hs (h ▸ hk))
    have hgr : ((B.store (φ i) (-1 - (A.grn : Int))).grn : Int) = A.grn + (1 + (W.th i).fs.length) := by rw [Ar.store_grn]; exact c4
    have hti : (B.store (φ i) (-1 - (A.grn : Int))).thing A.grn = ((W.th i).k, ((W.th i).fs.length : Int), 0) := by
      have := hnew 0 (by omega) (by omega)
      rw [Int.add_zero, Int.add_zero] at this
      exact (thing_of_load' this).trans (R.th i hl)
    have hts : ∀ k, S k → (B.store (φ i) (-1 - (A.grn : Int))).thing (ψ k) = A.thing (ψ k) := fun k hk => by
      refine thing_of_load (hold _ ?_)
      have := C.inO R hk (j := 0) (by omega) (by omega)
      rwa [Int.add_zero] at this
    have wr : ∀ {y : Int} {u : Vl}, Wrd φ ψ S y u → Wrd φ (extF i A.grn ψ) (fun k => S k ∨ k = i) y u := fun hw => by
      rcases hw with h1 | ⟨h1, h2⟩
      · exact .inl h1
      · exact .inr ⟨fun h => .inl (h1 h), by rw [h2]; exact (encV_congr (fun h => fS _ (h1 h))).symm⟩
    refine ⟨fun k => S k ∨ k = i, extF i A.grn ψ, N ++ [i], ⟨hsm, fun k hk => ?_, fun k hk h => .inl (C.so k hk h), fun k hk h => ?_, ?_, fun k => ?_, ?_, fun k hk => ?_, fun k hk hko hks j h0 h1 => ?_, fun k hk => ?_, fun k hk j u hu => ?_⟩,
      ⟨fun k hk => .inl hk, fS, ⟨[i], rfl⟩, fun k hk j u hu hup => ?_, by have := hsB.grn; rw [Ar.store_grn]; exact this⟩, fun k hk => ?_, ?_, fun _ => .inr hi, hold⟩
    · rcases hk with hk | rfl
      · exact C.sl k hk
      · exact hl
    · rw [fe k (fun e => by rw [e, ho] at h; cases h)]; exact C.po k hk h
    · rw [List.nodup_append]
      exact ⟨C.nd, by simp, fun a ha b hb e => hni (by rw [← List.mem_singleton.1 hb, ← e]; exact ha)⟩
    · rw [List.mem_append, List.mem_singleton, C.nm]
      constructor
      · rintro (⟨h1, h2⟩ | rfl)
        · exact ⟨.inl h1, h2⟩
        · exact ⟨.inr rfl, ho⟩
      · rintro ⟨h1 | rfl, h2⟩
        · exact .inl ⟨h1, h2⟩
        · exact .inr rfl
    · rw [List.map_append]
      have e1 : N.map (extF i A.grn ψ) = N.map ψ := List.map_congr_left fun k hk => fS k ((C.nm k).1 hk).1
      rw [e1]
      refine Tile.app (Tile.congr (fun p hp' => ?_) C.tile) ⟨by rw [fi], by rw [fi, hti], ?_⟩
      · obtain ⟨k, hk, rfl⟩ := List.mem_map.1 hp'
        exact hts k ((C.nm k).1 hk).1
      · rw [fi, hti]
        show (A.grn : Int) + 1 + (W.th i).fs.length = _
        rw [hgr]; omega
    · rcases hk with hk | rfl
      · rw [fS k hk]; exact (hts k hk).trans (C.th k hk)
      · rw [fi]; exact hti
    · have hki : k ≠ i := fun e => hks (.inr e)
      have hkS : ¬ S k := fun h => hks (.inl h)
      have hyk := R.young hk hko h0 h1
      refine (hlq _ ?_ ?_).trans (C.yet k hk hko hkS j h0 h1)
      · unfold Ar.inUse Ar.young at *; rw [C.sm.yng, hyk]; rfl
      · have := R.apart hk hl hki
        have := R.apart hl hk (Ne.symm hki)
        omega
    · rcases List.mem_append.1 hk with hk | hk
      · have hkS := (C.nm k).1 hk
        have hki : k ≠ i := fun e => hs (e ▸ hkS.1)
        rw [fS k hkS.1]
        refine (hlq _ ?_ (fun e => hki (R.inj k i (C.sl k hkS.1) hl e))).trans (C.fwd k hk)
        unfold Ar.inUse; rw [(C.young_phi R (C.sl k hkS.1)).2 hkS.2]; rfl
      · rw [List.mem_singleton.1 hk, fi, hload, if_pos ⟨rfl, useB⟩]
    · rcases hk with hk | rfl
      · have hj : j < (W.th k).fs.length := (List.getElem?_eq_some_iff.1 hu).1
        rw [fS k hk, hold _ (by rw [Int.add_assoc]; exact C.inO R hk (by omega) (by omega))]
        exact wr (C.fd k hk j u hu)
      · have hj : j < (W.th k).fs.length := (List.getElem?_eq_some_iff.1 hu).1
        rw [fi, Int.add_assoc, hnew (1 + j) (by omega) (by omega), ← Int.add_assoc]
        exact .inl (R.fl k hl j u hu)
    · have hj : j < (W.th k).fs.length := (List.getElem?_eq_some_iff.1 hu).1
      refine ⟨fun h => .inl (hup.1 h), ?_⟩
      rw [fS k hk, hold _ (by rw [Int.add_assoc]; exact C.inO R hk (by omega) (by omega)), hup.2]
      exact (encV_congr (fun h => fS _ (hup.1 h))).symm
    · rcases hk with hk | rfl
      · exact .inl hk
      · exact .inr ⟨h3, hi.symm⟩
    · unfold mNow
      have hyB : (B.store (φ i) (-1 - (A.grn : Int))).young (φ i) = true := by rw [young_iff, Ar.store_yng, hsB.yng]; exact y0
      have hlp : (B.store (φ i) (-1 - (A.grn : Int))).load (φ i) = -1 - A.grn := by rw [hload, if_pos ⟨rfl, useB⟩]
      rw [e4, hlp, if_pos ⟨by rw [hxe, encV_ref φ h3]; omega, hyB, by omega⟩, encV_ref _ h3, hi, fi]
      have := hB.h3; have := hB.h4
      unfold refW
      rw [show 4 * (-1 - (-1 - (A.grn : Int))) + 1 = 4 * (A.grn : Int) + 1 by omega, IntKind.wrap_i64]
      omega

/-- A field is as it shall be. -/
theorem Cu.put (R : Rep O W φ) (C : Cu O W φ A S ψ N) {i : Int} (hi : S i) {j : Nat} {v : Vl} (hj : (W.th i).fs[j]? = some v) (hs : v.1 = 3 → S v.2) :
    Cu O W φ (A.store (ψ i + 1 + j) (encV ψ v)) S ψ N ∧ Ext W A S ψ N (A.store (ψ i + 1 + j) (encV ψ v)) S ψ N ∧ Up W (A.store (ψ i + 1 + j) (encV ψ v)) S ψ i j v := by
  have hA := C.sm.ok
  have hjl : j < (W.th i).fs.length := (List.getElem?_eq_some_iff.1 hj).1
  have hpi := C.place R hi
  have b1 := hA.h1; have b2 := hA.h2; have b3 := hA.h3; have b4 := hA.h4
  have hok := R.hw.tv i (C.sl i hi) v (List.mem_of_getElem? hj)
  have hR : R64 (encV ψ v) := by
    unfold R64
    rcases hok with h | h | h | h
    · have e : encV ψ v = 2 := by simp [encV, h.1]
      rw [e]; decide
    · have e : encV ψ v = 4 * v.2 := by simp [encV, h.1]
      have := h.2
      unfold big at this
      rw [e]; omega
    · have e : encV ψ v = 3 := by simp [encV, h.1]
      rw [e]; decide
    · rw [encV_ref ψ h.1]
      have := C.place R (hs h.1)
      omega
  have huse : A.inUse (ψ i + 1 + j) = true := by rw [Int.add_assoc]; exact C.inU R hi (by omega) (by omega)
  have hload := fun q => Ar.load_store hA (ψ i + 1 + (j : Int)) q (encV ψ v)
  have hne : ∀ q, q ≠ ψ i + 1 + j → (A.store (ψ i + 1 + j) (encV ψ v)).load q = A.load q := fun q hq => by rw [hload, if_neg (fun h => hq h.1)]
  have heq : (A.store (ψ i + 1 + j) (encV ψ v)).load (ψ i + 1 + j) = encV ψ v := by rw [hload, if_pos ⟨rfl, huse⟩]
  have hth : ∀ k, S k → (A.store (ψ i + 1 + j) (encV ψ v)).thing (ψ k) = A.thing (ψ k) := fun k hk => by
    refine thing_of_load (hne _ ?_)
    by_cases e : k = i
    · subst e; omega
    · have := C.apart R hk hi e; omega
  have hyo : ∀ q, A.young q = true → (A.store (ψ i + 1 + j) (encV ψ v)).load q = A.load q := fun q hq => by
    refine hne _ ?_
    have := young_iff.1 hq
    omega
  have hfd : ∀ k, S k → ∀ (n : Nat) (u : Vl), (W.th k).fs[n]? = some u → (k = i ∧ n = j ∧ u = v) ∨ (A.store (ψ i + 1 + j) (encV ψ v)).load (ψ k + 1 + n) = A.load (ψ k + 1 + n) := fun k hk n u hu => by
    have hn : n < (W.th k).fs.length := (List.getElem?_eq_some_iff.1 hu).1
    by_cases e : k = i
    · subst e
      by_cases en : n = j
      · subst en
        rw [hj] at hu; cases hu
        exact .inl ⟨rfl, rfl, rfl⟩
      · exact .inr (hne _ (by omega))
    · have := C.apart R hk hi e
      exact .inr (hne _ (by omega))
  have hup : Up W (A.store (ψ i + 1 + j) (encV ψ v)) S ψ i j v := ⟨hs, heq⟩
  refine ⟨⟨C.sm.trans (Sm.store hA _ hR), C.sl, C.so, C.po, C.nd, C.nm, ?_, fun k hk => (hth k hk).trans (C.th k hk), fun k hk hko hks n h0 h1 => ?_, fun k hk => ?_, fun k hk n u hu => ?_⟩, ⟨fun _ h => h, fun _ _ => rfl, ⟨[], by simp⟩, fun k hk n u hu h => ?_, by rw [Ar.store_grn]; exact Nat.le_refl _⟩, hup⟩
  · rw [Ar.store_grn]
    refine Tile.congr (fun p hp => ?_) C.tile
    obtain ⟨k, hk, rfl⟩ := List.mem_map.1 hp
    exact hth k ((C.nm k).1 hk).1
  · have hyk := R.young hk hko h0 h1
    rw [hyo _ (by unfold Ar.young at *; rw [C.sm.yng]; exact hyk)]
    exact C.yet k hk hko hks n h0 h1
  · have hkS := (C.nm k).1 hk
    rw [hyo _ ((C.young_phi R (C.sl k hkS.1)).2 hkS.2)]
    exact C.fwd k hk
  · rcases hfd k hk n u hu with ⟨rfl, rfl, rfl⟩ | h
    · exact .inr hup
    · rw [h]; exact C.fd k hk n u hu
  · rcases hfd k hk n u hu with ⟨rfl, rfl, rfl⟩ | e
    · exact hup
    · exact ⟨h.1, e.trans h.2⟩

/-- A field comes over. -/
theorem Cu.field (R : Rep O W φ) (C : Cu O W φ A S ψ N) (hr : (O.ar.yng : Int) ≤ (O.ar.ws.length : Int) - O.ar.grn) {i : Int} (hi : S i) {j : Nat} {v : Vl} (hj : (W.th i).fs[j]? = some v) :
    CuTo O W φ A S ψ N (mField A (ψ i + 1 + j)) (fun k => v.1 = 3 ∧ k = v.2) fun S' ψ' N' => Up W (mField A (ψ i + 1 + j)) S' ψ' i j v := by
  have hok := R.hw.tv i (C.sl i hi) v (List.mem_of_getElem? hj)
  obtain ⟨S1, ψ1, N1, C1, E1, h1, h2, h3, h4⟩ := C.bring R hr hok (C.fd i hi j v hj)
  have e : mField A (ψ i + 1 + j) = (mBring A (A.load (ψ i + 1 + j))).store (ψ1 i + 1 + j) (encV ψ1 v) := by
    unfold mField; rw [h2, E1.at_ i hi]
  rw [e]
  obtain ⟨C2, E2, hup⟩ := C1.put R (E1.sub i hi) hj h3
  exact ⟨S1, ψ1, N1, C2, E1.trans E2, h1, hup⟩

end
end Go.Proofs.Ytjifdalflepcoac

namespace Go.Proofs.Ytjifdalflepcoac
set_option linter.unusedVariables false
set_option linter.unusedSimpArgs false

section
variable {O : Wo} {W : Wd} {φ ψ ψ' : Int → Int} {A A' : Ar} {S S' Al : Int → Prop} {N N' : List Int} {qw : List (Int × Int)}

theorem Cu.fields (R : Rep O W φ) (hr : (O.ar.yng : Int) ≤ (O.ar.ws.length : Int) - O.ar.grn) {i : Int} : ∀ (n : Nat) {A : Ar} {S : Int → Prop} {ψ : Int → Int} {N : List Int} (j : Nat), Cu O W φ A S ψ N → S i → j + n ≤ (W.th i).fs.length →
    CuTo O W φ A S ψ N (mFields n A (ψ i + 1 + j)) (fun k => ∃ v ∈ (W.th i).fs, v.1 = 3 ∧ k = v.2) fun S' ψ' N' => ∀ (m : Nat) (v : Vl), j ≤ m → m < j + n → (W.th i).fs[m]? = some v → Up W (mFields n A (ψ i + 1 + j)) S' ψ' i m v
  | 0, A, S, ψ, N, j, C, hi, hn => ⟨S, ψ, N, C, Ext.refl, fun k h => .inl h, fun m v h1 h2 => by omega⟩
  | n + 1, A, S, ψ, N, j, C, hi, hn => by
    have hj : (W.th i).fs[j]? = some (W.th i).fs[j] := List.getElem?_eq_getElem (by omega)
    obtain ⟨S1, ψ1, N1, C1, E1, h1, u1⟩ := C.field R hr hi hj
    obtain ⟨S2, ψ2, N2, C2, E2, h2, u2⟩ := Cu.fields R hr n (j + 1) C1 (E1.sub i hi) (by omega)
    have e : mFields (n + 1) A (ψ i + 1 + j) = mFields n (mField A (ψ i + 1 + j)) (ψ1 i + 1 + ((j + 1 : Nat) : Int)) := by
      rw [E1.at_ i hi]
      show mFields n (mField A (ψ i + 1 + j)) (ψ i + 1 + j + 1) = _
      congr 1; omega
    rw [e]
    refine ⟨S2, ψ2, N2, C2, E1.trans E2, fun k hk => ?_, fun m v h3 h4 hv => ?_⟩
    · rcases h2 k hk with h | h
      · rcases h1 k h with h | ⟨h, h'⟩
        · exact .inl h
        · exact .inr ⟨_, List.getElem_mem (by omega), h, h'⟩
      · exact .inr h
    · by_cases em : m = j
      · subst em
        rw [hj] at hv; cases hv
        exact E2.up i (E1.sub i hi) _ _ hj u1
      · exact u2 m v (by omega) (by omega) hv

/-- In the midst of looking. -/
structure Sc (O : Wo) (W : Wd) (φ : Int → Int) (Al : Int → Prop) (s : Ms) (S : Int → Prop) (ψ : Int → Int) (N : List Int) : Prop where
  C : Cu O W φ s.A S ψ N
  al : ∀ k, S k → Al k
  wk : ∀ p ∈ s.wk, ∃ i, S i ∧ (W.th i).k = 3 ∧ p = ψ i
  ep : ∀ p ∈ s.ep, ∃ i, S i ∧ (W.th i).k = 4 ∧ p = ψ i

structure SE (W : Wd) (s : Ms) (S : Int → Prop) (ψ : Int → Int) (N : List Int) (s' : Ms) (S' : Int → Prop) (ψ' : Int → Int) (N' : List Int) : Prop where
  E : Ext W s.A S ψ N s'.A S' ψ' N'
  wk : ∀ p ∈ s.wk, p ∈ s'.wk
  ep : ∀ p ∈ s.ep, p ∈ s'.ep

variable {s s' : Ms}

theorem SE.refl : SE W s S ψ N s S ψ N := ⟨Ext.refl, fun _ h => h, fun _ h => h⟩
theorem SE.trans {s2 : Ms} {S2 : Int → Prop} {ψ2 : Int → Int} {N2 : List Int} (h : SE W s S ψ N s' S' ψ' N') (k : SE W s' S' ψ' N' s2 S2 ψ2 N2) : SE W s S ψ N s2 S2 ψ2 N2 :=
  ⟨h.E.trans k.E, fun p hp => k.wk p (h.wk p hp), fun p hp => k.ep p (h.ep p hp)⟩

/-- It was looked at. -/
def Looked (W : Wd) (s : Ms) (S : Int → Prop) (ψ : Int → Int) (i : Int) : Prop :=
  (((W.th i).k = 1 ∨ (W.th i).k = 2) → ∀ (j : Nat) (v : Vl), (W.th i).fs[j]? = some v → Up W s.A S ψ i j v) ∧
  ((W.th i).k = 3 → ψ i ∈ s.wk ∧ ∀ v, (W.th i).fs[1]? = some v → Up W s.A S ψ i 1 v) ∧ ((W.th i).k = 4 → ψ i ∈ s.ep)

/-- It leads to nothing young. -/
def Clean (W : Wd) (i : Int) : Prop := (W.th i).old = true ∧ ∀ v ∈ (W.th i).fs, v.1 = 3 → (W.th v.2).old = true

theorem Looked.mono (h : SE W s S ψ N s' S' ψ' N') {i : Int} (hi : S i) (hl : Looked W s S ψ i) : Looked W s' S' ψ' i :=
  ⟨fun hk j v hv => h.E.up i hi j v hv (hl.1 hk j v hv), fun hk => ⟨by rw [h.E.at_ i hi]; exact h.wk _ (hl.2.1 hk).1, fun v hv => h.E.up i hi 1 v hv ((hl.2.1 hk).2 v hv)⟩, fun hk => by rw [h.E.at_ i hi]; exact h.ep _ (hl.2.2 hk)⟩

theorem Sc.lists (H : Sc O W φ Al s S ψ N) {A' : Ar} (E : Ext W s.A S ψ N A' S' ψ' N') : (∀ p ∈ s.wk, ∃ i, S' i ∧ (W.th i).k = 3 ∧ p = ψ' i) ∧ ∀ p ∈ s.ep, ∃ i, S' i ∧ (W.th i).k = 4 ∧ p = ψ' i := by
  constructor
  · intro p hp
    obtain ⟨i, h1, h2, h3⟩ := H.wk p hp
    exact ⟨i, E.sub i h1, h2, by rw [E.at_ i h1]; exact h3⟩
  · intro p hp
    obtain ⟨i, h1, h2, h3⟩ := H.ep p hp
    exact ⟨i, E.sub i h1, h2, by rw [E.at_ i h1]; exact h3⟩

theorem fits_two {k f : Int} (h : fitsW k f = true) (hk : k = 3 ∨ k = 4 ∨ k = 1) : f = 2 := by
  unfold fitsW at h
  rcases hk with rfl | rfl | rfl <;> simp at h <;> exact h

theorem Wd.two {W : Wd} (h : W.ok) {i : Int} (hl : W.live i) (hk : (W.th i).k = 3 ∨ (W.th i).k = 4 ∨ (W.th i).k = 1) : (W.th i).fs.length = 2 := by
  have := fits_two (h.tk i hl) hk
  omega

/-- Looking at a thing. -/
theorem Sc.look (R : Rep O W φ) (hr : (O.ar.yng : Int) ≤ (O.ar.ws.length : Int) - O.ar.grn) (hal : Closed W.nd qw Al) (H : Sc O W φ Al s S ψ N) {i : Int} (hi : S i) :
    ∃ S' ψ' N', Sc O W φ Al (mLook s (ψ i)) S' ψ' N' ∧ SE W s S ψ N (mLook s (ψ i)) S' ψ' N' ∧ Looked W (mLook s (ψ i)) S' ψ' i := by
  have hth := H.C.th i hi
  have hl := H.C.sl i hi
  unfold mLook
  rw [hth]
  dsimp only
  by_cases k12 : (W.th i).k = 1 ∨ (W.th i).k = 2
  · rw [if_pos k12]
    obtain ⟨S1, ψ1, N1, C1, E1, h1, u1⟩ := Cu.fields R hr (W.th i).fs.length 0 H.C hi (by omega)
    rw [show ψ i + 1 + ((0 : Nat) : Int) = ψ i + 1 by omega] at C1 E1 u1
    rw [Int.toNat_natCast]
    have hL := H.lists E1
    refine ⟨S1, ψ1, N1, ⟨C1, fun k hk => ?_, hL.1, hL.2⟩, ⟨E1, fun _ h => h, fun _ h => h⟩, fun _ j v hv => u1 j v (by omega) (by have := (List.getElem?_eq_some_iff.1 hv).1; omega) hv, fun h => by omega, fun h => by omega⟩
    rcases h1 k hk with h | ⟨v, hv, h3, rfl⟩
    · exact H.al k h
    · exact hal i _ (H.al i hi) (.inl ⟨k12, by show ((3, v.2) : Vl) ∈ (W.th i).fs; rw [← h3]; exact hv⟩)
  · rw [if_neg k12]
    by_cases k3 : (W.th i).k = 3
    · rw [if_pos k3]
      have h2 := Wd.two R.hw hl (.inl k3)
      have hj : (W.th i).fs[1]? = some (W.th i).fs[1] := List.getElem?_eq_getElem (by omega)
      obtain ⟨S1, ψ1, N1, C1, E1, h1, u1⟩ := H.C.field R hr hi hj
      rw [show ψ i + 1 + ((1 : Nat) : Int) = ψ i + 2 by omega] at C1 E1 u1
      have hL := H.lists E1
      refine ⟨S1, ψ1, N1, ⟨C1, fun k hk => ?_, fun p hp => ?_, hL.2⟩, ⟨E1, fun p hp => by simp [hp], fun _ h => h⟩, fun h => (k12 h).elim, fun _ => ⟨by rw [E1.at_ i hi]; simp, fun v hv => ?_⟩, fun h => by omega⟩
      · rcases h1 k hk with h | ⟨h3, rfl⟩
        · exact H.al k h
        · refine hal i _ (H.al i hi) (.inr (.inl ⟨k3, ?_⟩))
          show (W.th i).fs[1]? = _
          rw [hj]; congr 1; exact Prod.ext h3 rfl
      · rcases List.mem_append.1 hp with h | h
        · exact hL.1 p h
        · rw [List.mem_singleton.1 h]; exact ⟨i, E1.sub i hi, k3, (E1.at_ i hi).symm⟩
      · rw [hj] at hv; cases hv; exact u1
    · rw [if_neg k3]
      by_cases k4 : (W.th i).k = 4
      · rw [if_pos k4]
        refine ⟨S, ψ, N, ⟨H.C, H.al, H.wk, fun p hp => ?_⟩, ⟨Ext.refl, fun _ h => h, fun p hp => by simp [hp]⟩, fun h => (k12 h).elim, fun h => (k3 h).elim, fun _ => by simp⟩
        rcases List.mem_append.1 hp with h | h
        · exact H.ep p h
        · rw [List.mem_singleton.1 h]; exact ⟨i, hi, k4, rfl⟩
      · rw [if_neg k4]
        exact ⟨S, ψ, N, H, SE.refl, fun h => (k12 h).elim, fun h => (k3 h).elim, fun h => (k4 h).elim⟩

theorem Tile.split {A : Ar} {m : List Int} : ∀ {l : List Int} {a b : Int}, Tile A (l ++ m) a b → ∃ c, Tile A l a c ∧ Tile A m c b
  | [], a, b, h => ⟨a, rfl, h⟩
  | p :: l, a, b, h => by
    obtain ⟨c, h1, h2⟩ := Tile.split h.2.2
    exact ⟨c, ⟨h.1, h.2.1, h1⟩, h2⟩

theorem Tile.end_ {A : Ar} : ∀ {l : List Int} {a b c : Int}, Tile A l a b → Tile A l a c → b = c
  | [], a, b, c, h, k => by have h1 : a = b := h; have h2 : a = c := k; omega
  | p :: l, a, b, c, h, k => Tile.end_ h.2.2 k.2.2

/-- Up to c all was looked at. -/
structure Sn (O : Wo) (W : Wd) (s : Ms) (S : Int → Prop) (ψ : Int → Int) (N : List Int) (c : Int) : Prop where
  sp : ∃ N1 N2, N = N1 ++ N2 ∧ Tile s.A (N1.map ψ) O.ar.grn c ∧ ∀ i ∈ N1, Looked W s S ψ i
  old : ∀ i, W.live i → (W.th i).old = true → Looked W s S ψ i ∨ Clean W i

theorem Sn.more (C : Cu O W φ s.A S ψ N) (C' : Cu O W φ s'.A S' ψ' N') (E : SE W s S ψ N s' S' ψ' N') {c : Int} (h : Sn O W s S ψ N c) : Sn O W s' S' ψ' N' c := by
  obtain ⟨N1, N2, e, ht, hl⟩ := h.sp
  obtain ⟨m, em⟩ := E.E.pre
  have inS : ∀ i ∈ N1, S i := fun i hi => ((C.nm i).1 (by rw [e]; simp [hi])).1
  refine ⟨⟨N1, N2 ++ m, by rw [em, e]; simp, ?_, fun i hi => (hl i hi).mono E (inS i hi)⟩, fun i hi ho => ?_⟩
  · have e1 : N1.map ψ' = N1.map ψ := List.map_congr_left fun i hi => E.E.at_ i (inS i hi)
    rw [e1]
    refine Tile.congr (fun p hp => ?_) ht
    obtain ⟨i, hi, rfl⟩ := List.mem_map.1 hp
    rw [C.th i (inS i hi), ← E.E.at_ i (inS i hi), C'.th i (E.E.sub i (inS i hi))]
  · rcases h.old i hi ho with h1 | h1
    · exact .inl (h1.mono E (C.so i hi ho))
    · exact .inr h1

theorem Sn.all (R : Rep O W φ) (C : Cu O W φ s.A S ψ N) {c : Int} (h : Sn O W s S ψ N c) (hc : c = s.A.grn) : ∀ i ∈ N, Looked W s S ψ i := by
  obtain ⟨N1, N2, e, ht, hl⟩ := h.sp
  have hw := C.tile
  rw [e, List.map_append] at hw
  obtain ⟨m, h1, h2⟩ := hw.split
  have := h1.end_ ht
  subst this
  cases N2 with
  | nil => rw [e]; simpa using hl
  | cons i N2 =>
    have h3 := Tile.le h2.2.2
    have h4 := s.A.thing_fields (ψ i)
    have h5 : ψ i = m := h2.1
    omega

theorem Sc.scan (R : Rep O W φ) (hr : (O.ar.yng : Int) ≤ (O.ar.ws.length : Int) - O.ar.grn) (hal : Closed W.nd qw Al) : ∀ (n : Nat) {s : Ms} {S : Int → Prop} {ψ : Int → Int} {N : List Int} (c : Int),
    Sc O W φ Al s S ψ N → Sn O W s S ψ N c → c ≤ s.A.grn → ((O.ar.ws.length : Int) - c).toNat < n →
    ∃ S' ψ' N', Sc O W φ Al (mScan n s c).1 S' ψ' N' ∧ SE W s S ψ N (mScan n s c).1 S' ψ' N' ∧ Sn O W (mScan n s c).1 S' ψ' N' (mScan n s c).2 ∧ (mScan n s c).2 = (mScan n s c).1.A.grn
  | 0, s, S, ψ, N, c, H, hs, hc, hn => by omega
  | n + 1, s, S, ψ, N, c, H, hs, hc, hn => by
    unfold mScan
    by_cases hlt : c < s.A.grn
    · rw [if_pos hlt]
      obtain ⟨N1, N2, e, ht, hl⟩ := hs.sp
      have hw := H.C.tile
      rw [e, List.map_append] at hw
      obtain ⟨m, h1, h2⟩ := hw.split
      have hm := h1.end_ ht
      subst hm
      cases N2 with
      | nil => have h2' : m = (s.A.grn : Int) := h2; omega
      | cons i N2 =>
        have hic : ψ i = m := h2.1
        have hi : S i := ((H.C.nm i).1 (by rw [e]; simp)).1
        subst hic
        have hth := H.C.th i hi
        obtain ⟨S1, ψ1, M1, H1, E1, hL⟩ := H.look R hr hal hi
        have hsn := hs.more H.C H1.C E1
        have inS : ∀ k ∈ N1, S k := fun k hk => ((H.C.nm k).1 (by rw [e]; simp [hk])).1
        have hth1 := H1.C.th i (E1.E.sub i hi)
        rw [E1.E.at_ i hi] at hth1
        obtain ⟨mm, em⟩ := E1.E.pre
        have hsn' : Sn O W (mLook s (ψ i)) S1 ψ1 M1 (ψ i + (1 + (s.A.thing (ψ i)).2.1)) := by
          refine ⟨⟨N1 ++ [i], N2 ++ mm, by rw [em, e]; simp, ?_, fun k hk => ?_⟩, hsn.old⟩
          · have e1 : N1.map ψ1 = N1.map ψ := List.map_congr_left fun k hk => E1.E.at_ k (inS k hk)
            rw [List.map_append, e1]
            refine Tile.app (Tile.congr (fun p hp => ?_) ht) ⟨E1.E.at_ i hi, by rw [E1.E.at_ i hi, hth1], ?_⟩
            · obtain ⟨k, hk, rfl⟩ := List.mem_map.1 hp
              rw [H.C.th k (inS k hk), ← E1.E.at_ k (inS k hk), H1.C.th k (E1.E.sub k (inS k hk))]
            · rw [E1.E.at_ i hi, hth1, hth]
              show ψ i + 1 + ((W.th i).fs.length : Int) = ψ i + (1 + (W.th i).fs.length)
              omega
          · rcases List.mem_append.1 hk with h | h
            · exact (hl k h).mono E1 (inS k h)
            · rw [List.mem_singleton.1 h]; exact hL
        have hp := H1.C.place R (E1.E.sub i hi)
        rw [E1.E.at_ i hi] at hp
        have hth' := hth
        rw [hth] at hsn' ⊢
        dsimp only at hsn' ⊢
        obtain ⟨S2, ψ2, M2, H2, E2, hn2, hc2⟩ := Sc.scan R hr hal n _ H1 hsn' (by omega) (by have := H.C.sm.ok.h3; have := H.C.sm.len; omega)
        exact ⟨S2, ψ2, M2, H2, E1.trans E2, hn2, hc2⟩
    · rw [if_neg hlt]
      exact ⟨S, ψ, N, H, SE.refl, hs, by show c = (s.A.grn : Int); omega⟩

/-! Ephemerons. -/

theorem Sc.withA (H : Sc O W φ Al s S ψ N) {A' : Ar} (C : Cu O W φ A' S' ψ' N') (E : Ext W s.A S ψ N A' S' ψ' N') (hal : ∀ k, S' k → Al k) : Sc O W φ Al { s with A := A' } S' ψ' N' ∧ SE W s S ψ N { s with A := A' } S' ψ' N' :=
  ⟨⟨C, hal, (H.lists E).1, (H.lists E).2⟩, ⟨E, fun _ h => h, fun _ h => h⟩⟩

theorem Cu.eph (R : Rep O W φ) (hr : (O.ar.yng : Int) ≤ (O.ar.ws.length : Int) - O.ar.grn) (hal : Closed W.nd qw Al) : ∀ (l : List Int) {A : Ar} {S : Int → Prop} {ψ : Int → Int} {N : List Int},
    Cu O W φ A S ψ N → (∀ k, S k → Al k) → (∀ p ∈ l, ∃ i, S i ∧ (W.th i).k = 4 ∧ p = ψ i) →
    ∃ S' ψ' N', Cu O W φ (mEph A l) S' ψ' N' ∧ Ext W A S ψ N (mEph A l) S' ψ' N' ∧ (∀ k, S' k → Al k) ∧
      ∀ i, S i → (W.th i).k = 4 → ψ i ∈ l → (∀ v, (W.th i).fs[0]? = some v → v.1 = 3 → S v.2) → ∀ v, (W.th i).fs[1]? = some v → v.1 = 3 → S' v.2
  | [], A, S, ψ, N, C, ha, hl => ⟨S, ψ, N, C, Ext.refl, ha, fun i _ _ h => by cases h⟩
  | p :: l, A, S, ψ, N, C, ha, hl => by
    obtain ⟨i, hi, k4, rfl⟩ := hl p (by simp)
    have hli := C.sl i hi
    have h2 := Wd.two R.hw hli (.inr (.inl k4))
    have hj0 : (W.th i).fs[0]? = some (W.th i).fs[0] := List.getElem?_eq_getElem (by omega)
    have hj1 : (W.th i).fs[1]? = some (W.th i).fs[1] := List.getElem?_eq_getElem (by omega)
    have hok := R.hw.tv i hli _ (List.mem_of_getElem? hj0)
    have hfd := C.fd i hi 0 _ hj0
    rw [show ψ i + 1 + ((0 : Nat) : Int) = ψ i + 1 by omega] at hfd
    have halive := C.alive R hok hfd
    have step : ∃ S1 ψ1 N1, Cu O W φ (mEph1 A (ψ i)) S1 ψ1 N1 ∧ Ext W A S ψ N (mEph1 A (ψ i)) S1 ψ1 N1 ∧ (∀ k, S1 k → Al k) ∧ ((∀ v, (W.th i).fs[0]? = some v → v.1 = 3 → S v.2) → ∀ v, (W.th i).fs[1]? = some v → v.1 = 3 → S1 v.2) := by
      unfold mEph1
      by_cases hm : mAlive A (A.load (ψ i + 1)) = true
      · rw [if_pos hm]
        have hkey := halive.1 hm
        obtain ⟨S1, ψ1, N1, C1, E1, h1, u1⟩ := C.field R hr hi hj0
        rw [show ψ i + 1 + ((0 : Nat) : Int) = ψ i + 1 by omega] at C1 E1 u1
        obtain ⟨S2, ψ2, N2, C2, E2, h3, u2⟩ := C1.field R hr (E1.sub i hi) hj1
        rw [E1.at_ i hi, show ψ i + 1 + ((1 : Nat) : Int) = ψ i + 2 by omega] at C2 E2 u2
        refine ⟨S2, ψ2, N2, C2, E1.trans E2, fun k hk => ?_, fun _ v hv h => by rw [hj1] at hv; cases hv; exact u2.1 h⟩
        rcases h3 k hk with h | ⟨h4, rfl⟩
        · rcases h1 k h with h | ⟨h4, rfl⟩
          · exact ha k h
          · exact ha _ (hkey h4)
        · refine hal i _ (ha i hi) (.inr (.inr (.inl ⟨k4, ?_, fun v hv h5 => ?_⟩)))
          · show (W.th i).fs[1]? = _
            rw [hj1]; congr 1; exact Prod.ext h4 rfl
          · have hv' : (W.th i).fs[0]? = some v := hv
            rw [hj0] at hv'; cases hv'
            exact ha _ (hkey h5)
      · rw [if_neg hm]
        exact ⟨S, ψ, N, C, Ext.refl, ha, fun h => (hm (halive.2 (fun h3 => h _ hj0 h3))).elim⟩
    obtain ⟨S1, ψ1, N1, C1, E1, ha1, hk1⟩ := step
    obtain ⟨S2, ψ2, N2, C2, E2, ha2, hk2⟩ := Cu.eph R hr hal l C1 ha1 (fun p hp => by
      obtain ⟨k, h3, h4, h5⟩ := hl p (by simp [hp])
      exact ⟨k, E1.sub k h3, h4, by rw [E1.at_ k h3]; exact h5⟩)
    have e : mEph A (ψ i :: l) = mEph (mEph1 A (ψ i)) l := rfl
    rw [e]
    refine ⟨S2, ψ2, N2, C2, E1.trans E2, ha2, fun k hk k4' hkl hkey v hv h3 => ?_⟩
    rcases List.mem_cons.1 hkl with h | h
    · have hki := C.inj R hk hi h
      subst hki
      exact E2.sub _ (hk1 hkey v hv h3)
    · exact hk2 k (E1.sub k hk) k4' (by rw [E1.at_ k hk]; exact h) (fun v hv h3 => E1.sub _ (hkey v hv h3)) v hv h3

/-! What waits. -/

/-- What waits in the wood, and in the world. -/
def Qrel (φ ψ : Int → Int) (S : Int → Prop) : List (Int × Int) → List (Int × Int) → Prop
  | [], [] => True
  | e :: l, f :: m => (e.1 = encV φ (3, f.1) ∧ Wrd φ ψ S e.2 (3, f.2)) ∧ Qrel φ ψ S l m
  | _, _ => False

theorem Qrel.mono (E : Ext W A S ψ N A' S' ψ' N') : ∀ {l m : List (Int × Int)}, Qrel φ ψ S l m → Qrel φ ψ' S' l m
  | [], [], _ => trivial
  | e :: l, f :: m, h => ⟨⟨h.1.1, E.wrd h.1.2⟩, Qrel.mono E h.2⟩

theorem Qrel.app {e f : Int × Int} (he : e.1 = encV φ (3, f.1) ∧ Wrd φ ψ S e.2 (3, f.2)) : ∀ {l m : List (Int × Int)}, Qrel φ ψ S l m → Qrel φ ψ S (l ++ [e]) (m ++ [f])
  | [], [], _ => ⟨he, trivial⟩
  | _ :: l, _ :: m, h => ⟨h.1, Qrel.app he h.2⟩

theorem Cu.wake (R : Rep O W φ) (hr : (O.ar.yng : Int) ≤ (O.ar.ws.length : Int) - O.ar.grn) (hal : Closed W.nd qw Al) (hqw : ∀ e ∈ qw, W.okE e) : ∀ (l m : List (Int × Int)) {A : Ar} {S : Int → Prop} {ψ : Int → Int} {N : List Int},
    Cu O W φ A S ψ N → (∀ k, S k → Al k) → Qrel φ ψ S l m → (∀ f ∈ m, f ∈ qw) →
    ∃ S' ψ' N', Cu O W φ (wakeM mAlive mKp A l).1 S' ψ' N' ∧ Ext W A S ψ N (wakeM mAlive mKp A l).1 S' ψ' N' ∧ (∀ k, S' k → Al k) ∧ Qrel φ ψ' S' (wakeM mAlive mKp A l).2.1 m ∧ ∀ f ∈ m, S f.1 → S' f.2
  | [], [], A, S, ψ, N, C, ha, hq, hm => ⟨S, ψ, N, C, Ext.refl, ha, trivial, fun f h => by cases h⟩
  | e :: l, f :: m, A, S, ψ, N, C, ha, hq, hm => by
    have hf := hqw f (hm f (by simp))
    have okg : W.okV (3, f.1) := .inr (.inr (.inr ⟨rfl, hf.1⟩))
    have okt : W.okV (3, f.2) := .inr (.inr (.inr ⟨rfl, hf.2.2⟩))
    have ag := C.alive R okg (x := e.1) (.inl hq.1.1)
    have at_ := C.alive R okt hq.1.2
    simp only [forall_const] at ag at_
    unfold wakeM
    by_cases hc : (mAlive A e.1 && !mAlive A e.2) = true
    · rw [if_pos hc]
      rw [Bool.and_eq_true] at hc
      have hg := ag.1 hc.1
      obtain ⟨S1, ψ1, N1, C1, E1, h1, h2, h3, _⟩ := C.bring R hr okt hq.1.2
      have ha1 : ∀ k, S1 k → Al k := fun k hk => by
        rcases h1 k hk with h | ⟨_, rfl⟩
        · exact ha k h
        · exact hal f.1 _ (ha _ hg) (.inr (.inr (.inr ⟨hf.2.1, by show (f.1, f.2) ∈ qw; exact hm f (by simp)⟩)))
      obtain ⟨S2, ψ2, N2, C2, E2, ha2, hq2, hk2⟩ := Cu.wake R hr hal hqw l m C1 ha1 (hq.2.mono E1) (fun f hf => hm f (by simp [hf]))
      have hw : Wrd φ ψ1 S1 (mKp A e.2).2 (3, f.2) := .inr ⟨h3, h2⟩
      refine ⟨S2, ψ2, N2, C2, E1.trans E2, ha2, ⟨⟨hq.1.1, E2.wrd hw⟩, hq2⟩, fun f' hf' hs => ?_⟩
      rcases List.mem_cons.1 hf' with rfl | h
      · exact E2.sub _ (h3 rfl)
      · exact hk2 f' h (E1.sub _ hs)
    · rw [if_neg hc]
      obtain ⟨S2, ψ2, N2, C2, E2, ha2, hq2, hk2⟩ := Cu.wake R hr hal hqw l m C ha hq.2 (fun f hf => hm f (by simp [hf]))
      refine ⟨S2, ψ2, N2, C2, E2, ha2, ⟨⟨hq.1.1, E2.wrd hq.1.2⟩, hq2⟩, fun f' hf' hs => ?_⟩
      rcases List.mem_cons.1 hf' with rfl | h
      · have h1 := ag.2 hs
        rw [h1] at hc
        simp at hc
        exact E2.sub _ (at_.1 hc)
      · exact hk2 f' h hs

end
end Go.Proofs.Ytjifdalflepcoac
