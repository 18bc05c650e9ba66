/-
  The reference's SameVals, SameView: of what is told alike.
-/
import Derived.Test.YtjifdalflepcoabLongs
import Derived.Test.YtjifdalflepcoabWView3
import Derived.Test.YtjifdalflepcoabRegion2
namespace Go.Proofs.Ytjifdalflepcoab
open Go.RowKit
set_option linter.unusedVariables false
set_option linter.unusedSimpArgs false

/-- A value in a slice. -/
theorem Rd.val {w : World} {ao : Option Addr} {l : List Vl} (h : Rd w ao (entV l)) (i : Nat) (hi : i < l.length) :
    ∃ g o, ao = some ⟨g, o, none⟩ ∧ g < w.heap.size ∧ w.cell? ⟨g, o + i * 2, none⟩ = some (.int .i64 (l.getD i (0, 0)).1) ∧ w.cell? ⟨g, o + i * 2 + 1, none⟩ = some (.int .i64 (l.getD i (0, 0)).2) := by
  have hlen : (entV l).length = l.length * 2 := entV_length l
  obtain ⟨g, o, rfl, hg, hc⟩ := h (by intro e; rw [e] at hlen; simp at hlen; omega)
  have h1 := entV_get l i hi
  refine ⟨g, o, rfl, hg, ?_, ?_⟩
  · rw [hc (i * 2) (by rw [hlen]; omega)]; exact h1.1
  · rw [Nat.add_assoc, hc (i * 2 + 1) (by rw [hlen]; omega)]; exact h1.2

set_option maxHeartbeats 4000000 in
set_option maxRecDepth 100000 in
theorem SameVals_yes (a b : Option Addr) (ca cb : Nat) (l : List Vl) (w : World) (h1 : Rd w a (entV l)) (h2 : Rd w b (entV l)) (hl : l.length ≤ 1000000) :
    Calls Try.prog 93 #[.slice a l.length ca, .slice b l.length cb] w fun e w' => e = .returned (.bool true) ∧ Keeps (fun _ => False) w w' := by
  have H1 := Lib.hid h1; have H2 := Lib.hid h2
  clear h1 h2
  go_enter Try.func93, Try.ntmps93
  go_wp2_with fail
  go_loopw [5] (fun i wr => ∃ k : Nat, k ≤ l.length ∧ i = .int .i64 k ∧ Keeps (fun _ => False) w wr) (fun i _ => l.length - (intOf i).toNat)
  case atStart => exact ⟨0, Nat.zero_le _, rfl, Keeps.refl _ _⟩
  case round =>
    obtain ⟨k, hk, rfl, hkk⟩ := hrel
    have HK := Lib.hid hkk; clear hkk
    by_cases hlt : k < l.length
    · obtain ⟨g, o, rfl, hgl, d0, d1⟩ := (H1.out.keep HK.out (fun _ _ _ h => h)).val k hlt
      obtain ⟨g', o', rfl, hgl', e0, e1⟩ := (H2.out.keep HK.out (fun _ _ _ h => h)).val k hlt
      generalize l.getD k (0, 0) = v at *
      go_wp2_with fail
      refine wp_region_ro (.free 0 (.free 1 (.free 2 (.free 4 (.free 5 (.free 6 (.pure 3 (.pure 7 (.free 8 (.fin)))))))))) [] (fun w' => w'.cell? ⟨g, o + k * 2, none⟩ = some (.int .i64 v.1) ∧ w'.cell? ⟨g, o + k * 2 + 1, none⟩ = some (.int .i64 v.2) ∧ w'.cell? ⟨g', o' + k * 2, none⟩ = some (.int .i64 v.1) ∧ w'.cell? ⟨g', o' + k * 2 + 1, none⟩ = some (.int .i64 v.2)) (by kernel_rfl) (by kernel_rfl) ⟨d0, d1, e0, e1⟩ ?_
      first | (refine wpRO_free rfl rfl _ (fun w' => by go_simp; exact Gives.mk _ _) (fun K hK => ?_); go_simp; refine hK _ ?_; clear hK K) | (refine wpRO_skipF rfl rfl (fun K hK => ?_); go_simp; refine hK _ ?_; clear hK K)
      first | (refine wpRO_free rfl rfl _ (fun w' => by go_simp; exact Gives.mk _ _) (fun K hK => ?_); go_simp; refine hK _ ?_; clear hK K) | (refine wpRO_skipF rfl rfl (fun K hK => ?_); go_simp; refine hK _ ?_; clear hK K)
      first | (refine wpRO_free rfl rfl _ (fun w' => by go_simp; exact Gives.mk _ _) (fun K hK => ?_); go_simp; refine hK _ ?_; clear hK K) | (refine wpRO_skipF rfl rfl (fun K hK => ?_); go_simp; refine hK _ ?_; clear hK K)
      first | (refine wpRO_free rfl rfl _ (fun w' => by go_simp; exact Gives.mk _ _) (fun K hK => ?_); go_simp; refine hK _ ?_; clear hK K) | (refine wpRO_skipF rfl rfl (fun K hK => ?_); go_simp; refine hK _ ?_; clear hK K)
      first | (refine wpRO_free rfl rfl _ (fun w' => by go_simp; exact Gives.mk _ _) (fun K hK => ?_); go_simp; refine hK _ ?_; clear hK K) | (refine wpRO_skipF rfl rfl (fun K hK => ?_); go_simp; refine hK _ ?_; clear hK K)
      first | (refine wpRO_free rfl rfl _ (fun w' => by go_simp; exact Gives.mk _ _) (fun K hK => ?_); go_simp; refine hK _ ?_; clear hK K) | (refine wpRO_skipF rfl rfl (fun K hK => ?_); go_simp; refine hK _ ?_; clear hK K)
      first | (refine wpRO_pure rfl rfl _ (fun w' hG => by obtain ⟨g0, g1, g2, g3⟩ := hG; exact gives_agg2 rfl (by decide +kernel) rfl (by assumption) (by assumption)) (fun K hK => ?_); go_simp; refine hK _ ?_; clear hK K) | (refine wpRO_pure rfl rfl _ (fun w' hG => by obtain ⟨g0, g1, g2, g3⟩ := hG; go_simp; exact Gives.mk _ _) (fun K hK => ?_); go_simp; refine hK _ ?_; clear hK K) | (refine wpRO_skip rfl rfl (fun K hK => ?_); go_simp; refine hK _ ?_; clear hK K)
      first | (refine wpRO_pure rfl rfl _ (fun w' hG => by obtain ⟨g0, g1, g2, g3⟩ := hG; exact gives_agg2 rfl (by decide +kernel) rfl (by assumption) (by assumption)) (fun K hK => ?_); go_simp; refine hK _ ?_; clear hK K) | (refine wpRO_pure rfl rfl _ (fun w' hG => by obtain ⟨g0, g1, g2, g3⟩ := hG; go_simp; exact Gives.mk _ _) (fun K hK => ?_); go_simp; refine hK _ ?_; clear hK K) | (refine wpRO_skip rfl rfl (fun K hK => ?_); go_simp; refine hK _ ?_; clear hK K)
      first | (refine wpRO_free rfl rfl _ (fun w' => by go_simp; exact Gives.mk _ _) (fun K hK => ?_); go_simp; refine hK _ ?_; clear hK K) | (refine wpRO_skipF rfl rfl (fun K hK => ?_); go_simp; refine hK _ ?_; clear hK K)
      refine wpRO_fin ?_
      go_wp2_with fail
      go_roundw
      case rel => exact ⟨k + 1, by omega, by go_num, HK.out.drew⟩
      case measure => simp [intOf]; omega
    · obtain rfl : k = l.length := by omega
      go_wp2_with fail
      go_ret
      exact ⟨rfl, HK.out⟩

/-- A node in a slice. -/
theorem NodesAt.nth {w : World} {nv : Value} {F : Nat → Prop} {l : List Nd} (h : NodesAt w nv F l) : ∃ no nc, nv = .slice no l.length nc ∧ ∀ i, i < l.length → ∃ g o ao cap, no = some ⟨g, o, none⟩ ∧ g < w.heap.size ∧ w.cell? ⟨g, o + i * 2, none⟩ = some (.int .i64 (l.getD i (0, [])).1) ∧
    w.cell? ⟨g, o + i * 2 + 1, none⟩ = some (.slice ao (l.getD i (0, [])).2.length cap) ∧ Rd w ao (entV (l.getD i (0, [])).2) ∧ (l.getD i (0, [])).2.length ≤ maxLen := by
  obtain ⟨cs, hs, hr⟩ := h
  obtain ⟨no, nc, rfl, hrd, -, -⟩ := hs.rd
  refine ⟨no, nc, rfl, fun i hi => ?_⟩
  obtain ⟨r, h1, ⟨ao, cap, rfl, h2, -, h3⟩, h4⟩ := hr.cell hi
  have hlen := hr.length
  have hne : cs ≠ [] := by intro e; subst e; simp at hlen; omega
  obtain ⟨g, o, rfl, hg, hc⟩ := hrd hne
  have e : l.getD i (0, []) = l[i] := by rw [List.getD_eq_getElem?_getD, List.getElem?_eq_getElem hi]; rfl
  rw [e]
  refine ⟨g, o, ao, cap, rfl, hg, ?_, ?_, h2, h3⟩
  · have := h4 0 (by decide)
    rw [hc (i * 2) (by rw [hlen]; omega)]
    exact this
  · have := h4 1 (by decide)
    rw [Nat.add_assoc, hc (i * 2 + 1) (by rw [hlen]; omega)]
    exact this

/-- A view that stands somewhere: it may be read. -/
def ViewR (w : World) (v : Value) (V : List Vl × List Nd) : Prop :=
  ∃ ro rc nv F, v = .agg #[.slice ro V.1.length rc, nv] ∧ Rd w ro (entV V.1) ∧ NodesAt w nv F V.2 ∧ V.1.length ≤ 1000000 ∧ V.2.length ≤ 1000000 ∧ ∀ n ∈ V.2, n.2.length ≤ 1000000

theorem ViewV.r {w : World} {lo : Nat} {v : Value} {V : List Vl × List Nd} (H : ViewV w lo v V) (h1 : V.1.length ≤ 1000000) (h2 : V.2.length ≤ 1000000) (h3 : ∀ n ∈ V.2, n.2.length ≤ 1000000) : ViewR w v V := by
  obtain ⟨ro, rc, no, nc, F, e, a, b, c⟩ := H
  obtain ⟨_, _, e', hr, -, -⟩ := a.rd
  cases e'
  exact ⟨ro, rc, _, F, e, hr, b, h1, h2, h3⟩

set_option maxHeartbeats 4000000 in
set_option maxRecDepth 100000 in
theorem SameView_yes (x y : Value) (V : List Vl × List Nd) (w : World) (h1 : ViewR w x V) (h2 : ViewR w y V) :
    Calls Try.prog 47 #[x, y] w fun e w' => e = .returned (.bool true) ∧ Keeps (fun _ => False) w w' := by
  obtain ⟨ro, rc, nv, F, rfl, r1, n1, l1, l2, l3⟩ := h1
  obtain ⟨so, sc, mv, E, rfl, r2, n2, -, -, -⟩ := h2
  obtain ⟨no, nc, rfl, N1⟩ := n1.nth
  obtain ⟨mo, mc, rfl, N2⟩ := n2.nth
  have R1 := Lib.hid r1; have R2 := Lib.hid r2
  have M1 := Lib.hid n1; have M2 := Lib.hid n2; have L3 := Lib.hid l3
  clear r1 r2 n1 n2 N1 N2 l3
  go_enter Try.func47, Try.ntmps47
  go_wp2_with fail
  have hka := (Keeps.refl (fun _ => False) w).alloc (.cells #[.slice ro V.1.length rc, .slice no V.2.length nc] 72)
  have hkb := hka.alloc (.cells #[.slice so V.1.length sc, .slice mo V.2.length mc] 72)
  obtain ⟨wa, ea⟩ : ∃ x, x = w.alloc (.cells #[.slice ro V.1.length rc, .slice no V.2.length nc] 72) := ⟨_, rfl⟩
  have hba : Blk wa w.heap.size [.slice ro V.1.length rc, .slice no V.2.length nc] 72 := by rw [ea]; exact Blk.newAt _ rfl rfl
  have hsz : wa.heap.size = w.heap.size + 1 := by rw [ea]; simp
  rw [← ea] at hka hkb ⊢
  have hb1 := ((Keeps.refl (fun _ => False) wa).alloc (.cells #[.slice so V.1.length sc, .slice mo V.2.length mc] 72)).blk hba (fun h => h)
  have hb2 : Blk (wa.alloc (.cells #[.slice so V.1.length sc, .slice mo V.2.length mc] 72)) wa.heap.size [.slice so V.1.length sc, .slice mo V.2.length mc] 72 := Blk.newAt _ rfl rfl
  rw [hsz] at hb2
  generalize wa.alloc (.cells #[.slice so V.1.length sc, .slice mo V.2.length mc] 72) = wb at *
  obtain ⟨b, hb⟩ : ∃ b, w.heap.size = b := ⟨_, rfl⟩
  rw [hb] at hb1 hb2 hsz ⊢
  clear hba ea hka hb
  refine (SameVals_yes ro so rc sc V.1 _ (R1.out.keep hkb (fun _ _ _ h => h)) (R2.out.keep hkb (fun _ _ _ h => h)) l1).mono ?_
  rintro e w1 ⟨rfl, hk1⟩
  have HK1 := Lib.hid (hkb.trans hk1)
  have HB1 := Lib.hid (hk1.blk hb1 (fun h => h)); have HB2 := Lib.hid (hk1.blk hb2 (fun h => h))
  clear hk1 hb1 hb2 hkb
  have c0 := HB1.out.cell 0; have c1 := HB1.out.cell 1; have cl := HB1.out.lt; have d0 := HB2.out.cell 0; have d1 := HB2.out.cell 1; have dl := HB2.out.lt
  simp only [List.getElem?_cons_zero, List.getElem?_cons_succ] at c0 c1 d0 d1
  go_wp2_with fail
  clear c0 c1 cl d0 d1 dl
  go_loopw [5] (fun i wr => ∃ k : Nat, k ≤ V.2.length ∧ i = .int .i64 k ∧ Keeps (fun _ => False) w wr ∧ Blk wr b [.slice ro V.1.length rc, .slice no V.2.length nc] 72 ∧ Blk wr (b + 1) [.slice so V.1.length sc, .slice mo V.2.length mc] 72) (fun i _ => V.2.length - (intOf i).toNat)
  case atStart => exact ⟨0, Nat.zero_le _, rfl, HK1.out, HB1.out, HB2.out⟩
  case round =>
    obtain ⟨k, hk, rfl, hkk, hb1, hb2⟩ := hrel
    have HK := Lib.hid hkk; have HX1 := Lib.hid hb1; have HX2 := Lib.hid hb2
    clear HK1 HB1 HB2 hkk hb1 hb2
    have c1 := HX1.out.cell 1; have cl := HX1.out.lt; have d1 := HX2.out.cell 1; have dl := HX2.out.lt
    simp only [List.getElem?_cons_zero, List.getElem?_cons_succ] at c1 d1
    by_cases hlt : k < V.2.length
    · obtain ⟨no', nc', e', N1⟩ := (M1.out.keep HK.out (fun _ _ _ h => h) (fun _ _ h => h)).nth
      cases e'
      obtain ⟨mo', mc', e', N2⟩ := (M2.out.keep HK.out (fun _ _ _ h => h) (fun _ _ h => h)).nth
      cases e'
      obtain ⟨g, o, ao, ac, rfl, hgl, x0, x1, rd1, -⟩ := N1 k hlt
      obtain ⟨g', o', ao', ac', rfl, hgl', y0, y1, rd2, -⟩ := N2 k hlt
      have hnl : (V.2.getD k (0, [])).2.length ≤ 1000000 := by
        rw [List.getD_eq_getElem?_getD, List.getElem?_eq_getElem hlt]; exact L3.out _ (List.getElem_mem _)
      generalize V.2.getD k (0, []) = nd at *
      have RD1 := Lib.hid rd1; have RD2 := Lib.hid rd2
      clear N1 N2 rd1 rd2
      go_wp2_with fail
      refine wp_region_ro (.free 0 (.free 2 (.free 6 (.free 8 (.pure 1 (.free 3 (.free 4 (.pure 5 (.pure 7 (.free 9 (.free 10 (.pure 11 (.free 12 (.free 13 (.free 14 (.free 16 (.free 20 (.free 22 (.pure 15 (.free 17 (.free 18 (.pure 19 (.pure 21 (.free 23 (.free 24 (.pure 25 (.run 26 (.swi [] (.free 27 (.free 28 (.fin))))))))))))))))))))))))))))))) [26, 27, 28] (fun w' => w'.cell? ⟨b, 1, none⟩ = some (.slice (some ⟨g, o, none⟩) V.2.length nc) ∧ w'.cell? ⟨b + 1, 1, none⟩ = some (.slice (some ⟨g', o', none⟩) V.2.length mc) ∧ w'.cell? ⟨g, o + k * 2, none⟩ = some (.int .i64 nd.1) ∧ w'.cell? ⟨g, o + k * 2 + 1, none⟩ = some (.slice ao nd.2.length ac) ∧ w'.cell? ⟨g', o' + k * 2, none⟩ = some (.int .i64 nd.1) ∧ w'.cell? ⟨g', o' + k * 2 + 1, none⟩ = some (.slice ao' nd.2.length ac')) (by kernel_rfl) (by kernel_rfl) ⟨c1, d1, x0, x1, y0, y1⟩ ?_
      first | (refine wpRO_free rfl rfl _ (fun w' => by go_simp; exact Gives.mk _ _) (fun K hK => ?_); go_simp; refine hK _ ?_; clear hK K) | (refine wpRO_skipF rfl rfl (fun K hK => ?_); go_simp; refine hK _ ?_; clear hK K)
      first | (refine wpRO_free rfl rfl _ (fun w' => by go_simp; exact Gives.mk _ _) (fun K hK => ?_); go_simp; refine hK _ ?_; clear hK K) | (refine wpRO_skipF rfl rfl (fun K hK => ?_); go_simp; refine hK _ ?_; clear hK K)
      first | (refine wpRO_free rfl rfl _ (fun w' => by go_simp; exact Gives.mk _ _) (fun K hK => ?_); go_simp; refine hK _ ?_; clear hK K) | (refine wpRO_skipF rfl rfl (fun K hK => ?_); go_simp; refine hK _ ?_; clear hK K)
      first | (refine wpRO_free rfl rfl _ (fun w' => by go_simp; exact Gives.mk _ _) (fun K hK => ?_); go_simp; refine hK _ ?_; clear hK K) | (refine wpRO_skipF rfl rfl (fun K hK => ?_); go_simp; refine hK _ ?_; clear hK K)
      first | (refine wpRO_pure rfl rfl _ (fun w' hG => by obtain ⟨g0, g1, g2, g3, g4, g5⟩ := hG; exact gives_agg2 rfl (by decide +kernel) rfl (by assumption) (by assumption)) (fun K hK => ?_); go_simp; refine hK _ ?_; clear hK K) | (refine wpRO_pure rfl rfl _ (fun w' hG => by obtain ⟨g0, g1, g2, g3, g4, g5⟩ := hG; go_simp; exact Gives.mk _ _) (fun K hK => ?_); go_simp; refine hK _ ?_; clear hK K) | (refine wpRO_skip rfl rfl (fun K hK => ?_); go_simp; refine hK _ ?_; clear hK K)
      first | (refine wpRO_free rfl rfl _ (fun w' => by go_simp; exact Gives.mk _ _) (fun K hK => ?_); go_simp; refine hK _ ?_; clear hK K) | (refine wpRO_skipF rfl rfl (fun K hK => ?_); go_simp; refine hK _ ?_; clear hK K)
      first | (refine wpRO_free rfl rfl _ (fun w' => by go_simp; exact Gives.mk _ _) (fun K hK => ?_); go_simp; refine hK _ ?_; clear hK K) | (refine wpRO_skipF rfl rfl (fun K hK => ?_); go_simp; refine hK _ ?_; clear hK K)
      first | (refine wpRO_pure rfl rfl _ (fun w' hG => by obtain ⟨g0, g1, g2, g3, g4, g5⟩ := hG; exact gives_agg2 rfl (by decide +kernel) rfl (by assumption) (by assumption)) (fun K hK => ?_); go_simp; refine hK _ ?_; clear hK K) | (refine wpRO_pure rfl rfl _ (fun w' hG => by obtain ⟨g0, g1, g2, g3, g4, g5⟩ := hG; go_simp; exact Gives.mk _ _) (fun K hK => ?_); go_simp; refine hK _ ?_; clear hK K) | (refine wpRO_skip rfl rfl (fun K hK => ?_); go_simp; refine hK _ ?_; clear hK K)
      first | (refine wpRO_pure rfl rfl _ (fun w' hG => by obtain ⟨g0, g1, g2, g3, g4, g5⟩ := hG; exact gives_agg2 rfl (by decide +kernel) rfl (by assumption) (by assumption)) (fun K hK => ?_); go_simp; refine hK _ ?_; clear hK K) | (refine wpRO_pure rfl rfl _ (fun w' hG => by obtain ⟨g0, g1, g2, g3, g4, g5⟩ := hG; go_simp; exact Gives.mk _ _) (fun K hK => ?_); go_simp; refine hK _ ?_; clear hK K) | (refine wpRO_skip rfl rfl (fun K hK => ?_); go_simp; refine hK _ ?_; clear hK K)
      first | (refine wpRO_free rfl rfl _ (fun w' => by go_simp; exact Gives.mk _ _) (fun K hK => ?_); go_simp; refine hK _ ?_; clear hK K) | (refine wpRO_skipF rfl rfl (fun K hK => ?_); go_simp; refine hK _ ?_; clear hK K)
      first | (refine wpRO_free rfl rfl _ (fun w' => by go_simp; exact Gives.mk _ _) (fun K hK => ?_); go_simp; refine hK _ ?_; clear hK K) | (refine wpRO_skipF rfl rfl (fun K hK => ?_); go_simp; refine hK _ ?_; clear hK K)
      first | (refine wpRO_pure rfl rfl _ (fun w' hG => by obtain ⟨g0, g1, g2, g3, g4, g5⟩ := hG; exact gives_agg2 rfl (by decide +kernel) rfl (by assumption) (by assumption)) (fun K hK => ?_); go_simp; refine hK _ ?_; clear hK K) | (refine wpRO_pure rfl rfl _ (fun w' hG => by obtain ⟨g0, g1, g2, g3, g4, g5⟩ := hG; go_simp; exact Gives.mk _ _) (fun K hK => ?_); go_simp; refine hK _ ?_; clear hK K) | (refine wpRO_skip rfl rfl (fun K hK => ?_); go_simp; refine hK _ ?_; clear hK K)
      first | (refine wpRO_free rfl rfl _ (fun w' => by go_simp; exact Gives.mk _ _) (fun K hK => ?_); go_simp; refine hK _ ?_; clear hK K) | (refine wpRO_skipF rfl rfl (fun K hK => ?_); go_simp; refine hK _ ?_; clear hK K)
      first | (refine wpRO_free rfl rfl _ (fun w' => by go_simp; exact Gives.mk _ _) (fun K hK => ?_); go_simp; refine hK _ ?_; clear hK K) | (refine wpRO_skipF rfl rfl (fun K hK => ?_); go_simp; refine hK _ ?_; clear hK K)
      first | (refine wpRO_free rfl rfl _ (fun w' => by go_simp; exact Gives.mk _ _) (fun K hK => ?_); go_simp; refine hK _ ?_; clear hK K) | (refine wpRO_skipF rfl rfl (fun K hK => ?_); go_simp; refine hK _ ?_; clear hK K)
      first | (refine wpRO_free rfl rfl _ (fun w' => by go_simp; exact Gives.mk _ _) (fun K hK => ?_); go_simp; refine hK _ ?_; clear hK K) | (refine wpRO_skipF rfl rfl (fun K hK => ?_); go_simp; refine hK _ ?_; clear hK K)
      first | (refine wpRO_free rfl rfl _ (fun w' => by go_simp; exact Gives.mk _ _) (fun K hK => ?_); go_simp; refine hK _ ?_; clear hK K) | (refine wpRO_skipF rfl rfl (fun K hK => ?_); go_simp; refine hK _ ?_; clear hK K)
      first | (refine wpRO_free rfl rfl _ (fun w' => by go_simp; exact Gives.mk _ _) (fun K hK => ?_); go_simp; refine hK _ ?_; clear hK K) | (refine wpRO_skipF rfl rfl (fun K hK => ?_); go_simp; refine hK _ ?_; clear hK K)
      first | (refine wpRO_pure rfl rfl _ (fun w' hG => by obtain ⟨g0, g1, g2, g3, g4, g5⟩ := hG; exact gives_agg2 rfl (by decide +kernel) rfl (by assumption) (by assumption)) (fun K hK => ?_); go_simp; refine hK _ ?_; clear hK K) | (refine wpRO_pure rfl rfl _ (fun w' hG => by obtain ⟨g0, g1, g2, g3, g4, g5⟩ := hG; go_simp; exact Gives.mk _ _) (fun K hK => ?_); go_simp; refine hK _ ?_; clear hK K) | (refine wpRO_skip rfl rfl (fun K hK => ?_); go_simp; refine hK _ ?_; clear hK K)
      first | (refine wpRO_free rfl rfl _ (fun w' => by go_simp; exact Gives.mk _ _) (fun K hK => ?_); go_simp; refine hK _ ?_; clear hK K) | (refine wpRO_skipF rfl rfl (fun K hK => ?_); go_simp; refine hK _ ?_; clear hK K)
      first | (refine wpRO_free rfl rfl _ (fun w' => by go_simp; exact Gives.mk _ _) (fun K hK => ?_); go_simp; refine hK _ ?_; clear hK K) | (refine wpRO_skipF rfl rfl (fun K hK => ?_); go_simp; refine hK _ ?_; clear hK K)
      first | (refine wpRO_pure rfl rfl _ (fun w' hG => by obtain ⟨g0, g1, g2, g3, g4, g5⟩ := hG; exact gives_agg2 rfl (by decide +kernel) rfl (by assumption) (by assumption)) (fun K hK => ?_); go_simp; refine hK _ ?_; clear hK K) | (refine wpRO_pure rfl rfl _ (fun w' hG => by obtain ⟨g0, g1, g2, g3, g4, g5⟩ := hG; go_simp; exact Gives.mk _ _) (fun K hK => ?_); go_simp; refine hK _ ?_; clear hK K) | (refine wpRO_skip rfl rfl (fun K hK => ?_); go_simp; refine hK _ ?_; clear hK K)
      first | (refine wpRO_pure rfl rfl _ (fun w' hG => by obtain ⟨g0, g1, g2, g3, g4, g5⟩ := hG; exact gives_agg2 rfl (by decide +kernel) rfl (by assumption) (by assumption)) (fun K hK => ?_); go_simp; refine hK _ ?_; clear hK K) | (refine wpRO_pure rfl rfl _ (fun w' hG => by obtain ⟨g0, g1, g2, g3, g4, g5⟩ := hG; go_simp; exact Gives.mk _ _) (fun K hK => ?_); go_simp; refine hK _ ?_; clear hK K) | (refine wpRO_skip rfl rfl (fun K hK => ?_); go_simp; refine hK _ ?_; clear hK K)
      first | (refine wpRO_free rfl rfl _ (fun w' => by go_simp; exact Gives.mk _ _) (fun K hK => ?_); go_simp; refine hK _ ?_; clear hK K) | (refine wpRO_skipF rfl rfl (fun K hK => ?_); go_simp; refine hK _ ?_; clear hK K)
      first | (refine wpRO_free rfl rfl _ (fun w' => by go_simp; exact Gives.mk _ _) (fun K hK => ?_); go_simp; refine hK _ ?_; clear hK K) | (refine wpRO_skipF rfl rfl (fun K hK => ?_); go_simp; refine hK _ ?_; clear hK K)
      first | (refine wpRO_pure rfl rfl _ (fun w' hG => by obtain ⟨g0, g1, g2, g3, g4, g5⟩ := hG; exact gives_agg2 rfl (by decide +kernel) rfl (by assumption) (by assumption)) (fun K hK => ?_); go_simp; refine hK _ ?_; clear hK K) | (refine wpRO_pure rfl rfl _ (fun w' hG => by obtain ⟨g0, g1, g2, g3, g4, g5⟩ := hG; go_simp; exact Gives.mk _ _) (fun K hK => ?_); go_simp; refine hK _ ?_; clear hK K) | (refine wpRO_skip rfl rfl (fun K hK => ?_); go_simp; refine hK _ ?_; clear hK K)
      refine wpRO_chg rfl rfl rfl (fun K hK => ?_); unfold gRun; go_simp
      refine (SameVals_yes ao ao' ac ac' nd.2 _ (RD1.out.keep ((Keeps.refl (fun _ => False) wr).drew) (fun _ _ _ h => h)) (RD2.out.keep ((Keeps.refl (fun _ => False) wr).drew) (fun _ _ _ h => h)) hnl).mono ?_
      rintro e w2 ⟨rfl, hk2⟩
      refine hK _ _ ?_
      clear hK K
      have HK2 := Lib.hid (HK.out.drew.trans hk2); have HY1 := Lib.hid (hk2.blk HX1.out.drew (fun h => h)); have HY2 := Lib.hid (hk2.blk HX2.out.drew (fun h => h))
      refine wpRO_swi (fun _ => True) trivial ?_
      first | (refine wpRO_free rfl rfl _ (fun w' => by go_simp; exact Gives.mk _ _) (fun K hK => ?_); go_simp; refine hK _ ?_; clear hK K) | (refine wpRO_skipF rfl rfl (fun K hK => ?_); go_simp; refine hK _ ?_; clear hK K)
      first | (refine wpRO_free rfl rfl _ (fun w' => by go_simp; exact Gives.mk _ _) (fun K hK => ?_); go_simp; refine hK _ ?_; clear hK K) | (refine wpRO_skipF rfl rfl (fun K hK => ?_); go_simp; refine hK _ ?_; clear hK K)
      refine wpRO_fin ?_
      go_wp2_with fail
      go_roundw
      case rel => exact ⟨k + 1, by omega, by go_num, HK2.out, HY1.out, HY2.out⟩
      case measure => simp [intOf]; omega
    · obtain rfl : k = V.2.length := by omega
      go_wp2_with fail
      go_ret
      exact ⟨rfl, HK.out⟩

end Go.Proofs.Ytjifdalflepcoab
