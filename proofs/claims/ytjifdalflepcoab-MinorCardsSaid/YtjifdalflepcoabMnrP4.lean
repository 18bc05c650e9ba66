/-
  Parts of the proof, merged: what the functions do, and plain laws.
-/
import Derived.Test.YtjifdalflepcoabMnrP3
import Derived.Test.YtjifdalflepcoabMnrP0
import Derived.Test.YtjifdalflepcoabMnrP1
namespace Go.Proofs.Ytjifdalflepcoab
open Go.RowKit
set_option linter.unusedVariables false
set_option linter.unusedSimpArgs false

theorem putC_yes {O : Wo} {r y : Int} : O.putC r (y, 0) = (0, O.setRt r y) := rfl
theorem putC_no {O : Wo} {r y e : Int} (h : e ≠ 0) : O.putC r (y, e) = (e, O) := by unfold Wo.putC; rw [if_neg h]

section
variable {w w' : World} {h : BH} {O O' : Wo} {W W' : Wd}

set_option maxHeartbeats 16000000 in
set_option maxRecDepth 100000 in
theorem bothDo2_c (xa xb xc : Int) (B : BothAt w h O W) (hb : R64 xb) :
    Calls Try.prog 74 #[.pointer (some ⟨h.p, 0, none⟩), .agg #[.int .i64 2, .int .i64 xa, .int .i64 xb, .int .i64 xc]] w (BothDoRet w h O W 2 xa xb (rootN xa) (rootN xc)) := by
  have ka := (Keeps.refl (fun _ => False) w).alloc (.cells #[.int .i64 2, .int .i64 xa, .int .i64 xb, .int .i64 xc] 112)
  have hs : Blk (w.alloc (.cells #[.int .i64 2, .int .i64 xa, .int .i64 xb, .int .i64 xc] 112)) w.heap.size [.int .i64 2, .int .i64 xa, .int .i64 xb, .int .i64 xc] 112 := Blk.newAt _ rfl rfl
  have HB1 := Lib.hid (B.same ka); have SB := Lib.hid hs; have K1 := Lib.hid ka; have HBB := Lib.hid hb
  clear ka hs B hb
  go_enter Try.func74, Try.ntmps74
  go_wp2_with fail
  generalize w.alloc (.cells #[.int .i64 2, .int .i64 xa, .int .i64 xb, .int .i64 xc] 112) = w1 at *
  generalize w.heap.size = sb at *
  have s0 := SB.out.cell 0; have s1 := SB.out.cell 1; have s2 := SB.out.cell 2; have s3 := SB.out.cell 3; have sl := SB.out.lt
  simp only [List.getElem?_cons_zero, List.getElem?_cons_succ] at s0 s1 s2 s3
  refine wp_region_ro (.free 0 (.free 3 (.pure 1 (.pure 4 (.run 2 (.run 5 (.swi [] (.free 6 (.free 7 (.fin)))))))))) [5, 6, 7] (fun w' => w'.cell? ⟨sb, 1, none⟩ = some (.int .i64 xa) ∧ w'.cell? ⟨sb, 3, none⟩ = some (.int .i64 xc)) (by kernel_rfl) (by kernel_rfl) ⟨s1, s3⟩ ?_
  first | (refine wpRO_free rfl rfl _ (fun w' => by go_simp; exact Gives.mk _ _) (fun K hK => ?_); go_simp; refine hK _ ?_; clear hK K) | (refine wpRO_skipF rfl rfl (fun K hK => ?_); go_simp; refine hK _ ?_; clear hK K)
  first | (refine wpRO_free rfl rfl _ (fun w' => by go_simp; exact Gives.mk _ _) (fun K hK => ?_); go_simp; refine hK _ ?_; clear hK K) | (refine wpRO_skipF rfl rfl (fun K hK => ?_); go_simp; refine hK _ ?_; clear hK K)
  first | (refine wpRO_pure rfl rfl _ (fun w' hG => by obtain ⟨s1, s3⟩ := hG; exact gives_agg2 rfl (by decide +kernel) rfl (by assumption) (by assumption)) (fun K hK => ?_); go_simp; refine hK _ ?_; clear hK K) | (refine wpRO_pure rfl rfl _ (fun w' hG => by obtain ⟨s1, s3⟩ := hG; go_simp; exact Gives.mk _ _) (fun K hK => ?_); go_simp; refine hK _ ?_; clear hK K) | (refine wpRO_skip rfl rfl (fun K hK => ?_); go_simp; refine hK _ ?_; clear hK K)
  first | (refine wpRO_pure rfl rfl _ (fun w' hG => by obtain ⟨s1, s3⟩ := hG; exact gives_agg2 rfl (by decide +kernel) rfl (by assumption) (by assumption)) (fun K hK => ?_); go_simp; refine hK _ ?_; clear hK K) | (refine wpRO_pure rfl rfl _ (fun w' hG => by obtain ⟨s1, s3⟩ := hG; go_simp; exact Gives.mk _ _) (fun K hK => ?_); go_simp; refine hK _ ?_; clear hK K) | (refine wpRO_skip rfl rfl (fun K hK => ?_); go_simp; refine hK _ ?_; clear hK K)
  refine wpRO_run rfl rfl (fun K hK => ?_); unfold gRun; go_simp
  refine (Root_c xa _).mono ?_
  rintro e w2 ⟨rfl, rfl⟩
  refine hK _ _ (fun hg => hg) ?_
  clear hK K
  refine wpRO_chg rfl rfl rfl (fun K hK => ?_); unfold gRun; go_simp
  refine (Root_c xc _).mono ?_
  rintro e w2 ⟨rfl, rfl⟩
  refine hK _ _ ?_
  clear hK K
  refine wpRO_swi (fun _ => True) trivial ?_
  first | (refine wpRO_free rfl rfl _ (fun w' => by go_simp; exact Gives.mk _ _) (fun K hK => ?_); go_simp; refine hK _ ?_; clear hK K) | (refine wpRO_skipF rfl rfl (fun K hK => ?_); go_simp; refine hK _ ?_; clear hK K)
  first | (refine wpRO_free rfl rfl _ (fun w' => by go_simp; exact Gives.mk _ _) (fun K hK => ?_); go_simp; refine hK _ ?_; clear hK K) | (refine wpRO_skipF rfl rfl (fun K hK => ?_); go_simp; refine hK _ ?_; clear hK K)
  refine wpRO_fin ?_
  have ha12 := rootN_lt xa; have hc12 := rootN_lt xc
  generalize rootN xa = a at *
  generalize rootN xc = c at *
  have HB2 := Lib.hid (HB1.out.same ((Keeps.refl (fun _ => False) w1).drew)); have K2 := Lib.hid (K1.out.drew); have SB2 := Lib.hid (show Blk w1.drew sb _ _ from SB.out.drew)
  clear s0 s1 s2 s3 sl HB1 K1 SB
  generalize w1.drew = w2 at *
  have s0 := SB2.out.cell 0; have s1 := SB2.out.cell 1; have s2 := SB2.out.cell 2; have s3 := SB2.out.cell 3; have sl := SB2.out.lt
  simp only [List.getElem?_cons_zero, List.getElem?_cons_succ] at s0 s1 s2 s3
  have b0 := HB2.out.hp.cell 0; have b1 := HB2.out.hp.cell 1; have bl := HB2.out.hp.lt
  simp only [List.getElem?_cons_zero, List.getElem?_cons_succ] at b0 b1
  have hor12 := HB2.out.H.ok.h12
  obtain ⟨g, o, cap, hro, hown, hgl, q3, fz, rcs⟩ := HB2.out.H.roots
  obtain ⟨q0, q1, q2, -⟩ := HB2.out.H.ptrs
  have ra := rcs a (by omega); have rc := rcs c (by omega)
  have fc := fz (o + c)
  rw [hor12] at q3 hro
  have HRO := Lib.hid hro; have HOWN := Lib.hid hown; have HO12 := Lib.hid hor12; have HFZ := Lib.hid fz; have HRCS := Lib.hid rcs
  have ql := HB2.out.H.hp.lt
  clear hro hown hor12 fz rcs
  have yl : (O.ar.yng : Int) ≤ 1280 := by have := HB2.out.H.ok.ha.h1; have := HB2.out.H.ok.ha.h2; have := HB2.out.H.ok.ha.h3; have := HB2.out.H.ok.ha.h4; omega
  have ha12i : (a : Int) < 12 := by omega
  have hc12i : (c : Int) < 12 := by omega
  have ra : w2.cell? ⟨g, o + a, none⟩ = some (.int .i64 (O.rtA a)) := by unfold Wo.rtA; rw [Int.toNat_natCast]; exact ra
  have HWO := Lib.hid (show woC O 2 xa xb a c = O.putC c (O.ar.get (O.rtA a) xb) by unfold woC; rw [if_neg (by decide), if_neg (by decide), if_pos rfl])
  have HWD := Lib.hid (show wdC W 2 xa xb a c = W.do ⟨11, c, a, 0, xb, 0⟩ by unfold wdC; rw [if_neg (by decide), if_neg (by decide), if_pos rfl])
  have hget := Get_c (O.rtA a) xb (HB2.out.same ((Keeps.refl (fun _ => False) w2).drew)).H
  have hdo := fun w' (R : WorldAt w' h.b W) => WDoGet_c c a 0 xb 0 R
  have HYR := Lib.hid (get_R64 HB2.out.H.ok.ha (O.rtA a) xb)
  generalize O.rtA a = va at *
  obtain ⟨⟨y, e⟩, hS⟩ : ∃ t, O.ar.get va xb = t := ⟨_, rfl⟩
  obtain ⟨⟨dc, W'⟩, hD⟩ : ∃ t, W.do ⟨11, c, a, 0, xb, 0⟩ = t := ⟨_, rfl⟩
  rw [hS] at hget HWO HYR
  rw [hD] at HWD
  simp only [hD] at hdo
  have HGET := Lib.hid hget; have HDO := Lib.hid hdo
  clear hS hD hget hdo fc rc
  go_wp2_with fail
  refine wp_region_ro (.free 0 (.free 1 (.free 2 (.free 4 (.free 5 (.free 6 (.free 11 (.free 14 (.pure 3 (.pure 7 (.free 8 (.free 9 (.pure 10 (.free 12 (.pure 13 (.pure 15 (.run 16 (.swi [] (.free 17 (.free 18 (.free 19 (.free 20 (.free 21 (.fin)))))))))))))))))))))))) [16, 17, 18, 19, 20, 21] (fun w' => w'.cell? ⟨h.p, 0, none⟩ = some (.pointer (some ⟨h.a.p, 0, none⟩)) ∧ w'.cell? ⟨h.a.p, 3, none⟩ = some (.slice (some ⟨g, o, none⟩) 12 cap) ∧ w'.cell? ⟨g, o + a, none⟩ = some (.int .i64 va) ∧ w'.cell? ⟨sb, 2, none⟩ = some (.int .i64 xb)) (by kernel_rfl) (by kernel_rfl) ⟨b0, q3, ra, s2⟩ ?_
  first | (refine wpRO_free rfl rfl _ (fun w' => by go_simp; exact Gives.mk _ _) (fun K hK => ?_); go_simp; refine hK _ ?_; clear hK K) | (refine wpRO_skipF rfl rfl (fun K hK => ?_); go_simp; refine hK _ ?_; clear hK K)
  first | (refine wpRO_free rfl rfl _ (fun w' => by go_simp; exact Gives.mk _ _) (fun K hK => ?_); go_simp; refine hK _ ?_; clear hK K) | (refine wpRO_skipF rfl rfl (fun K hK => ?_); go_simp; refine hK _ ?_; clear hK K)
  first | (refine wpRO_free rfl rfl _ (fun w' => by go_simp; exact Gives.mk _ _) (fun K hK => ?_); go_simp; refine hK _ ?_; clear hK K) | (refine wpRO_skipF rfl rfl (fun K hK => ?_); go_simp; refine hK _ ?_; clear hK K)
  first | (refine wpRO_free rfl rfl _ (fun w' => by go_simp; exact Gives.mk _ _) (fun K hK => ?_); go_simp; refine hK _ ?_; clear hK K) | (refine wpRO_skipF rfl rfl (fun K hK => ?_); go_simp; refine hK _ ?_; clear hK K)
  first | (refine wpRO_free rfl rfl _ (fun w' => by go_simp; exact Gives.mk _ _) (fun K hK => ?_); go_simp; refine hK _ ?_; clear hK K) | (refine wpRO_skipF rfl rfl (fun K hK => ?_); go_simp; refine hK _ ?_; clear hK K)
  first | (refine wpRO_free rfl rfl _ (fun w' => by go_simp; exact Gives.mk _ _) (fun K hK => ?_); go_simp; refine hK _ ?_; clear hK K) | (refine wpRO_skipF rfl rfl (fun K hK => ?_); go_simp; refine hK _ ?_; clear hK K)
  first | (refine wpRO_free rfl rfl _ (fun w' => by go_simp; exact Gives.mk _ _) (fun K hK => ?_); go_simp; refine hK _ ?_; clear hK K) | (refine wpRO_skipF rfl rfl (fun K hK => ?_); go_simp; refine hK _ ?_; clear hK K)
  first | (refine wpRO_free rfl rfl _ (fun w' => by go_simp; exact Gives.mk _ _) (fun K hK => ?_); go_simp; refine hK _ ?_; clear hK K) | (refine wpRO_skipF rfl rfl (fun K hK => ?_); go_simp; refine hK _ ?_; clear hK K)
  first | (refine wpRO_pure rfl rfl _ (fun w' hG => by obtain ⟨b0, q3, ra, s2⟩ := hG; exact gives_agg2 rfl (by decide +kernel) rfl (by assumption) (by assumption)) (fun K hK => ?_); go_simp; refine hK _ ?_; clear hK K) | (refine wpRO_pure rfl rfl _ (fun w' hG => by obtain ⟨b0, q3, ra, s2⟩ := hG; go_simp; exact Gives.mk _ _) (fun K hK => ?_); go_simp; refine hK _ ?_; clear hK K) | (refine wpRO_skip rfl rfl (fun K hK => ?_); go_simp; refine hK _ ?_; clear hK K)
  first | (refine wpRO_pure rfl rfl _ (fun w' hG => by obtain ⟨b0, q3, ra, s2⟩ := hG; exact gives_agg2 rfl (by decide +kernel) rfl (by assumption) (by assumption)) (fun K hK => ?_); go_simp; refine hK _ ?_; clear hK K) | (refine wpRO_pure rfl rfl _ (fun w' hG => by obtain ⟨b0, q3, ra, s2⟩ := hG; go_simp; exact Gives.mk _ _) (fun K hK => ?_); go_simp; refine hK _ ?_; clear hK K) | (refine wpRO_skip rfl rfl (fun K hK => ?_); go_simp; refine hK _ ?_; clear hK K)
  first | (refine wpRO_free rfl rfl _ (fun w' => by go_simp; exact Gives.mk _ _) (fun K hK => ?_); go_simp; refine hK _ ?_; clear hK K) | (refine wpRO_skipF rfl rfl (fun K hK => ?_); go_simp; refine hK _ ?_; clear hK K)
  first | (refine wpRO_free rfl rfl _ (fun w' => by go_simp; exact Gives.mk _ _) (fun K hK => ?_); go_simp; refine hK _ ?_; clear hK K) | (refine wpRO_skipF rfl rfl (fun K hK => ?_); go_simp; refine hK _ ?_; clear hK K)
  first | (refine wpRO_pure rfl rfl _ (fun w' hG => by obtain ⟨b0, q3, ra, s2⟩ := hG; exact gives_agg2 rfl (by decide +kernel) rfl (by assumption) (by assumption)) (fun K hK => ?_); go_simp; refine hK _ ?_; clear hK K) | (refine wpRO_pure rfl rfl _ (fun w' hG => by obtain ⟨b0, q3, ra, s2⟩ := hG; go_simp; exact Gives.mk _ _) (fun K hK => ?_); go_simp; refine hK _ ?_; clear hK K) | (refine wpRO_skip rfl rfl (fun K hK => ?_); go_simp; refine hK _ ?_; clear hK K)
  first | (refine wpRO_free rfl rfl _ (fun w' => by go_simp; exact Gives.mk _ _) (fun K hK => ?_); go_simp; refine hK _ ?_; clear hK K) | (refine wpRO_skipF rfl rfl (fun K hK => ?_); go_simp; refine hK _ ?_; clear hK K)
  first | (refine wpRO_pure rfl rfl _ (fun w' hG => by obtain ⟨b0, q3, ra, s2⟩ := hG; exact gives_agg2 rfl (by decide +kernel) rfl (by assumption) (by assumption)) (fun K hK => ?_); go_simp; refine hK _ ?_; clear hK K) | (refine wpRO_pure rfl rfl _ (fun w' hG => by obtain ⟨b0, q3, ra, s2⟩ := hG; go_simp; exact Gives.mk _ _) (fun K hK => ?_); go_simp; refine hK _ ?_; clear hK K) | (refine wpRO_skip rfl rfl (fun K hK => ?_); go_simp; refine hK _ ?_; clear hK K)
  first | (refine wpRO_pure rfl rfl _ (fun w' hG => by obtain ⟨b0, q3, ra, s2⟩ := hG; exact gives_agg2 rfl (by decide +kernel) rfl (by assumption) (by assumption)) (fun K hK => ?_); go_simp; refine hK _ ?_; clear hK K) | (refine wpRO_pure rfl rfl _ (fun w' hG => by obtain ⟨b0, q3, ra, s2⟩ := hG; go_simp; exact Gives.mk _ _) (fun K hK => ?_); go_simp; refine hK _ ?_; clear hK K) | (refine wpRO_skip rfl rfl (fun K hK => ?_); go_simp; refine hK _ ?_; clear hK K)
  refine wpRO_chg rfl rfl rfl (fun K hK => ?_); unfold gRun; go_simp
  refine HGET.out.mono ?_
  rintro e3 w3 ⟨rfl, rfl⟩
  refine hK _ _ ?_
  clear hK K
  refine wpRO_swi (fun _ => True) trivial ?_
  first | (refine wpRO_free rfl rfl _ (fun w' => by go_simp; exact Gives.mk _ _) (fun K hK => ?_); go_simp; refine hK _ ?_; clear hK K) | (refine wpRO_skipF rfl rfl (fun K hK => ?_); go_simp; refine hK _ ?_; clear hK K)
  first | (refine wpRO_free rfl rfl _ (fun w' => by go_simp; exact Gives.mk _ _) (fun K hK => ?_); go_simp; refine hK _ ?_; clear hK K) | (refine wpRO_skipF rfl rfl (fun K hK => ?_); go_simp; refine hK _ ?_; clear hK K)
  first | (refine wpRO_free rfl rfl _ (fun w' => by go_simp; exact Gives.mk _ _) (fun K hK => ?_); go_simp; refine hK _ ?_; clear hK K) | (refine wpRO_skipF rfl rfl (fun K hK => ?_); go_simp; refine hK _ ?_; clear hK K)
  first | (refine wpRO_free rfl rfl _ (fun w' => by go_simp; exact Gives.mk _ _) (fun K hK => ?_); go_simp; refine hK _ ?_; clear hK K) | (refine wpRO_skipF rfl rfl (fun K hK => ?_); go_simp; refine hK _ ?_; clear hK K)
  first | (refine wpRO_free rfl rfl _ (fun w' => by go_simp; exact Gives.mk _ _) (fun K hK => ?_); go_simp; refine hK _ ?_; clear hK K) | (refine wpRO_skipF rfl rfl (fun K hK => ?_); go_simp; refine hK _ ?_; clear hK K)
  refine wpRO_fin ?_
  have HB3 := Lib.hid (HB2.out.same ((Keeps.refl (fun _ => False) w2).drew))
  have K3 := Lib.hid (K2.out.drew.mono (fun _ _ h => h.elim) : Keeps h.Own w w2.drew)
  have SB3 := Lib.hid (show Blk w2.drew sb _ _ from SB2.out.drew)
  clear HB2 K2 SB2 HRCS HFZ b0 b1 bl q0 q1 q2 q3 ql s0 s1 s2 s3 sl hgl ra HGET
  generalize w2.drew = w3 at *
  by_cases he : e = 0
  · subst he
    obtain ⟨b0, b1, bl⟩ := HB3.out.pcells
    obtain ⟨q0, q3, ql, gl, gf, gc⟩ := HB3.out.rcells HRO.out hc12
    have hin := HB3.out.rootW (k := c) (x := y) HRO.out hc12 HYR.out
    have HB4 := Lib.hid hin.1
    have K4 := Lib.hid (K3.out.trans hin.2)
    have SB4 := Lib.hid (show Blk _ sb _ _ from ((Keeps.refl (· = g) w3).setCell (p := ⟨g, o + c, none⟩) (.inl rfl) (.int .i64 (y))).blk SB3.out (fun e => by
      obtain ⟨_, l, hl⟩ := HB3.out.H.hr.own (k := g) (by rw [HRO.out]; rfl)
      exact SB3.out.ne hl (by decide) e))
    clear hin b1 HB3 K3 SB3
    go_wp2_with fail
    generalize w3.setCell ⟨g, o + c, none⟩ (.int .i64 y) = w4 at *
    clear b0 bl q0 q3 ql gl gf gc
    obtain ⟨b0, b1, bl⟩ := HB4.out.pcells
    have s2 := SB4.out.cell 2; have sl := SB4.out.lt
    simp only [List.getElem?_cons_zero, List.getElem?_cons_succ] at s2
    go_wp2_with fail
    refine wp_region_ro (.free 0 (.free 1 (.free 2 (.free 3 (.free 5 (.free 6 (.free 7 (.pure 4 (.pure 8 (.free 9 (.run 10 (.swi [] (.free 11 (.free 12 (.fin))))))))))))))) [10, 11, 12] (fun w' => w'.cell? ⟨h.p, 1, none⟩ = some (.pointer (some ⟨h.b.p, 0, none⟩)) ∧ w'.cell? ⟨sb, 2, none⟩ = some (.int .i64 xb)) (by kernel_rfl) (by kernel_rfl) ⟨b1, s2⟩ ?_
    first | (refine wpRO_free rfl rfl _ (fun w' => by go_simp; exact Gives.mk _ _) (fun K hK => ?_); go_simp; refine hK _ ?_; clear hK K) | (refine wpRO_skipF rfl rfl (fun K hK => ?_); go_simp; refine hK _ ?_; clear hK K)
    first | (refine wpRO_free rfl rfl _ (fun w' => by go_simp; exact Gives.mk _ _) (fun K hK => ?_); go_simp; refine hK _ ?_; clear hK K) | (refine wpRO_skipF rfl rfl (fun K hK => ?_); go_simp; refine hK _ ?_; clear hK K)
    first | (refine wpRO_free rfl rfl _ (fun w' => by go_simp; exact Gives.mk _ _) (fun K hK => ?_); go_simp; refine hK _ ?_; clear hK K) | (refine wpRO_skipF rfl rfl (fun K hK => ?_); go_simp; refine hK _ ?_; clear hK K)
    first | (refine wpRO_free rfl rfl _ (fun w' => by go_simp; exact Gives.mk _ _) (fun K hK => ?_); go_simp; refine hK _ ?_; clear hK K) | (refine wpRO_skipF rfl rfl (fun K hK => ?_); go_simp; refine hK _ ?_; clear hK K)
    first | (refine wpRO_free rfl rfl _ (fun w' => by go_simp; exact Gives.mk _ _) (fun K hK => ?_); go_simp; refine hK _ ?_; clear hK K) | (refine wpRO_skipF rfl rfl (fun K hK => ?_); go_simp; refine hK _ ?_; clear hK K)
    first | (refine wpRO_free rfl rfl _ (fun w' => by go_simp; exact Gives.mk _ _) (fun K hK => ?_); go_simp; refine hK _ ?_; clear hK K) | (refine wpRO_skipF rfl rfl (fun K hK => ?_); go_simp; refine hK _ ?_; clear hK K)
    first | (refine wpRO_free rfl rfl _ (fun w' => by go_simp; exact Gives.mk _ _) (fun K hK => ?_); go_simp; refine hK _ ?_; clear hK K) | (refine wpRO_skipF rfl rfl (fun K hK => ?_); go_simp; refine hK _ ?_; clear hK K)
    first | (refine wpRO_pure rfl rfl _ (fun w' hG => by obtain ⟨b1, s2⟩ := hG; exact gives_agg2 rfl (by decide +kernel) rfl (by assumption) (by assumption)) (fun K hK => ?_); go_simp; refine hK _ ?_; clear hK K) | (refine wpRO_pure rfl rfl _ (fun w' hG => by obtain ⟨b1, s2⟩ := hG; go_simp; exact Gives.mk _ _) (fun K hK => ?_); go_simp; refine hK _ ?_; clear hK K) | (refine wpRO_skip rfl rfl (fun K hK => ?_); go_simp; refine hK _ ?_; clear hK K)
    first | (refine wpRO_pure rfl rfl _ (fun w' hG => by obtain ⟨b1, s2⟩ := hG; exact gives_agg2 rfl (by decide +kernel) rfl (by assumption) (by assumption)) (fun K hK => ?_); go_simp; refine hK _ ?_; clear hK K) | (refine wpRO_pure rfl rfl _ (fun w' hG => by obtain ⟨b1, s2⟩ := hG; go_simp; exact Gives.mk _ _) (fun K hK => ?_); go_simp; refine hK _ ?_; clear hK K) | (refine wpRO_skip rfl rfl (fun K hK => ?_); go_simp; refine hK _ ?_; clear hK K)
    first | (refine wpRO_free rfl rfl _ (fun w' => by go_simp; exact Gives.mk _ _) (fun K hK => ?_); go_simp; refine hK _ ?_; clear hK K) | (refine wpRO_skipF rfl rfl (fun K hK => ?_); go_simp; refine hK _ ?_; clear hK K)
    refine wpRO_chg rfl rfl rfl (fun K hK => ?_); unfold gRun; go_simp
    refine (HDO.out _ (HB4.out.same ((Keeps.refl (fun _ => False) w4).drew)).R).mono ?_
    rintro e5 w5 ⟨rfl, ht⟩
    refine hK _ _ ?_
    clear hK K
    refine wpRO_swi (fun _ => True) trivial ?_
    first | (refine wpRO_free rfl rfl _ (fun w' => by go_simp; exact Gives.mk _ _) (fun K hK => ?_); go_simp; refine hK _ ?_; clear hK K) | (refine wpRO_skipF rfl rfl (fun K hK => ?_); go_simp; refine hK _ ?_; clear hK K)
    first | (refine wpRO_free rfl rfl _ (fun w' => by go_simp; exact Gives.mk _ _) (fun K hK => ?_); go_simp; refine hK _ ?_; clear hK K) | (refine wpRO_skipF rfl rfl (fun K hK => ?_); go_simp; refine hK _ ?_; clear hK K)
    refine wpRO_fin ?_
    have TO := Lib.hid (BothTo.from_keep K4.out.drew (BothTo.world (HB4.out.same ((Keeps.refl (fun _ => False) w4).drew)) ht))
    clear ht b0 b1 s2 sl bl
    go_wp2_with fail
    go_ret
    unfold BothDoRet
    rw [HWO.out, HWD.out, putC_yes]
    exact ⟨by simp [Bool.beq_eq_decide_eq], TO.out⟩
  · have hd : (e == 0) = false := by simpa using he
    have HB4 := HB3; have K4 := K3; have SB4 := SB3
    have HPN := Lib.hid (putC_no (O := O) (r := (c : Int)) (y := y) he)
    clear HB3 K3 SB3 he
    generalize w3 = w4 at *
    obtain ⟨b0, b1, bl⟩ := HB4.out.pcells
    have s2 := SB4.out.cell 2; have sl := SB4.out.lt
    simp only [List.getElem?_cons_zero, List.getElem?_cons_succ] at s2
    go_wp2_with fail
    refine wp_region_ro (.free 0 (.free 1 (.free 2 (.free 3 (.free 5 (.free 6 (.free 7 (.pure 4 (.pure 8 (.free 9 (.run 10 (.swi [] (.free 11 (.free 12 (.fin))))))))))))))) [10, 11, 12] (fun w' => w'.cell? ⟨h.p, 1, none⟩ = some (.pointer (some ⟨h.b.p, 0, none⟩)) ∧ w'.cell? ⟨sb, 2, none⟩ = some (.int .i64 xb)) (by kernel_rfl) (by kernel_rfl) ⟨b1, s2⟩ ?_
    first | (refine wpRO_free rfl rfl _ (fun w' => by go_simp; exact Gives.mk _ _) (fun K hK => ?_); go_simp; refine hK _ ?_; clear hK K) | (refine wpRO_skipF rfl rfl (fun K hK => ?_); go_simp; refine hK _ ?_; clear hK K)
    first | (refine wpRO_free rfl rfl _ (fun w' => by go_simp; exact Gives.mk _ _) (fun K hK => ?_); go_simp; refine hK _ ?_; clear hK K) | (refine wpRO_skipF rfl rfl (fun K hK => ?_); go_simp; refine hK _ ?_; clear hK K)
    first | (refine wpRO_free rfl rfl _ (fun w' => by go_simp; exact Gives.mk _ _) (fun K hK => ?_); go_simp; refine hK _ ?_; clear hK K) | (refine wpRO_skipF rfl rfl (fun K hK => ?_); go_simp; refine hK _ ?_; clear hK K)
    first | (refine wpRO_free rfl rfl _ (fun w' => by go_simp; exact Gives.mk _ _) (fun K hK => ?_); go_simp; refine hK _ ?_; clear hK K) | (refine wpRO_skipF rfl rfl (fun K hK => ?_); go_simp; refine hK _ ?_; clear hK K)
    first | (refine wpRO_free rfl rfl _ (fun w' => by go_simp; exact Gives.mk _ _) (fun K hK => ?_); go_simp; refine hK _ ?_; clear hK K) | (refine wpRO_skipF rfl rfl (fun K hK => ?_); go_simp; refine hK _ ?_; clear hK K)
    first | (refine wpRO_free rfl rfl _ (fun w' => by go_simp; exact Gives.mk _ _) (fun K hK => ?_); go_simp; refine hK _ ?_; clear hK K) | (refine wpRO_skipF rfl rfl (fun K hK => ?_); go_simp; refine hK _ ?_; clear hK K)
    first | (refine wpRO_free rfl rfl _ (fun w' => by go_simp; exact Gives.mk _ _) (fun K hK => ?_); go_simp; refine hK _ ?_; clear hK K) | (refine wpRO_skipF rfl rfl (fun K hK => ?_); go_simp; refine hK _ ?_; clear hK K)
    first | (refine wpRO_pure rfl rfl _ (fun w' hG => by obtain ⟨b1, s2⟩ := hG; exact gives_agg2 rfl (by decide +kernel) rfl (by assumption) (by assumption)) (fun K hK => ?_); go_simp; refine hK _ ?_; clear hK K) | (refine wpRO_pure rfl rfl _ (fun w' hG => by obtain ⟨b1, s2⟩ := hG; go_simp; exact Gives.mk _ _) (fun K hK => ?_); go_simp; refine hK _ ?_; clear hK K) | (refine wpRO_skip rfl rfl (fun K hK => ?_); go_simp; refine hK _ ?_; clear hK K)
    first | (refine wpRO_pure rfl rfl _ (fun w' hG => by obtain ⟨b1, s2⟩ := hG; exact gives_agg2 rfl (by decide +kernel) rfl (by assumption) (by assumption)) (fun K hK => ?_); go_simp; refine hK _ ?_; clear hK K) | (refine wpRO_pure rfl rfl _ (fun w' hG => by obtain ⟨b1, s2⟩ := hG; go_simp; exact Gives.mk _ _) (fun K hK => ?_); go_simp; refine hK _ ?_; clear hK K) | (refine wpRO_skip rfl rfl (fun K hK => ?_); go_simp; refine hK _ ?_; clear hK K)
    first | (refine wpRO_free rfl rfl _ (fun w' => by go_simp; exact Gives.mk _ _) (fun K hK => ?_); go_simp; refine hK _ ?_; clear hK K) | (refine wpRO_skipF rfl rfl (fun K hK => ?_); go_simp; refine hK _ ?_; clear hK K)
    refine wpRO_chg rfl rfl rfl (fun K hK => ?_); unfold gRun; go_simp
    refine (HDO.out _ (HB4.out.same ((Keeps.refl (fun _ => False) w4).drew)).R).mono ?_
    rintro e5 w5 ⟨rfl, ht⟩
    refine hK _ _ ?_
    clear hK K
    refine wpRO_swi (fun _ => True) trivial ?_
    first | (refine wpRO_free rfl rfl _ (fun w' => by go_simp; exact Gives.mk _ _) (fun K hK => ?_); go_simp; refine hK _ ?_; clear hK K) | (refine wpRO_skipF rfl rfl (fun K hK => ?_); go_simp; refine hK _ ?_; clear hK K)
    first | (refine wpRO_free rfl rfl _ (fun w' => by go_simp; exact Gives.mk _ _) (fun K hK => ?_); go_simp; refine hK _ ?_; clear hK K) | (refine wpRO_skipF rfl rfl (fun K hK => ?_); go_simp; refine hK _ ?_; clear hK K)
    refine wpRO_fin ?_
    have TO := Lib.hid (BothTo.from_keep K4.out.drew (BothTo.world (HB4.out.same ((Keeps.refl (fun _ => False) w4).drew)) ht))
    clear ht b0 b1 s2 sl bl
    go_wp2_with fail
    go_ret
    unfold BothDoRet
    rw [HWO.out, HWD.out, HPN.out]
    exact ⟨by simp [Bool.beq_eq_decide_eq], TO.out⟩
end

end Go.Proofs.Ytjifdalflepcoab

namespace Go.Proofs.Ytjifdalflepcoab
open Go.RowKit
set_option linter.unusedVariables false
set_option linter.unusedSimpArgs false

theorem encW_num (n : Int) : encW 1 n = if -big ≤ n ∧ n < big then (4 * n, 0) else (0, 1) := by unfold encW; rw [if_neg (by decide), if_neg (by decide), if_pos rfl]

section
variable {w w' : World} {h : BH} {O O' : Wo} {W W' : Wd}

set_option maxHeartbeats 16000000 in
set_option maxRecDepth 100000 in
theorem bothDo3_c (xa xb xc : Int) (B : BothAt w h O W) (hb : R64 xa) :
    Calls Try.prog 74 #[.pointer (some ⟨h.p, 0, none⟩), .agg #[.int .i64 3, .int .i64 xa, .int .i64 xb, .int .i64 xc]] w (BothDoRet w h O W 3 xa xb (rootN xa) (rootN xc)) := by
  have ka := (Keeps.refl (fun _ => False) w).alloc (.cells #[.int .i64 3, .int .i64 xa, .int .i64 xb, .int .i64 xc] 112)
  have hs : Blk (w.alloc (.cells #[.int .i64 3, .int .i64 xa, .int .i64 xb, .int .i64 xc] 112)) w.heap.size [.int .i64 3, .int .i64 xa, .int .i64 xb, .int .i64 xc] 112 := Blk.newAt _ rfl rfl
  have HB1 := Lib.hid (B.same ka); have SB := Lib.hid hs; have K1 := Lib.hid ka; have HBB := Lib.hid hb
  clear ka hs B hb
  go_enter Try.func74, Try.ntmps74
  go_wp2_with fail
  generalize w.alloc (.cells #[.int .i64 3, .int .i64 xa, .int .i64 xb, .int .i64 xc] 112) = w1 at *
  generalize w.heap.size = sb at *
  have s0 := SB.out.cell 0; have s1 := SB.out.cell 1; have s2 := SB.out.cell 2; have s3 := SB.out.cell 3; have sl := SB.out.lt
  simp only [List.getElem?_cons_zero, List.getElem?_cons_succ] at s0 s1 s2 s3
  refine wp_region_ro (.free 0 (.free 3 (.pure 1 (.pure 4 (.run 2 (.run 5 (.swi [] (.free 6 (.free 7 (.fin)))))))))) [5, 6, 7] (fun w' => w'.cell? ⟨sb, 1, none⟩ = some (.int .i64 xa) ∧ w'.cell? ⟨sb, 3, none⟩ = some (.int .i64 xc)) (by kernel_rfl) (by kernel_rfl) ⟨s1, s3⟩ ?_
  first | (refine wpRO_free rfl rfl _ (fun w' => by go_simp; exact Gives.mk _ _) (fun K hK => ?_); go_simp; refine hK _ ?_; clear hK K) | (refine wpRO_skipF rfl rfl (fun K hK => ?_); go_simp; refine hK _ ?_; clear hK K)
  first | (refine wpRO_free rfl rfl _ (fun w' => by go_simp; exact Gives.mk _ _) (fun K hK => ?_); go_simp; refine hK _ ?_; clear hK K) | (refine wpRO_skipF rfl rfl (fun K hK => ?_); go_simp; refine hK _ ?_; clear hK K)
  first | (refine wpRO_pure rfl rfl _ (fun w' hG => by obtain ⟨s1, s3⟩ := hG; exact gives_agg2 rfl (by decide +kernel) rfl (by assumption) (by assumption)) (fun K hK => ?_); go_simp; refine hK _ ?_; clear hK K) | (refine wpRO_pure rfl rfl _ (fun w' hG => by obtain ⟨s1, s3⟩ := hG; go_simp; exact Gives.mk _ _) (fun K hK => ?_); go_simp; refine hK _ ?_; clear hK K) | (refine wpRO_skip rfl rfl (fun K hK => ?_); go_simp; refine hK _ ?_; clear hK K)
  first | (refine wpRO_pure rfl rfl _ (fun w' hG => by obtain ⟨s1, s3⟩ := hG; exact gives_agg2 rfl (by decide +kernel) rfl (by assumption) (by assumption)) (fun K hK => ?_); go_simp; refine hK _ ?_; clear hK K) | (refine wpRO_pure rfl rfl _ (fun w' hG => by obtain ⟨s1, s3⟩ := hG; go_simp; exact Gives.mk _ _) (fun K hK => ?_); go_simp; refine hK _ ?_; clear hK K) | (refine wpRO_skip rfl rfl (fun K hK => ?_); go_simp; refine hK _ ?_; clear hK K)
  refine wpRO_run rfl rfl (fun K hK => ?_); unfold gRun; go_simp
  refine (Root_c xa _).mono ?_
  rintro e w2 ⟨rfl, rfl⟩
  refine hK _ _ (fun hg => hg) ?_
  clear hK K
  refine wpRO_chg rfl rfl rfl (fun K hK => ?_); unfold gRun; go_simp
  refine (Root_c xc _).mono ?_
  rintro e w2 ⟨rfl, rfl⟩
  refine hK _ _ ?_
  clear hK K
  refine wpRO_swi (fun _ => True) trivial ?_
  first | (refine wpRO_free rfl rfl _ (fun w' => by go_simp; exact Gives.mk _ _) (fun K hK => ?_); go_simp; refine hK _ ?_; clear hK K) | (refine wpRO_skipF rfl rfl (fun K hK => ?_); go_simp; refine hK _ ?_; clear hK K)
  first | (refine wpRO_free rfl rfl _ (fun w' => by go_simp; exact Gives.mk _ _) (fun K hK => ?_); go_simp; refine hK _ ?_; clear hK K) | (refine wpRO_skipF rfl rfl (fun K hK => ?_); go_simp; refine hK _ ?_; clear hK K)
  refine wpRO_fin ?_
  have ha12 := rootN_lt xa; have hc12 := rootN_lt xc
  generalize rootN xa = a at *
  generalize rootN xc = c at *
  have HB2 := Lib.hid (HB1.out.same ((Keeps.refl (fun _ => False) w1).drew)); have K2 := Lib.hid (K1.out.drew); have SB2 := Lib.hid (show Blk w1.drew sb _ _ from SB.out.drew)
  clear s0 s1 s2 s3 sl HB1 K1 SB
  generalize w1.drew = w2 at *
  have s0 := SB2.out.cell 0; have s1 := SB2.out.cell 1; have s2 := SB2.out.cell 2; have s3 := SB2.out.cell 3; have sl := SB2.out.lt
  simp only [List.getElem?_cons_zero, List.getElem?_cons_succ] at s0 s1 s2 s3
  have b0 := HB2.out.hp.cell 0; have b1 := HB2.out.hp.cell 1; have bl := HB2.out.hp.lt
  simp only [List.getElem?_cons_zero, List.getElem?_cons_succ] at b0 b1
  have hor12 := HB2.out.H.ok.h12
  obtain ⟨g, o, cap, hro, hown, hgl, q3, fz, rcs⟩ := HB2.out.H.roots
  obtain ⟨q0, q1, q2, -⟩ := HB2.out.H.ptrs
  have ra := rcs a (by omega); have rc := rcs c (by omega)
  have fc := fz (o + c)
  rw [hor12] at q3 hro
  have HRO := Lib.hid hro; have HOWN := Lib.hid hown; have HO12 := Lib.hid hor12; have HFZ := Lib.hid fz; have HRCS := Lib.hid rcs
  have ql := HB2.out.H.hp.lt
  clear hro hown hor12 fz rcs
  have yl : (O.ar.yng : Int) ≤ 1280 := by have := HB2.out.H.ok.ha.h1; have := HB2.out.H.ok.ha.h2; have := HB2.out.H.ok.ha.h3; have := HB2.out.H.ok.ha.h4; omega
  have ha12i : (a : Int) < 12 := by omega
  have hc12i : (c : Int) < 12 := by omega
  have HWO := Lib.hid (show woC O 3 xa xb a c = if -big ≤ xa ∧ xa < big then (0, O.setRt c (4 * xa)) else (1, O) by unfold woC; rw [if_neg (by decide), if_neg (by decide), if_neg (by decide), if_pos rfl])
  have HWD := Lib.hid (show wdC W 3 xa xb a c = W.do ⟨1, c, 0, 0, 0, xa⟩ by unfold wdC; rw [if_neg (by decide), if_neg (by decide), if_neg (by decide), if_pos rfl])
  have hdo := fun w' (R : WorldAt w' h.b W) => WDoInt_c c 0 0 0 xa R
  obtain ⟨⟨dc, W'⟩, hD⟩ : ∃ t, W.do ⟨1, c, 0, 0, 0, xa⟩ = t := ⟨_, rfl⟩
  rw [hD] at HWD
  simp only [hD] at hdo
  have HDO := Lib.hid hdo
  have HEN := Lib.hid (encW_num xa)
  clear hD hdo fc rc ra
  go_wp2_with fail
  refine (Encode_c 1 xa _ HBB.out.1 HBB.out.2).mono ?_
  rintro e w3 ⟨rfl, hk⟩
  have HB3 := Lib.hid (HB2.out.same hk)
  have K3 := Lib.hid ((K2.out.trans hk).mono (fun _ _ h => h.elim) : Keeps h.Own w w3)
  have SB3 := Lib.hid (hk.blk SB2.out (fun h => h))
  clear HB2 K2 SB2 HRCS HFZ b0 b1 bl q0 q1 q2 q3 ql s0 s1 s2 s3 sl hgl hk
  rw [HEN.out]
  by_cases hn : -big ≤ xa ∧ xa < big
  · have HWO2 := Lib.hid (HWO.out.trans (if_pos hn))
    have hx : R64 (4 * xa) := by unfold R64; have := hn.1; have := hn.2; unfold big at *; omega
    rw [if_pos hn]
    clear hn
    obtain ⟨b0, b1, bl⟩ := HB3.out.pcells
    obtain ⟨q0, q3, ql, gl, gf, gc⟩ := HB3.out.rcells HRO.out hc12
    have hin := HB3.out.rootW (k := c) (x := 4 * xa) HRO.out hc12 hx
    have HB4 := Lib.hid hin.1
    have K4 := Lib.hid (K3.out.trans hin.2)
    have SB4 := Lib.hid (show Blk _ sb _ _ from ((Keeps.refl (· = g) w3).setCell (p := ⟨g, o + c, none⟩) (.inl rfl) (.int .i64 (4 * xa))).blk SB3.out (fun e => by
      obtain ⟨_, l, hl⟩ := HB3.out.H.hr.own (k := g) (by rw [HRO.out]; rfl)
      exact SB3.out.ne hl (by decide) e))
    clear hin b1 HB3 K3 SB3 hx
    go_wp2_with fail
    generalize w3.setCell ⟨g, o + c, none⟩ (.int .i64 (4 * xa)) = w4 at *
    clear b0 bl q0 q3 ql gl gf gc
    obtain ⟨b0, b1, bl⟩ := HB4.out.pcells
    have s1 := SB4.out.cell 1; have sl := SB4.out.lt
    simp only [List.getElem?_cons_zero, List.getElem?_cons_succ] at s1
    go_wp2_with fail
    refine wp_region_ro (.free 0 (.free 1 (.free 2 (.free 3 (.free 5 (.free 6 (.pure 4 (.pure 7 (.free 8 (.run 9 (.swi [] (.free 10 (.free 11 (.fin)))))))))))))) [9, 10, 11] (fun w' => w'.cell? ⟨h.p, 1, none⟩ = some (.pointer (some ⟨h.b.p, 0, none⟩)) ∧ w'.cell? ⟨sb, 1, none⟩ = some (.int .i64 xa)) (by kernel_rfl) (by kernel_rfl) ⟨b1, s1⟩ ?_
    first | (refine wpRO_free rfl rfl _ (fun w' => by go_simp; exact Gives.mk _ _) (fun K hK => ?_); go_simp; refine hK _ ?_; clear hK K) | (refine wpRO_skipF rfl rfl (fun K hK => ?_); go_simp; refine hK _ ?_; clear hK K)
    first | (refine wpRO_free rfl rfl _ (fun w' => by go_simp; exact Gives.mk _ _) (fun K hK => ?_); go_simp; refine hK _ ?_; clear hK K) | (refine wpRO_skipF rfl rfl (fun K hK => ?_); go_simp; refine hK _ ?_; clear hK K)
    first | (refine wpRO_free rfl rfl _ (fun w' => by go_simp; exact Gives.mk _ _) (fun K hK => ?_); go_simp; refine hK _ ?_; clear hK K) | (refine wpRO_skipF rfl rfl (fun K hK => ?_); go_simp; refine hK _ ?_; clear hK K)
    first | (refine wpRO_free rfl rfl _ (fun w' => by go_simp; exact Gives.mk _ _) (fun K hK => ?_); go_simp; refine hK _ ?_; clear hK K) | (refine wpRO_skipF rfl rfl (fun K hK => ?_); go_simp; refine hK _ ?_; clear hK K)
    first | (refine wpRO_free rfl rfl _ (fun w' => by go_simp; exact Gives.mk _ _) (fun K hK => ?_); go_simp; refine hK _ ?_; clear hK K) | (refine wpRO_skipF rfl rfl (fun K hK => ?_); go_simp; refine hK _ ?_; clear hK K)
    first | (refine wpRO_free rfl rfl _ (fun w' => by go_simp; exact Gives.mk _ _) (fun K hK => ?_); go_simp; refine hK _ ?_; clear hK K) | (refine wpRO_skipF rfl rfl (fun K hK => ?_); go_simp; refine hK _ ?_; clear hK K)
    first | (refine wpRO_pure rfl rfl _ (fun w' hG => by obtain ⟨b1, s1⟩ := hG; exact gives_agg2 rfl (by decide +kernel) rfl (by assumption) (by assumption)) (fun K hK => ?_); go_simp; refine hK _ ?_; clear hK K) | (refine wpRO_pure rfl rfl _ (fun w' hG => by obtain ⟨b1, s1⟩ := hG; go_simp; exact Gives.mk _ _) (fun K hK => ?_); go_simp; refine hK _ ?_; clear hK K) | (refine wpRO_skip rfl rfl (fun K hK => ?_); go_simp; refine hK _ ?_; clear hK K)
    first | (refine wpRO_pure rfl rfl _ (fun w' hG => by obtain ⟨b1, s1⟩ := hG; exact gives_agg2 rfl (by decide +kernel) rfl (by assumption) (by assumption)) (fun K hK => ?_); go_simp; refine hK _ ?_; clear hK K) | (refine wpRO_pure rfl rfl _ (fun w' hG => by obtain ⟨b1, s1⟩ := hG; go_simp; exact Gives.mk _ _) (fun K hK => ?_); go_simp; refine hK _ ?_; clear hK K) | (refine wpRO_skip rfl rfl (fun K hK => ?_); go_simp; refine hK _ ?_; clear hK K)
    first | (refine wpRO_free rfl rfl _ (fun w' => by go_simp; exact Gives.mk _ _) (fun K hK => ?_); go_simp; refine hK _ ?_; clear hK K) | (refine wpRO_skipF rfl rfl (fun K hK => ?_); go_simp; refine hK _ ?_; clear hK K)
    refine wpRO_chg rfl rfl rfl (fun K hK => ?_); unfold gRun; go_simp
    refine (HDO.out _ (HB4.out.same ((Keeps.refl (fun _ => False) w4).drew)).R).mono ?_
    rintro e5 w5 ⟨rfl, ht⟩
    refine hK _ _ ?_
    clear hK K
    refine wpRO_swi (fun _ => True) trivial ?_
    first | (refine wpRO_free rfl rfl _ (fun w' => by go_simp; exact Gives.mk _ _) (fun K hK => ?_); go_simp; refine hK _ ?_; clear hK K) | (refine wpRO_skipF rfl rfl (fun K hK => ?_); go_simp; refine hK _ ?_; clear hK K)
    first | (refine wpRO_free rfl rfl _ (fun w' => by go_simp; exact Gives.mk _ _) (fun K hK => ?_); go_simp; refine hK _ ?_; clear hK K) | (refine wpRO_skipF rfl rfl (fun K hK => ?_); go_simp; refine hK _ ?_; clear hK K)
    refine wpRO_fin ?_
    have TO := Lib.hid (BothTo.from_keep K4.out.drew (BothTo.world (HB4.out.same ((Keeps.refl (fun _ => False) w4).drew)) ht))
    clear ht b0 b1 s1 sl bl
    go_wp2_with fail
    go_ret
    unfold BothDoRet
    rw [HWO2.out, HWD.out]
    exact ⟨by simp [Bool.beq_eq_decide_eq], TO.out⟩
  · have HWO2 := Lib.hid (HWO.out.trans (if_neg hn))
    rw [if_neg hn]
    have HB4 := HB3; have K4 := K3; have SB4 := SB3
    clear HB3 K3 SB3 hn
    generalize w3 = w4 at *
    obtain ⟨b0, b1, bl⟩ := HB4.out.pcells
    have s1 := SB4.out.cell 1; have sl := SB4.out.lt
    simp only [List.getElem?_cons_zero, List.getElem?_cons_succ] at s1
    go_wp2_with fail
    refine wp_region_ro (.free 0 (.free 1 (.free 2 (.free 3 (.free 5 (.free 6 (.pure 4 (.pure 7 (.free 8 (.run 9 (.swi [] (.free 10 (.free 11 (.fin)))))))))))))) [9, 10, 11] (fun w' => w'.cell? ⟨h.p, 1, none⟩ = some (.pointer (some ⟨h.b.p, 0, none⟩)) ∧ w'.cell? ⟨sb, 1, none⟩ = some (.int .i64 xa)) (by kernel_rfl) (by kernel_rfl) ⟨b1, s1⟩ ?_
    first | (refine wpRO_free rfl rfl _ (fun w' => by go_simp; exact Gives.mk _ _) (fun K hK => ?_); go_simp; refine hK _ ?_; clear hK K) | (refine wpRO_skipF rfl rfl (fun K hK => ?_); go_simp; refine hK _ ?_; clear hK K)
    first | (refine wpRO_free rfl rfl _ (fun w' => by go_simp; exact Gives.mk _ _) (fun K hK => ?_); go_simp; refine hK _ ?_; clear hK K) | (refine wpRO_skipF rfl rfl (fun K hK => ?_); go_simp; refine hK _ ?_; clear hK K)
    first | (refine wpRO_free rfl rfl _ (fun w' => by go_simp; exact Gives.mk _ _) (fun K hK => ?_); go_simp; refine hK _ ?_; clear hK K) | (refine wpRO_skipF rfl rfl (fun K hK => ?_); go_simp; refine hK _ ?_; clear hK K)
    first | (refine wpRO_free rfl rfl _ (fun w' => by go_simp; exact Gives.mk _ _) (fun K hK => ?_); go_simp; refine hK _ ?_; clear hK K) | (refine wpRO_skipF rfl rfl (fun K hK => ?_); go_simp; refine hK _ ?_; clear hK K)
    first | (refine wpRO_free rfl rfl _ (fun w' => by go_simp; exact Gives.mk _ _) (fun K hK => ?_); go_simp; refine hK _ ?_; clear hK K) | (refine wpRO_skipF rfl rfl (fun K hK => ?_); go_simp; refine hK _ ?_; clear hK K)
    first | (refine wpRO_free rfl rfl _ (fun w' => by go_simp; exact Gives.mk _ _) (fun K hK => ?_); go_simp; refine hK _ ?_; clear hK K) | (refine wpRO_skipF rfl rfl (fun K hK => ?_); go_simp; refine hK _ ?_; clear hK K)
    first | (refine wpRO_pure rfl rfl _ (fun w' hG => by obtain ⟨b1, s1⟩ := hG; exact gives_agg2 rfl (by decide +kernel) rfl (by assumption) (by assumption)) (fun K hK => ?_); go_simp; refine hK _ ?_; clear hK K) | (refine wpRO_pure rfl rfl _ (fun w' hG => by obtain ⟨b1, s1⟩ := hG; go_simp; exact Gives.mk _ _) (fun K hK => ?_); go_simp; refine hK _ ?_; clear hK K) | (refine wpRO_skip rfl rfl (fun K hK => ?_); go_simp; refine hK _ ?_; clear hK K)
    first | (refine wpRO_pure rfl rfl _ (fun w' hG => by obtain ⟨b1, s1⟩ := hG; exact gives_agg2 rfl (by decide +kernel) rfl (by assumption) (by assumption)) (fun K hK => ?_); go_simp; refine hK _ ?_; clear hK K) | (refine wpRO_pure rfl rfl _ (fun w' hG => by obtain ⟨b1, s1⟩ := hG; go_simp; exact Gives.mk _ _) (fun K hK => ?_); go_simp; refine hK _ ?_; clear hK K) | (refine wpRO_skip rfl rfl (fun K hK => ?_); go_simp; refine hK _ ?_; clear hK K)
    first | (refine wpRO_free rfl rfl _ (fun w' => by go_simp; exact Gives.mk _ _) (fun K hK => ?_); go_simp; refine hK _ ?_; clear hK K) | (refine wpRO_skipF rfl rfl (fun K hK => ?_); go_simp; refine hK _ ?_; clear hK K)
    refine wpRO_chg rfl rfl rfl (fun K hK => ?_); unfold gRun; go_simp
    refine (HDO.out _ (HB4.out.same ((Keeps.refl (fun _ => False) w4).drew)).R).mono ?_
    rintro e5 w5 ⟨rfl, ht⟩
    refine hK _ _ ?_
    clear hK K
    refine wpRO_swi (fun _ => True) trivial ?_
    first | (refine wpRO_free rfl rfl _ (fun w' => by go_simp; exact Gives.mk _ _) (fun K hK => ?_); go_simp; refine hK _ ?_; clear hK K) | (refine wpRO_skipF rfl rfl (fun K hK => ?_); go_simp; refine hK _ ?_; clear hK K)
    first | (refine wpRO_free rfl rfl _ (fun w' => by go_simp; exact Gives.mk _ _) (fun K hK => ?_); go_simp; refine hK _ ?_; clear hK K) | (refine wpRO_skipF rfl rfl (fun K hK => ?_); go_simp; refine hK _ ?_; clear hK K)
    refine wpRO_fin ?_
    have TO := Lib.hid (BothTo.from_keep K4.out.drew (BothTo.world (HB4.out.same ((Keeps.refl (fun _ => False) w4).drew)) ht))
    clear ht b0 b1 s1 sl bl
    go_wp2_with fail
    go_ret
    unfold BothDoRet
    rw [HWO2.out, HWD.out]
    exact ⟨by simp [Bool.beq_eq_decide_eq], TO.out⟩

set_option maxHeartbeats 16000000 in
set_option maxRecDepth 100000 in
theorem bothDo4_c (xa xb xc : Int) (B : BothAt w h O W) (hb : R64 xa) :
    Calls Try.prog 74 #[.pointer (some ⟨h.p, 0, none⟩), .agg #[.int .i64 4, .int .i64 xa, .int .i64 xb, .int .i64 xc]] w (BothDoRet w h O W 4 xa xb (rootN xa) (rootN xc)) := by
  have ka := (Keeps.refl (fun _ => False) w).alloc (.cells #[.int .i64 4, .int .i64 xa, .int .i64 xb, .int .i64 xc] 112)
  have hs : Blk (w.alloc (.cells #[.int .i64 4, .int .i64 xa, .int .i64 xb, .int .i64 xc] 112)) w.heap.size [.int .i64 4, .int .i64 xa, .int .i64 xb, .int .i64 xc] 112 := Blk.newAt _ rfl rfl
  have HB1 := Lib.hid (B.same ka); have SB := Lib.hid hs; have K1 := Lib.hid ka; have HBB := Lib.hid hb
  clear ka hs B hb
  go_enter Try.func74, Try.ntmps74
  go_wp2_with fail
  generalize w.alloc (.cells #[.int .i64 4, .int .i64 xa, .int .i64 xb, .int .i64 xc] 112) = w1 at *
  generalize w.heap.size = sb at *
  have s0 := SB.out.cell 0; have s1 := SB.out.cell 1; have s2 := SB.out.cell 2; have s3 := SB.out.cell 3; have sl := SB.out.lt
  simp only [List.getElem?_cons_zero, List.getElem?_cons_succ] at s0 s1 s2 s3
  refine wp_region_ro (.free 0 (.free 3 (.pure 1 (.pure 4 (.run 2 (.run 5 (.swi [] (.free 6 (.free 7 (.fin)))))))))) [5, 6, 7] (fun w' => w'.cell? ⟨sb, 1, none⟩ = some (.int .i64 xa) ∧ w'.cell? ⟨sb, 3, none⟩ = some (.int .i64 xc)) (by kernel_rfl) (by kernel_rfl) ⟨s1, s3⟩ ?_
  first | (refine wpRO_free rfl rfl _ (fun w' => by go_simp; exact Gives.mk _ _) (fun K hK => ?_); go_simp; refine hK _ ?_; clear hK K) | (refine wpRO_skipF rfl rfl (fun K hK => ?_); go_simp; refine hK _ ?_; clear hK K)
  first | (refine wpRO_free rfl rfl _ (fun w' => by go_simp; exact Gives.mk _ _) (fun K hK => ?_); go_simp; refine hK _ ?_; clear hK K) | (refine wpRO_skipF rfl rfl (fun K hK => ?_); go_simp; refine hK _ ?_; clear hK K)
  first | (refine wpRO_pure rfl rfl _ (fun w' hG => by obtain ⟨s1, s3⟩ := hG; exact gives_agg2 rfl (by decide +kernel) rfl (by assumption) (by assumption)) (fun K hK => ?_); go_simp; refine hK _ ?_; clear hK K) | (refine wpRO_pure rfl rfl _ (fun w' hG => by obtain ⟨s1, s3⟩ := hG; go_simp; exact Gives.mk _ _) (fun K hK => ?_); go_simp; refine hK _ ?_; clear hK K) | (refine wpRO_skip rfl rfl (fun K hK => ?_); go_simp; refine hK _ ?_; clear hK K)
  first | (refine wpRO_pure rfl rfl _ (fun w' hG => by obtain ⟨s1, s3⟩ := hG; exact gives_agg2 rfl (by decide +kernel) rfl (by assumption) (by assumption)) (fun K hK => ?_); go_simp; refine hK _ ?_; clear hK K) | (refine wpRO_pure rfl rfl _ (fun w' hG => by obtain ⟨s1, s3⟩ := hG; go_simp; exact Gives.mk _ _) (fun K hK => ?_); go_simp; refine hK _ ?_; clear hK K) | (refine wpRO_skip rfl rfl (fun K hK => ?_); go_simp; refine hK _ ?_; clear hK K)
  refine wpRO_run rfl rfl (fun K hK => ?_); unfold gRun; go_simp
  refine (Root_c xa _).mono ?_
  rintro e w2 ⟨rfl, rfl⟩
  refine hK _ _ (fun hg => hg) ?_
  clear hK K
  refine wpRO_chg rfl rfl rfl (fun K hK => ?_); unfold gRun; go_simp
  refine (Root_c xc _).mono ?_
  rintro e w2 ⟨rfl, rfl⟩
  refine hK _ _ ?_
  clear hK K
  refine wpRO_swi (fun _ => True) trivial ?_
  first | (refine wpRO_free rfl rfl _ (fun w' => by go_simp; exact Gives.mk _ _) (fun K hK => ?_); go_simp; refine hK _ ?_; clear hK K) | (refine wpRO_skipF rfl rfl (fun K hK => ?_); go_simp; refine hK _ ?_; clear hK K)
  first | (refine wpRO_free rfl rfl _ (fun w' => by go_simp; exact Gives.mk _ _) (fun K hK => ?_); go_simp; refine hK _ ?_; clear hK K) | (refine wpRO_skipF rfl rfl (fun K hK => ?_); go_simp; refine hK _ ?_; clear hK K)
  refine wpRO_fin ?_
  have ha12 := rootN_lt xa; have hc12 := rootN_lt xc
  generalize rootN xa = a at *
  generalize rootN xc = c at *
  have HB2 := Lib.hid (HB1.out.same ((Keeps.refl (fun _ => False) w1).drew)); have K2 := Lib.hid (K1.out.drew); have SB2 := Lib.hid (show Blk w1.drew sb _ _ from SB.out.drew)
  clear s0 s1 s2 s3 sl HB1 K1 SB
  generalize w1.drew = w2 at *
  have s0 := SB2.out.cell 0; have s1 := SB2.out.cell 1; have s2 := SB2.out.cell 2; have s3 := SB2.out.cell 3; have sl := SB2.out.lt
  simp only [List.getElem?_cons_zero, List.getElem?_cons_succ] at s0 s1 s2 s3
  have b0 := HB2.out.hp.cell 0; have b1 := HB2.out.hp.cell 1; have bl := HB2.out.hp.lt
  simp only [List.getElem?_cons_zero, List.getElem?_cons_succ] at b0 b1
  have hor12 := HB2.out.H.ok.h12
  obtain ⟨g, o, cap, hro, hown, hgl, q3, fz, rcs⟩ := HB2.out.H.roots
  obtain ⟨q0, q1, q2, -⟩ := HB2.out.H.ptrs
  have ra := rcs a (by omega); have rc := rcs c (by omega)
  have fc := fz (o + c)
  rw [hor12] at q3 hro
  have HRO := Lib.hid hro; have HOWN := Lib.hid hown; have HO12 := Lib.hid hor12; have HFZ := Lib.hid fz; have HRCS := Lib.hid rcs
  have ql := HB2.out.H.hp.lt
  clear hro hown hor12 fz rcs
  have yl : (O.ar.yng : Int) ≤ 1280 := by have := HB2.out.H.ok.ha.h1; have := HB2.out.H.ok.ha.h2; have := HB2.out.H.ok.ha.h3; have := HB2.out.H.ok.ha.h4; omega
  have ha12i : (a : Int) < 12 := by omega
  have hc12i : (c : Int) < 12 := by omega
  have HWO := Lib.hid (show woC O 4 xa xb a c = (0, O.setRt c 2) by unfold woC; rw [if_neg (by decide), if_neg (by decide), if_neg (by decide), if_neg (by decide), if_pos rfl])
  have HWD := Lib.hid (show wdC W 4 xa xb a c = (0, (W.do ⟨2, c, 0, 0, 0, 0⟩).2) by unfold wdC; rw [if_neg (by decide), if_neg (by decide), if_neg (by decide), if_neg (by decide), if_pos rfl])
  have hdo := fun w' (R : WorldAt w' h.b W) => WDoNil_c c 0 0 0 0 R
  obtain ⟨⟨dc, W'⟩, hD⟩ : ∃ t, W.do ⟨2, c, 0, 0, 0, 0⟩ = t := ⟨_, rfl⟩
  rw [hD] at HWD
  simp only [hD] at hdo
  have HDO := Lib.hid hdo
  clear hD hdo fc rc ra
  obtain ⟨_, _, ql', gl, gf, gc⟩ := HB2.out.rcells HRO.out hc12
  go_wp2_with fail
  refine wp_region_ro (.free 0 (.free 1 (.free 2 (.free 7 (.pure 3 (.free 4 (.free 5 (.pure 6 (.run 8 (.free 9 (.run 10 (.swi [] (.fin))))))))))))) [10] (fun w' => w'.cell? ⟨h.p, 0, none⟩ = some (.pointer (some ⟨h.a.p, 0, none⟩)) ∧ w'.cell? ⟨h.a.p, 3, none⟩ = some (.slice (some ⟨g, o, none⟩) 12 cap)) (by kernel_rfl) (by kernel_rfl) ⟨b0, q3⟩ ?_
  first | (refine wpRO_free rfl rfl _ (fun w' => by go_simp; exact Gives.mk _ _) (fun K hK => ?_); go_simp; refine hK _ ?_; clear hK K) | (refine wpRO_skipF rfl rfl (fun K hK => ?_); go_simp; refine hK _ ?_; clear hK K)
  first | (refine wpRO_free rfl rfl _ (fun w' => by go_simp; exact Gives.mk _ _) (fun K hK => ?_); go_simp; refine hK _ ?_; clear hK K) | (refine wpRO_skipF rfl rfl (fun K hK => ?_); go_simp; refine hK _ ?_; clear hK K)
  first | (refine wpRO_free rfl rfl _ (fun w' => by go_simp; exact Gives.mk _ _) (fun K hK => ?_); go_simp; refine hK _ ?_; clear hK K) | (refine wpRO_skipF rfl rfl (fun K hK => ?_); go_simp; refine hK _ ?_; clear hK K)
  first | (refine wpRO_free rfl rfl _ (fun w' => by go_simp; exact Gives.mk _ _) (fun K hK => ?_); go_simp; refine hK _ ?_; clear hK K) | (refine wpRO_skipF rfl rfl (fun K hK => ?_); go_simp; refine hK _ ?_; clear hK K)
  first | (refine wpRO_pure rfl rfl _ (fun w' hG => by obtain ⟨b0, q3⟩ := hG; exact gives_agg2 rfl (by decide +kernel) rfl (by assumption) (by assumption)) (fun K hK => ?_); go_simp; refine hK _ ?_; clear hK K) | (refine wpRO_pure rfl rfl _ (fun w' hG => by obtain ⟨b0, q3⟩ := hG; go_simp; exact Gives.mk _ _) (fun K hK => ?_); go_simp; refine hK _ ?_; clear hK K) | (refine wpRO_skip rfl rfl (fun K hK => ?_); go_simp; refine hK _ ?_; clear hK K)
  first | (refine wpRO_free rfl rfl _ (fun w' => by go_simp; exact Gives.mk _ _) (fun K hK => ?_); go_simp; refine hK _ ?_; clear hK K) | (refine wpRO_skipF rfl rfl (fun K hK => ?_); go_simp; refine hK _ ?_; clear hK K)
  first | (refine wpRO_free rfl rfl _ (fun w' => by go_simp; exact Gives.mk _ _) (fun K hK => ?_); go_simp; refine hK _ ?_; clear hK K) | (refine wpRO_skipF rfl rfl (fun K hK => ?_); go_simp; refine hK _ ?_; clear hK K)
  first | (refine wpRO_pure rfl rfl _ (fun w' hG => by obtain ⟨b0, q3⟩ := hG; exact gives_agg2 rfl (by decide +kernel) rfl (by assumption) (by assumption)) (fun K hK => ?_); go_simp; refine hK _ ?_; clear hK K) | (refine wpRO_pure rfl rfl _ (fun w' hG => by obtain ⟨b0, q3⟩ := hG; go_simp; exact Gives.mk _ _) (fun K hK => ?_); go_simp; refine hK _ ?_; clear hK K) | (refine wpRO_skip rfl rfl (fun K hK => ?_); go_simp; refine hK _ ?_; clear hK K)
  refine wpRO_run rfl rfl (fun K hK => ?_); unfold gRun; go_simp
  refine (Nil_c _).mono ?_
  rintro e w5 ⟨rfl, rfl⟩
  refine hK _ _ (fun hg => hg) ?_
  clear hK K
  first | (refine wpRO_free rfl rfl _ (fun w' => by go_simp; exact Gives.mk _ _) (fun K hK => ?_); go_simp; refine hK _ ?_; clear hK K) | (refine wpRO_skipF rfl rfl (fun K hK => ?_); go_simp; refine hK _ ?_; clear hK K)
  refine wpRO_chg rfl rfl rfl (fun K hK => ?_); unfold gRun; go_simp
  refine hK _ _ ?_
  clear hK K
  refine wpRO_swi (fun _ => True) trivial (wpRO_fin ?_)
  have hin := HB2.out.rootW (k := c) (x := 2) HRO.out hc12 (by unfold R64; decide)
  have HB4 := Lib.hid (hin.1.same ((Keeps.refl (fun _ => False) _).drew))
  have K4 := Lib.hid ((((K2.out.mono (fun _ _ h => h.elim)).trans hin.2).drew) : Keeps h.Own w _)
  clear HB2 K2 SB2 HRCS HFZ b0 b1 bl q0 q1 q2 q3 ql s0 s1 s2 s3 sl hgl hin gl gf gc ql'
  generalize (w2.setCell ⟨g, o + c, none⟩ (.int .i64 2)).drew = w4 at *
  obtain ⟨b0, b1, bl⟩ := HB4.out.pcells
  go_wp2_with fail
  refine (HDO.out _ HB4.out.R).mono ?_
  rintro e w5 ⟨rfl, ht⟩
  have TO := Lib.hid (BothTo.from_keep K4.out (BothTo.world HB4.out ht))
  clear ht b0 b1 bl
  go_wp2_with fail
  go_ret
  unfold BothDoRet
  rw [HWO.out, HWD.out]
  exact ⟨rfl, TO.out⟩
end

end Go.Proofs.Ytjifdalflepcoab

namespace Go.Proofs.Ytjifdalflepcoab
open Go.RowKit
set_option linter.unusedVariables false
set_option linter.unusedSimpArgs false

section
variable {w w' : World} {h : BH} {O O' : Wo} {W W' : Wd}

theorem reg_no {O : Wo} {a c : Nat} (hn : ¬ ((O.ar.thingAt (O.rtA c)).2.2.2 = 0 ∧ (O.ar.thingAt (O.rtA a)).2.2.2 = 0 ∧ (O.ar.thingAt (O.rtA c)).2.1 = 5)) : (O.reg a c).1 ≠ 0 ∧ (O.reg a c).2 = O := by
  unfold Wo.reg
  split
  · rename_i h1; exact ⟨h1, rfl⟩
  · rename_i h1
    split
    · exact ⟨by show (2 : Int) ≠ 0; decide, rfl⟩
    · rename_i h2
      exfalso
      apply hn
      unfold Wo.isG at h2
      simp at h2
      exact ⟨h2.1, by simpa using h1, h2.2⟩

theorem reg_yes {O : Wo} {a c : Nat} (hn : (O.ar.thingAt (O.rtA c)).2.2.2 = 0 ∧ (O.ar.thingAt (O.rtA a)).2.2.2 = 0 ∧ (O.ar.thingAt (O.rtA c)).2.1 = 5) : O.reg a c = if 24 ≤ O.rg.length + O.wt.length then (3, O) else (0, { O with rg := O.rg ++ [(O.rtA c, O.rtA a)] }) := by
  unfold Wo.reg
  rw [if_neg (by rw [hn.2.1]; decide), if_neg (by unfold Wo.isG; simp [hn.1, hn.2.2])]

theorem Wo.ok.regs {O : Wo} (h : O.ok) {x y : Int} (hx : R64 x) (hy : R64 y) (hq : ¬ 24 ≤ O.rg.length + O.wt.length) : Wo.ok { O with rg := O.rg ++ [(x, y)], wt := O.wt } := by
  refine ⟨h.ha, h.h12, h.hR, fun e he => ?_, h.hw, by simp; omega, h.hc⟩
  rcases List.mem_append.1 he with h1 | h1
  · exact h.hg e h1
  · simp at h1; subst h1; exact ⟨hx, hy⟩

set_option maxHeartbeats 16000000 in
set_option maxRecDepth 100000 in
theorem bothDo5_c (xa xb xc : Int) (B : BothAt w h O W) (hb : R64 xa) :
    Calls Try.prog 74 #[.pointer (some ⟨h.p, 0, none⟩), .agg #[.int .i64 5, .int .i64 xa, .int .i64 xb, .int .i64 xc]] w (BothDoRet w h O W 5 xa xb (rootN xa) (rootN xc)) := by
  have ka := (Keeps.refl (fun _ => False) w).alloc (.cells #[.int .i64 5, .int .i64 xa, .int .i64 xb, .int .i64 xc] 112)
  have hs : Blk (w.alloc (.cells #[.int .i64 5, .int .i64 xa, .int .i64 xb, .int .i64 xc] 112)) w.heap.size [.int .i64 5, .int .i64 xa, .int .i64 xb, .int .i64 xc] 112 := Blk.newAt _ rfl rfl
  have HB1 := Lib.hid (B.same ka); have SB := Lib.hid hs; have K1 := Lib.hid ka; have HBB := Lib.hid hb
  clear ka hs B hb
  go_enter Try.func74, Try.ntmps74
  go_wp2_with fail
  generalize w.alloc (.cells #[.int .i64 5, .int .i64 xa, .int .i64 xb, .int .i64 xc] 112) = w1 at *
  generalize w.heap.size = sb at *
  have s0 := SB.out.cell 0; have s1 := SB.out.cell 1; have s2 := SB.out.cell 2; have s3 := SB.out.cell 3; have sl := SB.out.lt
  simp only [List.getElem?_cons_zero, List.getElem?_cons_succ] at s0 s1 s2 s3
  refine wp_region_ro (.free 0 (.free 3 (.pure 1 (.pure 4 (.run 2 (.run 5 (.swi [] (.free 6 (.free 7 (.fin)))))))))) [5, 6, 7] (fun w' => w'.cell? ⟨sb, 1, none⟩ = some (.int .i64 xa) ∧ w'.cell? ⟨sb, 3, none⟩ = some (.int .i64 xc)) (by kernel_rfl) (by kernel_rfl) ⟨s1, s3⟩ ?_
  first | (refine wpRO_free rfl rfl _ (fun w' => by go_simp; exact Gives.mk _ _) (fun K hK => ?_); go_simp; refine hK _ ?_; clear hK K) | (refine wpRO_skipF rfl rfl (fun K hK => ?_); go_simp; refine hK _ ?_; clear hK K)
  first | (refine wpRO_free rfl rfl _ (fun w' => by go_simp; exact Gives.mk _ _) (fun K hK => ?_); go_simp; refine hK _ ?_; clear hK K) | (refine wpRO_skipF rfl rfl (fun K hK => ?_); go_simp; refine hK _ ?_; clear hK K)
  first | (refine wpRO_pure rfl rfl _ (fun w' hG => by obtain ⟨s1, s3⟩ := hG; exact gives_agg2 rfl (by decide +kernel) rfl (by assumption) (by assumption)) (fun K hK => ?_); go_simp; refine hK _ ?_; clear hK K) | (refine wpRO_pure rfl rfl _ (fun w' hG => by obtain ⟨s1, s3⟩ := hG; go_simp; exact Gives.mk _ _) (fun K hK => ?_); go_simp; refine hK _ ?_; clear hK K) | (refine wpRO_skip rfl rfl (fun K hK => ?_); go_simp; refine hK _ ?_; clear hK K)
  first | (refine wpRO_pure rfl rfl _ (fun w' hG => by obtain ⟨s1, s3⟩ := hG; exact gives_agg2 rfl (by decide +kernel) rfl (by assumption) (by assumption)) (fun K hK => ?_); go_simp; refine hK _ ?_; clear hK K) | (refine wpRO_pure rfl rfl _ (fun w' hG => by obtain ⟨s1, s3⟩ := hG; go_simp; exact Gives.mk _ _) (fun K hK => ?_); go_simp; refine hK _ ?_; clear hK K) | (refine wpRO_skip rfl rfl (fun K hK => ?_); go_simp; refine hK _ ?_; clear hK K)
  refine wpRO_run rfl rfl (fun K hK => ?_); unfold gRun; go_simp
  refine (Root_c xa _).mono ?_
  rintro e w2 ⟨rfl, rfl⟩
  refine hK _ _ (fun hg => hg) ?_
  clear hK K
  refine wpRO_chg rfl rfl rfl (fun K hK => ?_); unfold gRun; go_simp
  refine (Root_c xc _).mono ?_
  rintro e w2 ⟨rfl, rfl⟩
  refine hK _ _ ?_
  clear hK K
  refine wpRO_swi (fun _ => True) trivial ?_
  first | (refine wpRO_free rfl rfl _ (fun w' => by go_simp; exact Gives.mk _ _) (fun K hK => ?_); go_simp; refine hK _ ?_; clear hK K) | (refine wpRO_skipF rfl rfl (fun K hK => ?_); go_simp; refine hK _ ?_; clear hK K)
  first | (refine wpRO_free rfl rfl _ (fun w' => by go_simp; exact Gives.mk _ _) (fun K hK => ?_); go_simp; refine hK _ ?_; clear hK K) | (refine wpRO_skipF rfl rfl (fun K hK => ?_); go_simp; refine hK _ ?_; clear hK K)
  refine wpRO_fin ?_
  have ha12 := rootN_lt xa; have hc12 := rootN_lt xc
  generalize rootN xa = a at *
  generalize rootN xc = c at *
  have HB2 := Lib.hid (HB1.out.same ((Keeps.refl (fun _ => False) w1).drew)); have K2 := Lib.hid (K1.out.drew); have SB2 := Lib.hid (show Blk w1.drew sb _ _ from SB.out.drew)
  clear s0 s1 s2 s3 sl HB1 K1 SB
  generalize w1.drew = w2 at *
  have s0 := SB2.out.cell 0; have s1 := SB2.out.cell 1; have s2 := SB2.out.cell 2; have s3 := SB2.out.cell 3; have sl := SB2.out.lt
  simp only [List.getElem?_cons_zero, List.getElem?_cons_succ] at s0 s1 s2 s3
  have b0 := HB2.out.hp.cell 0; have b1 := HB2.out.hp.cell 1; have bl := HB2.out.hp.lt
  simp only [List.getElem?_cons_zero, List.getElem?_cons_succ] at b0 b1
  have hor12 := HB2.out.H.ok.h12
  obtain ⟨g, o, cap, hro, hown, hgl, q3, fz, rcs⟩ := HB2.out.H.roots
  obtain ⟨q0, q1, q2, -⟩ := HB2.out.H.ptrs
  have ra := rcs a (by omega); have rc := rcs c (by omega)
  have fc := fz (o + c)
  rw [hor12] at q3 hro
  have HRO := Lib.hid hro; have HOWN := Lib.hid hown; have HO12 := Lib.hid hor12; have HFZ := Lib.hid fz; have HRCS := Lib.hid rcs
  have ql := HB2.out.H.hp.lt
  clear hro hown hor12 fz rcs
  have yl : (O.ar.yng : Int) ≤ 1280 := by have := HB2.out.H.ok.ha.h1; have := HB2.out.H.ok.ha.h2; have := HB2.out.H.ok.ha.h3; have := HB2.out.H.ok.ha.h4; omega
  have ha12i : (a : Int) < 12 := by omega
  have hc12i : (c : Int) < 12 := by omega
  have HRc := Lib.hid (show R64 (O.rtA c) from HB2.out.H.ok.hR _ (by unfold Wo.rtA; rw [Int.toNat_natCast, List.getD_eq_getElem?_getD, List.getElem?_eq_getElem (by rw [HO12.out]; exact hc12)]; exact List.getElem_mem _))
  have HRa := Lib.hid (show R64 (O.rtA a) from HB2.out.H.ok.hR _ (by unfold Wo.rtA; rw [Int.toNat_natCast, List.getD_eq_getElem?_getD, List.getElem?_eq_getElem (by rw [HO12.out]; exact ha12)]; exact List.getElem_mem _))
  have ra : w2.cell? ⟨g, o + a, none⟩ = some (.int .i64 (O.rtA a)) := by unfold Wo.rtA; rw [Int.toNat_natCast]; exact ra
  have rc : w2.cell? ⟨g, o + c, none⟩ = some (.int .i64 (O.rtA c)) := by unfold Wo.rtA; rw [Int.toNat_natCast]; exact rc
  have HWO := Lib.hid (show woC O 5 xa xb a c = (if (O.reg a c).1 = 0 then 0 else 1, (O.reg a c).2) by unfold woC; rw [if_neg (by decide), if_neg (by decide), if_neg (by decide), if_neg (by decide), if_neg (by decide), if_pos rfl])
  have HWD := Lib.hid (show wdC W 5 xa xb a c = (if (W.do ⟨9, 0, a, c, 0, 0⟩).1 = 0 then 0 else 1, (W.do ⟨9, 0, a, c, 0, 0⟩).2) by unfold wdC; rw [if_neg (by decide), if_neg (by decide), if_neg (by decide), if_neg (by decide), if_neg (by decide), if_pos rfl])
  have hdo := fun w' (R : WorldAt w' h.b W) => WDoReg_c 0 a c 0 0 R
  have hdo2 := fun w' rh (R : WorldAt w' rh W) => WDoReg_c 0 a c 0 0 R
  have HRN := Lib.hid (fun h => reg_no (O := O) (a := a) (c := c) h); have HRY := Lib.hid (fun h => reg_yes (O := O) (a := a) (c := c) h)
  obtain ⟨⟨dc, W'⟩, hD⟩ : ∃ t, W.do ⟨9, 0, a, c, 0, 0⟩ = t := ⟨_, rfl⟩
  rw [hD] at HWD
  simp only [hD] at hdo hdo2
  have HDO2 := Lib.hid hdo2
  clear hdo2
  have hk1 := fun w' (R : WoodAt w' h.a O) => Kind_c (O.rtA c) R
  have hk2 := fun w' (R : WoodAt w' h.a O) => Kind_c (O.rtA a) R
  generalize hva : O.rtA a = va at *
  generalize hvc : O.rtA c = vc at *
  have HVA := Lib.hid hva; have HVC := Lib.hid hvc
  clear hva hvc
  obtain ⟨⟨p1, kd, n1, e1⟩, hT1⟩ : ∃ t, O.ar.thingAt vc = t := ⟨_, rfl⟩
  obtain ⟨⟨p2, kd2, n2, e2⟩, hT2⟩ : ∃ t, O.ar.thingAt va = t := ⟨_, rfl⟩
  rw [hT1, hT2] at HRN HRY
  simp only [hT1] at hk1
  simp only [hT2] at hk2
  have HK1 := Lib.hid hk1; have HK2 := Lib.hid hk2
  have HDO := Lib.hid hdo
  clear hD hdo fc hT1 hT2 hk1 hk2
  go_wp2_with fail
  refine wp_region_ro (.free 0 (.free 1 (.free 2 (.free 4 (.free 5 (.free 6 (.free 11 (.pure 3 (.pure 7 (.free 8 (.free 9 (.pure 10 (.free 12 (.pure 13 (.run 14 (.swi [] (.free 15 (.free 16 (.free 17 (.free 18 (.free 19 (.free 20 (.free 21 (.fin)))))))))))))))))))))))) [14, 15, 16, 17, 18, 19, 20, 21] (fun w' => w'.cell? ⟨h.p, 0, none⟩ = some (.pointer (some ⟨h.a.p, 0, none⟩)) ∧ w'.cell? ⟨h.a.p, 3, none⟩ = some (.slice (some ⟨g, o, none⟩) 12 cap) ∧ w'.cell? ⟨g, o + c, none⟩ = some (.int .i64 vc)) (by kernel_rfl) (by kernel_rfl) ⟨b0, q3, rc⟩ ?_
  first | (refine wpRO_free rfl rfl _ (fun w' => by go_simp; exact Gives.mk _ _) (fun K hK => ?_); go_simp; refine hK _ ?_; clear hK K) | (refine wpRO_skipF rfl rfl (fun K hK => ?_); go_simp; refine hK _ ?_; clear hK K)
  first | (refine wpRO_free rfl rfl _ (fun w' => by go_simp; exact Gives.mk _ _) (fun K hK => ?_); go_simp; refine hK _ ?_; clear hK K) | (refine wpRO_skipF rfl rfl (fun K hK => ?_); go_simp; refine hK _ ?_; clear hK K)
  first | (refine wpRO_free rfl rfl _ (fun w' => by go_simp; exact Gives.mk _ _) (fun K hK => ?_); go_simp; refine hK _ ?_; clear hK K) | (refine wpRO_skipF rfl rfl (fun K hK => ?_); go_simp; refine hK _ ?_; clear hK K)
  first | (refine wpRO_free rfl rfl _ (fun w' => by go_simp; exact Gives.mk _ _) (fun K hK => ?_); go_simp; refine hK _ ?_; clear hK K) | (refine wpRO_skipF rfl rfl (fun K hK => ?_); go_simp; refine hK _ ?_; clear hK K)
  first | (refine wpRO_free rfl rfl _ (fun w' => by go_simp; exact Gives.mk _ _) (fun K hK => ?_); go_simp; refine hK _ ?_; clear hK K) | (refine wpRO_skipF rfl rfl (fun K hK => ?_); go_simp; refine hK _ ?_; clear hK K)
  first | (refine wpRO_free rfl rfl _ (fun w' => by go_simp; exact Gives.mk _ _) (fun K hK => ?_); go_simp; refine hK _ ?_; clear hK K) | (refine wpRO_skipF rfl rfl (fun K hK => ?_); go_simp; refine hK _ ?_; clear hK K)
  first | (refine wpRO_free rfl rfl _ (fun w' => by go_simp; exact Gives.mk _ _) (fun K hK => ?_); go_simp; refine hK _ ?_; clear hK K) | (refine wpRO_skipF rfl rfl (fun K hK => ?_); go_simp; refine hK _ ?_; clear hK K)
  first | (refine wpRO_pure rfl rfl _ (fun w' hG => by obtain ⟨b0, q3, rc⟩ := hG; exact gives_agg2 rfl (by decide +kernel) rfl (by assumption) (by assumption)) (fun K hK => ?_); go_simp; refine hK _ ?_; clear hK K) | (refine wpRO_pure rfl rfl _ (fun w' hG => by obtain ⟨b0, q3, rc⟩ := hG; go_simp; exact Gives.mk _ _) (fun K hK => ?_); go_simp; refine hK _ ?_; clear hK K) | (refine wpRO_skip rfl rfl (fun K hK => ?_); go_simp; refine hK _ ?_; clear hK K)
  first | (refine wpRO_pure rfl rfl _ (fun w' hG => by obtain ⟨b0, q3, rc⟩ := hG; exact gives_agg2 rfl (by decide +kernel) rfl (by assumption) (by assumption)) (fun K hK => ?_); go_simp; refine hK _ ?_; clear hK K) | (refine wpRO_pure rfl rfl _ (fun w' hG => by obtain ⟨b0, q3, rc⟩ := hG; go_simp; exact Gives.mk _ _) (fun K hK => ?_); go_simp; refine hK _ ?_; clear hK K) | (refine wpRO_skip rfl rfl (fun K hK => ?_); go_simp; refine hK _ ?_; clear hK K)
  first | (refine wpRO_free rfl rfl _ (fun w' => by go_simp; exact Gives.mk _ _) (fun K hK => ?_); go_simp; refine hK _ ?_; clear hK K) | (refine wpRO_skipF rfl rfl (fun K hK => ?_); go_simp; refine hK _ ?_; clear hK K)
  first | (refine wpRO_free rfl rfl _ (fun w' => by go_simp; exact Gives.mk _ _) (fun K hK => ?_); go_simp; refine hK _ ?_; clear hK K) | (refine wpRO_skipF rfl rfl (fun K hK => ?_); go_simp; refine hK _ ?_; clear hK K)
  first | (refine wpRO_pure rfl rfl _ (fun w' hG => by obtain ⟨b0, q3, rc⟩ := hG; exact gives_agg2 rfl (by decide +kernel) rfl (by assumption) (by assumption)) (fun K hK => ?_); go_simp; refine hK _ ?_; clear hK K) | (refine wpRO_pure rfl rfl _ (fun w' hG => by obtain ⟨b0, q3, rc⟩ := hG; go_simp; exact Gives.mk _ _) (fun K hK => ?_); go_simp; refine hK _ ?_; clear hK K) | (refine wpRO_skip rfl rfl (fun K hK => ?_); go_simp; refine hK _ ?_; clear hK K)
  first | (refine wpRO_free rfl rfl _ (fun w' => by go_simp; exact Gives.mk _ _) (fun K hK => ?_); go_simp; refine hK _ ?_; clear hK K) | (refine wpRO_skipF rfl rfl (fun K hK => ?_); go_simp; refine hK _ ?_; clear hK K)
  first | (refine wpRO_pure rfl rfl _ (fun w' hG => by obtain ⟨b0, q3, rc⟩ := hG; exact gives_agg2 rfl (by decide +kernel) rfl (by assumption) (by assumption)) (fun K hK => ?_); go_simp; refine hK _ ?_; clear hK K) | (refine wpRO_pure rfl rfl _ (fun w' hG => by obtain ⟨b0, q3, rc⟩ := hG; go_simp; exact Gives.mk _ _) (fun K hK => ?_); go_simp; refine hK _ ?_; clear hK K) | (refine wpRO_skip rfl rfl (fun K hK => ?_); go_simp; refine hK _ ?_; clear hK K)
  refine wpRO_chg rfl rfl rfl (fun K hK => ?_); unfold gRun; go_simp
  refine (HK1.out _ (HB2.out.same ((Keeps.refl (fun _ => False) w2).drew)).H).mono ?_
  rintro e3 w3 ⟨rfl, rfl⟩
  refine hK _ _ ?_
  clear hK K
  refine wpRO_swi (fun _ => True) trivial ?_
  first | (refine wpRO_free rfl rfl _ (fun w' => by go_simp; exact Gives.mk _ _) (fun K hK => ?_); go_simp; refine hK _ ?_; clear hK K) | (refine wpRO_skipF rfl rfl (fun K hK => ?_); go_simp; refine hK _ ?_; clear hK K)
  first | (refine wpRO_free rfl rfl _ (fun w' => by go_simp; exact Gives.mk _ _) (fun K hK => ?_); go_simp; refine hK _ ?_; clear hK K) | (refine wpRO_skipF rfl rfl (fun K hK => ?_); go_simp; refine hK _ ?_; clear hK K)
  first | (refine wpRO_free rfl rfl _ (fun w' => by go_simp; exact Gives.mk _ _) (fun K hK => ?_); go_simp; refine hK _ ?_; clear hK K) | (refine wpRO_skipF rfl rfl (fun K hK => ?_); go_simp; refine hK _ ?_; clear hK K)
  first | (refine wpRO_free rfl rfl _ (fun w' => by go_simp; exact Gives.mk _ _) (fun K hK => ?_); go_simp; refine hK _ ?_; clear hK K) | (refine wpRO_skipF rfl rfl (fun K hK => ?_); go_simp; refine hK _ ?_; clear hK K)
  first | (refine wpRO_free rfl rfl _ (fun w' => by go_simp; exact Gives.mk _ _) (fun K hK => ?_); go_simp; refine hK _ ?_; clear hK K) | (refine wpRO_skipF rfl rfl (fun K hK => ?_); go_simp; refine hK _ ?_; clear hK K)
  first | (refine wpRO_free rfl rfl _ (fun w' => by go_simp; exact Gives.mk _ _) (fun K hK => ?_); go_simp; refine hK _ ?_; clear hK K) | (refine wpRO_skipF rfl rfl (fun K hK => ?_); go_simp; refine hK _ ?_; clear hK K)
  first | (refine wpRO_free rfl rfl _ (fun w' => by go_simp; exact Gives.mk _ _) (fun K hK => ?_); go_simp; refine hK _ ?_; clear hK K) | (refine wpRO_skipF rfl rfl (fun K hK => ?_); go_simp; refine hK _ ?_; clear hK K)
  refine wpRO_fin ?_
  go_wp2_with fail
  refine wp_region_ro (.free 0 (.free 1 (.free 2 (.free 4 (.free 5 (.free 6 (.free 11 (.pure 3 (.pure 7 (.free 8 (.free 9 (.pure 10 (.free 12 (.pure 13 (.run 14 (.swi [] (.free 15 (.free 16 (.free 17 (.free 18 (.free 19 (.free 20 (.free 21 (.fin)))))))))))))))))))))))) [14, 15, 16, 17, 18, 19, 20, 21] (fun w' => w'.cell? ⟨h.p, 0, none⟩ = some (.pointer (some ⟨h.a.p, 0, none⟩)) ∧ w'.cell? ⟨h.a.p, 3, none⟩ = some (.slice (some ⟨g, o, none⟩) 12 cap) ∧ w'.cell? ⟨g, o + a, none⟩ = some (.int .i64 va)) (by kernel_rfl) (by kernel_rfl) ⟨b0, q3, ra⟩ ?_
  first | (refine wpRO_free rfl rfl _ (fun w' => by go_simp; exact Gives.mk _ _) (fun K hK => ?_); go_simp; refine hK _ ?_; clear hK K) | (refine wpRO_skipF rfl rfl (fun K hK => ?_); go_simp; refine hK _ ?_; clear hK K)
  first | (refine wpRO_free rfl rfl _ (fun w' => by go_simp; exact Gives.mk _ _) (fun K hK => ?_); go_simp; refine hK _ ?_; clear hK K) | (refine wpRO_skipF rfl rfl (fun K hK => ?_); go_simp; refine hK _ ?_; clear hK K)
  first | (refine wpRO_free rfl rfl _ (fun w' => by go_simp; exact Gives.mk _ _) (fun K hK => ?_); go_simp; refine hK _ ?_; clear hK K) | (refine wpRO_skipF rfl rfl (fun K hK => ?_); go_simp; refine hK _ ?_; clear hK K)
  first | (refine wpRO_free rfl rfl _ (fun w' => by go_simp; exact Gives.mk _ _) (fun K hK => ?_); go_simp; refine hK _ ?_; clear hK K) | (refine wpRO_skipF rfl rfl (fun K hK => ?_); go_simp; refine hK _ ?_; clear hK K)
  first | (refine wpRO_free rfl rfl _ (fun w' => by go_simp; exact Gives.mk _ _) (fun K hK => ?_); go_simp; refine hK _ ?_; clear hK K) | (refine wpRO_skipF rfl rfl (fun K hK => ?_); go_simp; refine hK _ ?_; clear hK K)
  first | (refine wpRO_free rfl rfl _ (fun w' => by go_simp; exact Gives.mk _ _) (fun K hK => ?_); go_simp; refine hK _ ?_; clear hK K) | (refine wpRO_skipF rfl rfl (fun K hK => ?_); go_simp; refine hK _ ?_; clear hK K)
  first | (refine wpRO_free rfl rfl _ (fun w' => by go_simp; exact Gives.mk _ _) (fun K hK => ?_); go_simp; refine hK _ ?_; clear hK K) | (refine wpRO_skipF rfl rfl (fun K hK => ?_); go_simp; refine hK _ ?_; clear hK K)
  first | (refine wpRO_pure rfl rfl _ (fun w' hG => by obtain ⟨b0, q3, ra⟩ := hG; exact gives_agg2 rfl (by decide +kernel) rfl (by assumption) (by assumption)) (fun K hK => ?_); go_simp; refine hK _ ?_; clear hK K) | (refine wpRO_pure rfl rfl _ (fun w' hG => by obtain ⟨b0, q3, ra⟩ := hG; go_simp; exact Gives.mk _ _) (fun K hK => ?_); go_simp; refine hK _ ?_; clear hK K) | (refine wpRO_skip rfl rfl (fun K hK => ?_); go_simp; refine hK _ ?_; clear hK K)
  first | (refine wpRO_pure rfl rfl _ (fun w' hG => by obtain ⟨b0, q3, ra⟩ := hG; exact gives_agg2 rfl (by decide +kernel) rfl (by assumption) (by assumption)) (fun K hK => ?_); go_simp; refine hK _ ?_; clear hK K) | (refine wpRO_pure rfl rfl _ (fun w' hG => by obtain ⟨b0, q3, ra⟩ := hG; go_simp; exact Gives.mk _ _) (fun K hK => ?_); go_simp; refine hK _ ?_; clear hK K) | (refine wpRO_skip rfl rfl (fun K hK => ?_); go_simp; refine hK _ ?_; clear hK K)
  first | (refine wpRO_free rfl rfl _ (fun w' => by go_simp; exact Gives.mk _ _) (fun K hK => ?_); go_simp; refine hK _ ?_; clear hK K) | (refine wpRO_skipF rfl rfl (fun K hK => ?_); go_simp; refine hK _ ?_; clear hK K)
  first | (refine wpRO_free rfl rfl _ (fun w' => by go_simp; exact Gives.mk _ _) (fun K hK => ?_); go_simp; refine hK _ ?_; clear hK K) | (refine wpRO_skipF rfl rfl (fun K hK => ?_); go_simp; refine hK _ ?_; clear hK K)
  first | (refine wpRO_pure rfl rfl _ (fun w' hG => by obtain ⟨b0, q3, ra⟩ := hG; exact gives_agg2 rfl (by decide +kernel) rfl (by assumption) (by assumption)) (fun K hK => ?_); go_simp; refine hK _ ?_; clear hK K) | (refine wpRO_pure rfl rfl _ (fun w' hG => by obtain ⟨b0, q3, ra⟩ := hG; go_simp; exact Gives.mk _ _) (fun K hK => ?_); go_simp; refine hK _ ?_; clear hK K) | (refine wpRO_skip rfl rfl (fun K hK => ?_); go_simp; refine hK _ ?_; clear hK K)
  first | (refine wpRO_free rfl rfl _ (fun w' => by go_simp; exact Gives.mk _ _) (fun K hK => ?_); go_simp; refine hK _ ?_; clear hK K) | (refine wpRO_skipF rfl rfl (fun K hK => ?_); go_simp; refine hK _ ?_; clear hK K)
  first | (refine wpRO_pure rfl rfl _ (fun w' hG => by obtain ⟨b0, q3, ra⟩ := hG; exact gives_agg2 rfl (by decide +kernel) rfl (by assumption) (by assumption)) (fun K hK => ?_); go_simp; refine hK _ ?_; clear hK K) | (refine wpRO_pure rfl rfl _ (fun w' hG => by obtain ⟨b0, q3, ra⟩ := hG; go_simp; exact Gives.mk _ _) (fun K hK => ?_); go_simp; refine hK _ ?_; clear hK K) | (refine wpRO_skip rfl rfl (fun K hK => ?_); go_simp; refine hK _ ?_; clear hK K)
  refine wpRO_chg rfl rfl rfl (fun K hK => ?_); unfold gRun; go_simp
  refine (HK2.out _ (HB2.out.same ((Keeps.refl (fun _ => False) w2).drew.drew)).H).mono ?_
  rintro e3 w3 ⟨rfl, rfl⟩
  refine hK _ _ ?_
  clear hK K
  refine wpRO_swi (fun _ => True) trivial ?_
  first | (refine wpRO_free rfl rfl _ (fun w' => by go_simp; exact Gives.mk _ _) (fun K hK => ?_); go_simp; refine hK _ ?_; clear hK K) | (refine wpRO_skipF rfl rfl (fun K hK => ?_); go_simp; refine hK _ ?_; clear hK K)
  first | (refine wpRO_free rfl rfl _ (fun w' => by go_simp; exact Gives.mk _ _) (fun K hK => ?_); go_simp; refine hK _ ?_; clear hK K) | (refine wpRO_skipF rfl rfl (fun K hK => ?_); go_simp; refine hK _ ?_; clear hK K)
  first | (refine wpRO_free rfl rfl _ (fun w' => by go_simp; exact Gives.mk _ _) (fun K hK => ?_); go_simp; refine hK _ ?_; clear hK K) | (refine wpRO_skipF rfl rfl (fun K hK => ?_); go_simp; refine hK _ ?_; clear hK K)
  first | (refine wpRO_free rfl rfl _ (fun w' => by go_simp; exact Gives.mk _ _) (fun K hK => ?_); go_simp; refine hK _ ?_; clear hK K) | (refine wpRO_skipF rfl rfl (fun K hK => ?_); go_simp; refine hK _ ?_; clear hK K)
  first | (refine wpRO_free rfl rfl _ (fun w' => by go_simp; exact Gives.mk _ _) (fun K hK => ?_); go_simp; refine hK _ ?_; clear hK K) | (refine wpRO_skipF rfl rfl (fun K hK => ?_); go_simp; refine hK _ ?_; clear hK K)
  first | (refine wpRO_free rfl rfl _ (fun w' => by go_simp; exact Gives.mk _ _) (fun K hK => ?_); go_simp; refine hK _ ?_; clear hK K) | (refine wpRO_skipF rfl rfl (fun K hK => ?_); go_simp; refine hK _ ?_; clear hK K)
  first | (refine wpRO_free rfl rfl _ (fun w' => by go_simp; exact Gives.mk _ _) (fun K hK => ?_); go_simp; refine hK _ ?_; clear hK K) | (refine wpRO_skipF rfl rfl (fun K hK => ?_); go_simp; refine hK _ ?_; clear hK K)
  refine wpRO_fin ?_
  have HB3 := Lib.hid (HB2.out.same ((Keeps.refl (fun _ => False) w2).drew.drew))
  have K3 := Lib.hid (K2.out.drew.drew.mono (fun _ _ h => h.elim) : Keeps h.Own w w2.drew.drew)
  have SB3 := Lib.hid (show Blk w2.drew.drew sb _ _ from SB2.out.drew.drew)
  have HHR := Lib.hid (HB2.out.H.hr.own (k := g) HOWN.out)
  clear HB2 K2 SB2 b0 b1 bl q0 q1 q2 q3 ql s0 s1 s2 s3 sl hgl ra rc HK1 HK2 HRCS HFZ
  generalize w2.drew.drew = w3 at *
  by_cases he1 : e1 = 0
  case neg =>
    have hd1 : (e1 == 0) = false := by simpa using he1
    have hno := HRN.out (fun e => he1 e.1)
    have HWO2 := Lib.hid (show woC O 5 xa xb a c = (1, O) by rw [HWO.out, if_neg hno.1, hno.2])
    clear he1 hno
    --<n1
    go_wp2_with fail
    refine wp_region_ro (.free 0 (.free 1 (.free 2 (.free 3 (.free 4 (.free 5 (.free 6 (.free 7 (.free 8 (.free 9 (.free 10 (.free 11 (.free 12 (.free 13 (.free 18 (.free 19 (.free 20 (.free 25 (.free 28 (.free 29 (.free 30 (.free 35 (.pure 14 (.free 15 (.free 16 (.pure 17 (.pure 21 (.free 22 (.free 23 (.pure 24 (.free 26 (.pure 27 (.pure 31 (.free 32 (.free 33 (.pure 34 (.free 36 (.pure 37 (.free 38 (.run 39 (.swi [] (.free 40 (.free 41 (.fin)))))))))))))))))))))))))))))))))))))))))))) [39, 40, 41] (fun w' => True) (by kernel_rfl) (by kernel_rfl) trivial ?_
    first | (refine wpRO_free rfl rfl _ (fun w' => by go_simp; exact Gives.mk _ _) (fun K hK => ?_); go_simp; refine hK _ ?_; clear hK K) | (refine wpRO_skipF rfl rfl (fun K hK => ?_); go_simp; refine hK _ ?_; clear hK K)
    first | (refine wpRO_free rfl rfl _ (fun w' => by go_simp; exact Gives.mk _ _) (fun K hK => ?_); go_simp; refine hK _ ?_; clear hK K) | (refine wpRO_skipF rfl rfl (fun K hK => ?_); go_simp; refine hK _ ?_; clear hK K)
    first | (refine wpRO_free rfl rfl _ (fun w' => by go_simp; exact Gives.mk _ _) (fun K hK => ?_); go_simp; refine hK _ ?_; clear hK K) | (refine wpRO_skipF rfl rfl (fun K hK => ?_); go_simp; refine hK _ ?_; clear hK K)
    first | (refine wpRO_free rfl rfl _ (fun w' => by go_simp; exact Gives.mk _ _) (fun K hK => ?_); go_simp; refine hK _ ?_; clear hK K) | (refine wpRO_skipF rfl rfl (fun K hK => ?_); go_simp; refine hK _ ?_; clear hK K)
    first | (refine wpRO_free rfl rfl _ (fun w' => by go_simp; exact Gives.mk _ _) (fun K hK => ?_); go_simp; refine hK _ ?_; clear hK K) | (refine wpRO_skipF rfl rfl (fun K hK => ?_); go_simp; refine hK _ ?_; clear hK K)
    first | (refine wpRO_free rfl rfl _ (fun w' => by go_simp; exact Gives.mk _ _) (fun K hK => ?_); go_simp; refine hK _ ?_; clear hK K) | (refine wpRO_skipF rfl rfl (fun K hK => ?_); go_simp; refine hK _ ?_; clear hK K)
    first | (refine wpRO_free rfl rfl _ (fun w' => by go_simp; exact Gives.mk _ _) (fun K hK => ?_); go_simp; refine hK _ ?_; clear hK K) | (refine wpRO_skipF rfl rfl (fun K hK => ?_); go_simp; refine hK _ ?_; clear hK K)
    first | (refine wpRO_free rfl rfl _ (fun w' => by go_simp; exact Gives.mk _ _) (fun K hK => ?_); go_simp; refine hK _ ?_; clear hK K) | (refine wpRO_skipF rfl rfl (fun K hK => ?_); go_simp; refine hK _ ?_; clear hK K)
    first | (refine wpRO_free rfl rfl _ (fun w' => by go_simp; exact Gives.mk _ _) (fun K hK => ?_); go_simp; refine hK _ ?_; clear hK K) | (refine wpRO_skipF rfl rfl (fun K hK => ?_); go_simp; refine hK _ ?_; clear hK K)
    first | (refine wpRO_free rfl rfl _ (fun w' => by go_simp; exact Gives.mk _ _) (fun K hK => ?_); go_simp; refine hK _ ?_; clear hK K) | (refine wpRO_skipF rfl rfl (fun K hK => ?_); go_simp; refine hK _ ?_; clear hK K)
    first | (refine wpRO_free rfl rfl _ (fun w' => by go_simp; exact Gives.mk _ _) (fun K hK => ?_); go_simp; refine hK _ ?_; clear hK K) | (refine wpRO_skipF rfl rfl (fun K hK => ?_); go_simp; refine hK _ ?_; clear hK K)
    first | (refine wpRO_free rfl rfl _ (fun w' => by go_simp; exact Gives.mk _ _) (fun K hK => ?_); go_simp; refine hK _ ?_; clear hK K) | (refine wpRO_skipF rfl rfl (fun K hK => ?_); go_simp; refine hK _ ?_; clear hK K)
    first | (refine wpRO_free rfl rfl _ (fun w' => by go_simp; exact Gives.mk _ _) (fun K hK => ?_); go_simp; refine hK _ ?_; clear hK K) | (refine wpRO_skipF rfl rfl (fun K hK => ?_); go_simp; refine hK _ ?_; clear hK K)
    first | (refine wpRO_free rfl rfl _ (fun w' => by go_simp; exact Gives.mk _ _) (fun K hK => ?_); go_simp; refine hK _ ?_; clear hK K) | (refine wpRO_skipF rfl rfl (fun K hK => ?_); go_simp; refine hK _ ?_; clear hK K)
    first | (refine wpRO_free rfl rfl _ (fun w' => by go_simp; exact Gives.mk _ _) (fun K hK => ?_); go_simp; refine hK _ ?_; clear hK K) | (refine wpRO_skipF rfl rfl (fun K hK => ?_); go_simp; refine hK _ ?_; clear hK K)
    first | (refine wpRO_free rfl rfl _ (fun w' => by go_simp; exact Gives.mk _ _) (fun K hK => ?_); go_simp; refine hK _ ?_; clear hK K) | (refine wpRO_skipF rfl rfl (fun K hK => ?_); go_simp; refine hK _ ?_; clear hK K)
    first | (refine wpRO_free rfl rfl _ (fun w' => by go_simp; exact Gives.mk _ _) (fun K hK => ?_); go_simp; refine hK _ ?_; clear hK K) | (refine wpRO_skipF rfl rfl (fun K hK => ?_); go_simp; refine hK _ ?_; clear hK K)
    first | (refine wpRO_free rfl rfl _ (fun w' => by go_simp; exact Gives.mk _ _) (fun K hK => ?_); go_simp; refine hK _ ?_; clear hK K) | (refine wpRO_skipF rfl rfl (fun K hK => ?_); go_simp; refine hK _ ?_; clear hK K)
    first | (refine wpRO_free rfl rfl _ (fun w' => by go_simp; exact Gives.mk _ _) (fun K hK => ?_); go_simp; refine hK _ ?_; clear hK K) | (refine wpRO_skipF rfl rfl (fun K hK => ?_); go_simp; refine hK _ ?_; clear hK K)
    first | (refine wpRO_free rfl rfl _ (fun w' => by go_simp; exact Gives.mk _ _) (fun K hK => ?_); go_simp; refine hK _ ?_; clear hK K) | (refine wpRO_skipF rfl rfl (fun K hK => ?_); go_simp; refine hK _ ?_; clear hK K)
    first | (refine wpRO_free rfl rfl _ (fun w' => by go_simp; exact Gives.mk _ _) (fun K hK => ?_); go_simp; refine hK _ ?_; clear hK K) | (refine wpRO_skipF rfl rfl (fun K hK => ?_); go_simp; refine hK _ ?_; clear hK K)
    first | (refine wpRO_free rfl rfl _ (fun w' => by go_simp; exact Gives.mk _ _) (fun K hK => ?_); go_simp; refine hK _ ?_; clear hK K) | (refine wpRO_skipF rfl rfl (fun K hK => ?_); go_simp; refine hK _ ?_; clear hK K)
    first | (refine wpRO_pure rfl rfl _ (fun w' hG => by obtain _ := hG; exact gives_agg2 rfl (by decide +kernel) rfl (by assumption) (by assumption)) (fun K hK => ?_); go_simp; refine hK _ ?_; clear hK K) | (refine wpRO_pure rfl rfl _ (fun w' hG => by obtain _ := hG; go_simp; exact Gives.mk _ _) (fun K hK => ?_); go_simp; refine hK _ ?_; clear hK K) | (refine wpRO_skip rfl rfl (fun K hK => ?_); go_simp; refine hK _ ?_; clear hK K)
    first | (refine wpRO_free rfl rfl _ (fun w' => by go_simp; exact Gives.mk _ _) (fun K hK => ?_); go_simp; refine hK _ ?_; clear hK K) | (refine wpRO_skipF rfl rfl (fun K hK => ?_); go_simp; refine hK _ ?_; clear hK K)
    first | (refine wpRO_free rfl rfl _ (fun w' => by go_simp; exact Gives.mk _ _) (fun K hK => ?_); go_simp; refine hK _ ?_; clear hK K) | (refine wpRO_skipF rfl rfl (fun K hK => ?_); go_simp; refine hK _ ?_; clear hK K)
    first | (refine wpRO_pure rfl rfl _ (fun w' hG => by obtain _ := hG; exact gives_agg2 rfl (by decide +kernel) rfl (by assumption) (by assumption)) (fun K hK => ?_); go_simp; refine hK _ ?_; clear hK K) | (refine wpRO_pure rfl rfl _ (fun w' hG => by obtain _ := hG; go_simp; exact Gives.mk _ _) (fun K hK => ?_); go_simp; refine hK _ ?_; clear hK K) | (refine wpRO_skip rfl rfl (fun K hK => ?_); go_simp; refine hK _ ?_; clear hK K)
    first | (refine wpRO_pure rfl rfl _ (fun w' hG => by obtain _ := hG; exact gives_agg2 rfl (by decide +kernel) rfl (by assumption) (by assumption)) (fun K hK => ?_); go_simp; refine hK _ ?_; clear hK K) | (refine wpRO_pure rfl rfl _ (fun w' hG => by obtain _ := hG; go_simp; exact Gives.mk _ _) (fun K hK => ?_); go_simp; refine hK _ ?_; clear hK K) | (refine wpRO_skip rfl rfl (fun K hK => ?_); go_simp; refine hK _ ?_; clear hK K)
    first | (refine wpRO_free rfl rfl _ (fun w' => by go_simp; exact Gives.mk _ _) (fun K hK => ?_); go_simp; refine hK _ ?_; clear hK K) | (refine wpRO_skipF rfl rfl (fun K hK => ?_); go_simp; refine hK _ ?_; clear hK K)
    first | (refine wpRO_free rfl rfl _ (fun w' => by go_simp; exact Gives.mk _ _) (fun K hK => ?_); go_simp; refine hK _ ?_; clear hK K) | (refine wpRO_skipF rfl rfl (fun K hK => ?_); go_simp; refine hK _ ?_; clear hK K)
    first | (refine wpRO_pure rfl rfl _ (fun w' hG => by obtain _ := hG; exact gives_agg2 rfl (by decide +kernel) rfl (by assumption) (by assumption)) (fun K hK => ?_); go_simp; refine hK _ ?_; clear hK K) | (refine wpRO_pure rfl rfl _ (fun w' hG => by obtain _ := hG; go_simp; exact Gives.mk _ _) (fun K hK => ?_); go_simp; refine hK _ ?_; clear hK K) | (refine wpRO_skip rfl rfl (fun K hK => ?_); go_simp; refine hK _ ?_; clear hK K)
    first | (refine wpRO_free rfl rfl _ (fun w' => by go_simp; exact Gives.mk _ _) (fun K hK => ?_); go_simp; refine hK _ ?_; clear hK K) | (refine wpRO_skipF rfl rfl (fun K hK => ?_); go_simp; refine hK _ ?_; clear hK K)
    first | (refine wpRO_pure rfl rfl _ (fun w' hG => by obtain _ := hG; exact gives_agg2 rfl (by decide +kernel) rfl (by assumption) (by assumption)) (fun K hK => ?_); go_simp; refine hK _ ?_; clear hK K) | (refine wpRO_pure rfl rfl _ (fun w' hG => by obtain _ := hG; go_simp; exact Gives.mk _ _) (fun K hK => ?_); go_simp; refine hK _ ?_; clear hK K) | (refine wpRO_skip rfl rfl (fun K hK => ?_); go_simp; refine hK _ ?_; clear hK K)
    first | (refine wpRO_pure rfl rfl _ (fun w' hG => by obtain _ := hG; exact gives_agg2 rfl (by decide +kernel) rfl (by assumption) (by assumption)) (fun K hK => ?_); go_simp; refine hK _ ?_; clear hK K) | (refine wpRO_pure rfl rfl _ (fun w' hG => by obtain _ := hG; go_simp; exact Gives.mk _ _) (fun K hK => ?_); go_simp; refine hK _ ?_; clear hK K) | (refine wpRO_skip rfl rfl (fun K hK => ?_); go_simp; refine hK _ ?_; clear hK K)
    first | (refine wpRO_free rfl rfl _ (fun w' => by go_simp; exact Gives.mk _ _) (fun K hK => ?_); go_simp; refine hK _ ?_; clear hK K) | (refine wpRO_skipF rfl rfl (fun K hK => ?_); go_simp; refine hK _ ?_; clear hK K)
    first | (refine wpRO_free rfl rfl _ (fun w' => by go_simp; exact Gives.mk _ _) (fun K hK => ?_); go_simp; refine hK _ ?_; clear hK K) | (refine wpRO_skipF rfl rfl (fun K hK => ?_); go_simp; refine hK _ ?_; clear hK K)
    first | (refine wpRO_pure rfl rfl _ (fun w' hG => by obtain _ := hG; exact gives_agg2 rfl (by decide +kernel) rfl (by assumption) (by assumption)) (fun K hK => ?_); go_simp; refine hK _ ?_; clear hK K) | (refine wpRO_pure rfl rfl _ (fun w' hG => by obtain _ := hG; go_simp; exact Gives.mk _ _) (fun K hK => ?_); go_simp; refine hK _ ?_; clear hK K) | (refine wpRO_skip rfl rfl (fun K hK => ?_); go_simp; refine hK _ ?_; clear hK K)
    first | (refine wpRO_free rfl rfl _ (fun w' => by go_simp; exact Gives.mk _ _) (fun K hK => ?_); go_simp; refine hK _ ?_; clear hK K) | (refine wpRO_skipF rfl rfl (fun K hK => ?_); go_simp; refine hK _ ?_; clear hK K)
    first | (refine wpRO_pure rfl rfl _ (fun w' hG => by obtain _ := hG; exact gives_agg2 rfl (by decide +kernel) rfl (by assumption) (by assumption)) (fun K hK => ?_); go_simp; refine hK _ ?_; clear hK K) | (refine wpRO_pure rfl rfl _ (fun w' hG => by obtain _ := hG; go_simp; exact Gives.mk _ _) (fun K hK => ?_); go_simp; refine hK _ ?_; clear hK K) | (refine wpRO_skip rfl rfl (fun K hK => ?_); go_simp; refine hK _ ?_; clear hK K)
    first | (refine wpRO_free rfl rfl _ (fun w' => by go_simp; exact Gives.mk _ _) (fun K hK => ?_); go_simp; refine hK _ ?_; clear hK K) | (refine wpRO_skipF rfl rfl (fun K hK => ?_); go_simp; refine hK _ ?_; clear hK K)
    refine wpRO_skipR rfl rfl (fun K hK => ?_)
    go_simp
    refine hK _ ?_
    clear hK K
    refine wpRO_swi (fun _ => True) trivial ?_
    first | (refine wpRO_free rfl rfl _ (fun w' => by go_simp; exact Gives.mk _ _) (fun K hK => ?_); go_simp; refine hK _ ?_; clear hK K) | (refine wpRO_skipF rfl rfl (fun K hK => ?_); go_simp; refine hK _ ?_; clear hK K)
    first | (refine wpRO_free rfl rfl _ (fun w' => by go_simp; exact Gives.mk _ _) (fun K hK => ?_); go_simp; refine hK _ ?_; clear hK K) | (refine wpRO_skipF rfl rfl (fun K hK => ?_); go_simp; refine hK _ ?_; clear hK K)
    refine wpRO_fin ?_
    have HB4 := Lib.hid (HB3.out.same ((Keeps.refl (fun _ => False) w3).drew))
    have K4 := Lib.hid (K3.out.drew)
    obtain ⟨b0, b1, bl⟩ := HB4.out.pcells
    go_wp2_with fail
    refine (HDO.out _ HB4.out.R).mono ?_
    rintro e5 w5 ⟨rfl, ht⟩
    have TO := Lib.hid (BothTo.from_keep K4.out (BothTo.world HB4.out ht))
    clear ht b0 b1 bl
    go_wp2_with fail
    go_ret
    unfold BothDoRet
    rw [HWO2.out, HWD.out]
    exact ⟨by by_cases hz : dc = 0 <;> simp [hz], TO.out⟩
    -->n1
  subst he1
  by_cases he2 : e2 = 0
  case neg =>
    have hd1 : (e2 == 0) = false := by simpa using he2
    have hno := HRN.out (fun e => he2 e.2.1)
    have HWO2 := Lib.hid (show woC O 5 xa xb a c = (1, O) by rw [HWO.out, if_neg hno.1, hno.2])
    clear he2 hno
    --<n2
    go_wp2_with fail
    refine wp_region_ro (.free 0 (.free 1 (.free 2 (.free 3 (.free 4 (.free 5 (.free 6 (.free 7 (.free 8 (.free 9 (.free 10 (.free 11 (.free 12 (.free 13 (.free 18 (.free 19 (.free 20 (.free 25 (.free 28 (.free 29 (.free 30 (.free 35 (.pure 14 (.free 15 (.free 16 (.pure 17 (.pure 21 (.free 22 (.free 23 (.pure 24 (.free 26 (.pure 27 (.pure 31 (.free 32 (.free 33 (.pure 34 (.free 36 (.pure 37 (.free 38 (.run 39 (.swi [] (.free 40 (.free 41 (.fin)))))))))))))))))))))))))))))))))))))))))))) [39, 40, 41] (fun w' => True) (by kernel_rfl) (by kernel_rfl) trivial ?_
    first | (refine wpRO_free rfl rfl _ (fun w' => by go_simp; exact Gives.mk _ _) (fun K hK => ?_); go_simp; refine hK _ ?_; clear hK K) | (refine wpRO_skipF rfl rfl (fun K hK => ?_); go_simp; refine hK _ ?_; clear hK K)
    first | (refine wpRO_free rfl rfl _ (fun w' => by go_simp; exact Gives.mk _ _) (fun K hK => ?_); go_simp; refine hK _ ?_; clear hK K) | (refine wpRO_skipF rfl rfl (fun K hK => ?_); go_simp; refine hK _ ?_; clear hK K)
    first | (refine wpRO_free rfl rfl _ (fun w' => by go_simp; exact Gives.mk _ _) (fun K hK => ?_); go_simp; refine hK _ ?_; clear hK K) | (refine wpRO_skipF rfl rfl (fun K hK => ?_); go_simp; refine hK _ ?_; clear hK K)
    first | (refine wpRO_free rfl rfl _ (fun w' => by go_simp; exact Gives.mk _ _) (fun K hK => ?_); go_simp; refine hK _ ?_; clear hK K) | (refine wpRO_skipF rfl rfl (fun K hK => ?_); go_simp; refine hK _ ?_; clear hK K)
    first | (refine wpRO_free rfl rfl _ (fun w' => by go_simp; exact Gives.mk _ _) (fun K hK => ?_); go_simp; refine hK _ ?_; clear hK K) | (refine wpRO_skipF rfl rfl (fun K hK => ?_); go_simp; refine hK _ ?_; clear hK K)
    first | (refine wpRO_free rfl rfl _ (fun w' => by go_simp; exact Gives.mk _ _) (fun K hK => ?_); go_simp; refine hK _ ?_; clear hK K) | (refine wpRO_skipF rfl rfl (fun K hK => ?_); go_simp; refine hK _ ?_; clear hK K)
    first | (refine wpRO_free rfl rfl _ (fun w' => by go_simp; exact Gives.mk _ _) (fun K hK => ?_); go_simp; refine hK _ ?_; clear hK K) | (refine wpRO_skipF rfl rfl (fun K hK => ?_); go_simp; refine hK _ ?_; clear hK K)
    first | (refine wpRO_free rfl rfl _ (fun w' => by go_simp; exact Gives.mk _ _) (fun K hK => ?_); go_simp; refine hK _ ?_; clear hK K) | (refine wpRO_skipF rfl rfl (fun K hK => ?_); go_simp; refine hK _ ?_; clear hK K)
    first | (refine wpRO_free rfl rfl _ (fun w' => by go_simp; exact Gives.mk _ _) (fun K hK => ?_); go_simp; refine hK _ ?_; clear hK K) | (refine wpRO_skipF rfl rfl (fun K hK => ?_); go_simp; refine hK _ ?_; clear hK K)
    first | (refine wpRO_free rfl rfl _ (fun w' => by go_simp; exact Gives.mk _ _) (fun K hK => ?_); go_simp; refine hK _ ?_; clear hK K) | (refine wpRO_skipF rfl rfl (fun K hK => ?_); go_simp; refine hK _ ?_; clear hK K)
    first | (refine wpRO_free rfl rfl _ (fun w' => by go_simp; exact Gives.mk _ _) (fun K hK => ?_); go_simp; refine hK _ ?_; clear hK K) | (refine wpRO_skipF rfl rfl (fun K hK => ?_); go_simp; refine hK _ ?_; clear hK K)
    first | (refine wpRO_free rfl rfl _ (fun w' => by go_simp; exact Gives.mk _ _) (fun K hK => ?_); go_simp; refine hK _ ?_; clear hK K) | (refine wpRO_skipF rfl rfl (fun K hK => ?_); go_simp; refine hK _ ?_; clear hK K)
    first | (refine wpRO_free rfl rfl _ (fun w' => by go_simp; exact Gives.mk _ _) (fun K hK => ?_); go_simp; refine hK _ ?_; clear hK K) | (refine wpRO_skipF rfl rfl (fun K hK => ?_); go_simp; refine hK _ ?_; clear hK K)
    first | (refine wpRO_free rfl rfl _ (fun w' => by go_simp; exact Gives.mk _ _) (fun K hK => ?_); go_simp; refine hK _ ?_; clear hK K) | (refine wpRO_skipF rfl rfl (fun K hK => ?_); go_simp; refine hK _ ?_; clear hK K)
    first | (refine wpRO_free rfl rfl _ (fun w' => by go_simp; exact Gives.mk _ _) (fun K hK => ?_); go_simp; refine hK _ ?_; clear hK K) | (refine wpRO_skipF rfl rfl (fun K hK => ?_); go_simp; refine hK _ ?_; clear hK K)
    first | (refine wpRO_free rfl rfl _ (fun w' => by go_simp; exact Gives.mk _ _) (fun K hK => ?_); go_simp; refine hK _ ?_; clear hK K) | (refine wpRO_skipF rfl rfl (fun K hK => ?_); go_simp; refine hK _ ?_; clear hK K)
    first | (refine wpRO_free rfl rfl _ (fun w' => by go_simp; exact Gives.mk _ _) (fun K hK => ?_); go_simp; refine hK _ ?_; clear hK K) | (refine wpRO_skipF rfl rfl (fun K hK => ?_); go_simp; refine hK _ ?_; clear hK K)
    first | (refine wpRO_free rfl rfl _ (fun w' => by go_simp; exact Gives.mk _ _) (fun K hK => ?_); go_simp; refine hK _ ?_; clear hK K) | (refine wpRO_skipF rfl rfl (fun K hK => ?_); go_simp; refine hK _ ?_; clear hK K)
    first | (refine wpRO_free rfl rfl _ (fun w' => by go_simp; exact Gives.mk _ _) (fun K hK => ?_); go_simp; refine hK _ ?_; clear hK K) | (refine wpRO_skipF rfl rfl (fun K hK => ?_); go_simp; refine hK _ ?_; clear hK K)
    first | (refine wpRO_free rfl rfl _ (fun w' => by go_simp; exact Gives.mk _ _) (fun K hK => ?_); go_simp; refine hK _ ?_; clear hK K) | (refine wpRO_skipF rfl rfl (fun K hK => ?_); go_simp; refine hK _ ?_; clear hK K)
    first | (refine wpRO_free rfl rfl _ (fun w' => by go_simp; exact Gives.mk _ _) (fun K hK => ?_); go_simp; refine hK _ ?_; clear hK K) | (refine wpRO_skipF rfl rfl (fun K hK => ?_); go_simp; refine hK _ ?_; clear hK K)
    first | (refine wpRO_free rfl rfl _ (fun w' => by go_simp; exact Gives.mk _ _) (fun K hK => ?_); go_simp; refine hK _ ?_; clear hK K) | (refine wpRO_skipF rfl rfl (fun K hK => ?_); go_simp; refine hK _ ?_; clear hK K)
    first | (refine wpRO_pure rfl rfl _ (fun w' hG => by obtain _ := hG; exact gives_agg2 rfl (by decide +kernel) rfl (by assumption) (by assumption)) (fun K hK => ?_); go_simp; refine hK _ ?_; clear hK K) | (refine wpRO_pure rfl rfl _ (fun w' hG => by obtain _ := hG; go_simp; exact Gives.mk _ _) (fun K hK => ?_); go_simp; refine hK _ ?_; clear hK K) | (refine wpRO_skip rfl rfl (fun K hK => ?_); go_simp; refine hK _ ?_; clear hK K)
    first | (refine wpRO_free rfl rfl _ (fun w' => by go_simp; exact Gives.mk _ _) (fun K hK => ?_); go_simp; refine hK _ ?_; clear hK K) | (refine wpRO_skipF rfl rfl (fun K hK => ?_); go_simp; refine hK _ ?_; clear hK K)
    first | (refine wpRO_free rfl rfl _ (fun w' => by go_simp; exact Gives.mk _ _) (fun K hK => ?_); go_simp; refine hK _ ?_; clear hK K) | (refine wpRO_skipF rfl rfl (fun K hK => ?_); go_simp; refine hK _ ?_; clear hK K)
    first | (refine wpRO_pure rfl rfl _ (fun w' hG => by obtain _ := hG; exact gives_agg2 rfl (by decide +kernel) rfl (by assumption) (by assumption)) (fun K hK => ?_); go_simp; refine hK _ ?_; clear hK K) | (refine wpRO_pure rfl rfl _ (fun w' hG => by obtain _ := hG; go_simp; exact Gives.mk _ _) (fun K hK => ?_); go_simp; refine hK _ ?_; clear hK K) | (refine wpRO_skip rfl rfl (fun K hK => ?_); go_simp; refine hK _ ?_; clear hK K)
    first | (refine wpRO_pure rfl rfl _ (fun w' hG => by obtain _ := hG; exact gives_agg2 rfl (by decide +kernel) rfl (by assumption) (by assumption)) (fun K hK => ?_); go_simp; refine hK _ ?_; clear hK K) | (refine wpRO_pure rfl rfl _ (fun w' hG => by obtain _ := hG; go_simp; exact Gives.mk _ _) (fun K hK => ?_); go_simp; refine hK _ ?_; clear hK K) | (refine wpRO_skip rfl rfl (fun K hK => ?_); go_simp; refine hK _ ?_; clear hK K)
    first | (refine wpRO_free rfl rfl _ (fun w' => by go_simp; exact Gives.mk _ _) (fun K hK => ?_); go_simp; refine hK _ ?_; clear hK K) | (refine wpRO_skipF rfl rfl (fun K hK => ?_); go_simp; refine hK _ ?_; clear hK K)
    first | (refine wpRO_free rfl rfl _ (fun w' => by go_simp; exact Gives.mk _ _) (fun K hK => ?_); go_simp; refine hK _ ?_; clear hK K) | (refine wpRO_skipF rfl rfl (fun K hK => ?_); go_simp; refine hK _ ?_; clear hK K)
    first | (refine wpRO_pure rfl rfl _ (fun w' hG => by obtain _ := hG; exact gives_agg2 rfl (by decide +kernel) rfl (by assumption) (by assumption)) (fun K hK => ?_); go_simp; refine hK _ ?_; clear hK K) | (refine wpRO_pure rfl rfl _ (fun w' hG => by obtain _ := hG; go_simp; exact Gives.mk _ _) (fun K hK => ?_); go_simp; refine hK _ ?_; clear hK K) | (refine wpRO_skip rfl rfl (fun K hK => ?_); go_simp; refine hK _ ?_; clear hK K)
    first | (refine wpRO_free rfl rfl _ (fun w' => by go_simp; exact Gives.mk _ _) (fun K hK => ?_); go_simp; refine hK _ ?_; clear hK K) | (refine wpRO_skipF rfl rfl (fun K hK => ?_); go_simp; refine hK _ ?_; clear hK K)
    first | (refine wpRO_pure rfl rfl _ (fun w' hG => by obtain _ := hG; exact gives_agg2 rfl (by decide +kernel) rfl (by assumption) (by assumption)) (fun K hK => ?_); go_simp; refine hK _ ?_; clear hK K) | (refine wpRO_pure rfl rfl _ (fun w' hG => by obtain _ := hG; go_simp; exact Gives.mk _ _) (fun K hK => ?_); go_simp; refine hK _ ?_; clear hK K) | (refine wpRO_skip rfl rfl (fun K hK => ?_); go_simp; refine hK _ ?_; clear hK K)
    first | (refine wpRO_pure rfl rfl _ (fun w' hG => by obtain _ := hG; exact gives_agg2 rfl (by decide +kernel) rfl (by assumption) (by assumption)) (fun K hK => ?_); go_simp; refine hK _ ?_; clear hK K) | (refine wpRO_pure rfl rfl _ (fun w' hG => by obtain _ := hG; go_simp; exact Gives.mk _ _) (fun K hK => ?_); go_simp; refine hK _ ?_; clear hK K) | (refine wpRO_skip rfl rfl (fun K hK => ?_); go_simp; refine hK _ ?_; clear hK K)
    first | (refine wpRO_free rfl rfl _ (fun w' => by go_simp; exact Gives.mk _ _) (fun K hK => ?_); go_simp; refine hK _ ?_; clear hK K) | (refine wpRO_skipF rfl rfl (fun K hK => ?_); go_simp; refine hK _ ?_; clear hK K)
    first | (refine wpRO_free rfl rfl _ (fun w' => by go_simp; exact Gives.mk _ _) (fun K hK => ?_); go_simp; refine hK _ ?_; clear hK K) | (refine wpRO_skipF rfl rfl (fun K hK => ?_); go_simp; refine hK _ ?_; clear hK K)
    first | (refine wpRO_pure rfl rfl _ (fun w' hG => by obtain _ := hG; exact gives_agg2 rfl (by decide +kernel) rfl (by assumption) (by assumption)) (fun K hK => ?_); go_simp; refine hK _ ?_; clear hK K) | (refine wpRO_pure rfl rfl _ (fun w' hG => by obtain _ := hG; go_simp; exact Gives.mk _ _) (fun K hK => ?_); go_simp; refine hK _ ?_; clear hK K) | (refine wpRO_skip rfl rfl (fun K hK => ?_); go_simp; refine hK _ ?_; clear hK K)
    first | (refine wpRO_free rfl rfl _ (fun w' => by go_simp; exact Gives.mk _ _) (fun K hK => ?_); go_simp; refine hK _ ?_; clear hK K) | (refine wpRO_skipF rfl rfl (fun K hK => ?_); go_simp; refine hK _ ?_; clear hK K)
    first | (refine wpRO_pure rfl rfl _ (fun w' hG => by obtain _ := hG; exact gives_agg2 rfl (by decide +kernel) rfl (by assumption) (by assumption)) (fun K hK => ?_); go_simp; refine hK _ ?_; clear hK K) | (refine wpRO_pure rfl rfl _ (fun w' hG => by obtain _ := hG; go_simp; exact Gives.mk _ _) (fun K hK => ?_); go_simp; refine hK _ ?_; clear hK K) | (refine wpRO_skip rfl rfl (fun K hK => ?_); go_simp; refine hK _ ?_; clear hK K)
    first | (refine wpRO_free rfl rfl _ (fun w' => by go_simp; exact Gives.mk _ _) (fun K hK => ?_); go_simp; refine hK _ ?_; clear hK K) | (refine wpRO_skipF rfl rfl (fun K hK => ?_); go_simp; refine hK _ ?_; clear hK K)
    refine wpRO_skipR rfl rfl (fun K hK => ?_)
    go_simp
    refine hK _ ?_
    clear hK K
    refine wpRO_swi (fun _ => True) trivial ?_
    first | (refine wpRO_free rfl rfl _ (fun w' => by go_simp; exact Gives.mk _ _) (fun K hK => ?_); go_simp; refine hK _ ?_; clear hK K) | (refine wpRO_skipF rfl rfl (fun K hK => ?_); go_simp; refine hK _ ?_; clear hK K)
    first | (refine wpRO_free rfl rfl _ (fun w' => by go_simp; exact Gives.mk _ _) (fun K hK => ?_); go_simp; refine hK _ ?_; clear hK K) | (refine wpRO_skipF rfl rfl (fun K hK => ?_); go_simp; refine hK _ ?_; clear hK K)
    refine wpRO_fin ?_
    have HB4 := Lib.hid (HB3.out.same ((Keeps.refl (fun _ => False) w3).drew))
    have K4 := Lib.hid (K3.out.drew)
    obtain ⟨b0, b1, bl⟩ := HB4.out.pcells
    go_wp2_with fail
    refine (HDO.out _ HB4.out.R).mono ?_
    rintro e5 w5 ⟨rfl, ht⟩
    have TO := Lib.hid (BothTo.from_keep K4.out (BothTo.world HB4.out ht))
    clear ht b0 b1 bl
    go_wp2_with fail
    go_ret
    unfold BothDoRet
    rw [HWO2.out, HWD.out]
    exact ⟨by by_cases hz : dc = 0 <;> simp [hz], TO.out⟩
    -->n2
  subst he2
  by_cases he5 : kd = 5
  case neg =>
    have hd1 : (kd == 5) = false := by simpa using he5
    have hno := HRN.out (fun e => he5 e.2.2)
    have HWO2 := Lib.hid (show woC O 5 xa xb a c = (1, O) by rw [HWO.out, if_neg hno.1, hno.2])
    clear he5 hno
    --<n3
    go_wp2_with fail
    refine wp_region_ro (.free 0 (.free 1 (.free 2 (.free 3 (.free 4 (.free 5 (.free 6 (.free 7 (.free 8 (.free 9 (.free 10 (.free 11 (.free 12 (.free 13 (.free 18 (.free 19 (.free 20 (.free 25 (.free 28 (.free 29 (.free 30 (.free 35 (.pure 14 (.free 15 (.free 16 (.pure 17 (.pure 21 (.free 22 (.free 23 (.pure 24 (.free 26 (.pure 27 (.pure 31 (.free 32 (.free 33 (.pure 34 (.free 36 (.pure 37 (.free 38 (.run 39 (.swi [] (.free 40 (.free 41 (.fin)))))))))))))))))))))))))))))))))))))))))))) [39, 40, 41] (fun w' => True) (by kernel_rfl) (by kernel_rfl) trivial ?_
    first | (refine wpRO_free rfl rfl _ (fun w' => by go_simp; exact Gives.mk _ _) (fun K hK => ?_); go_simp; refine hK _ ?_; clear hK K) | (refine wpRO_skipF rfl rfl (fun K hK => ?_); go_simp; refine hK _ ?_; clear hK K)
    first | (refine wpRO_free rfl rfl _ (fun w' => by go_simp; exact Gives.mk _ _) (fun K hK => ?_); go_simp; refine hK _ ?_; clear hK K) | (refine wpRO_skipF rfl rfl (fun K hK => ?_); go_simp; refine hK _ ?_; clear hK K)
    first | (refine wpRO_free rfl rfl _ (fun w' => by go_simp; exact Gives.mk _ _) (fun K hK => ?_); go_simp; refine hK _ ?_; clear hK K) | (refine wpRO_skipF rfl rfl (fun K hK => ?_); go_simp; refine hK _ ?_; clear hK K)
    first | (refine wpRO_free rfl rfl _ (fun w' => by go_simp; exact Gives.mk _ _) (fun K hK => ?_); go_simp; refine hK _ ?_; clear hK K) | (refine wpRO_skipF rfl rfl (fun K hK => ?_); go_simp; refine hK _ ?_; clear hK K)
    first | (refine wpRO_free rfl rfl _ (fun w' => by go_simp; exact Gives.mk _ _) (fun K hK => ?_); go_simp; refine hK _ ?_; clear hK K) | (refine wpRO_skipF rfl rfl (fun K hK => ?_); go_simp; refine hK _ ?_; clear hK K)
    first | (refine wpRO_free rfl rfl _ (fun w' => by go_simp; exact Gives.mk _ _) (fun K hK => ?_); go_simp; refine hK _ ?_; clear hK K) | (refine wpRO_skipF rfl rfl (fun K hK => ?_); go_simp; refine hK _ ?_; clear hK K)
    first | (refine wpRO_free rfl rfl _ (fun w' => by go_simp; exact Gives.mk _ _) (fun K hK => ?_); go_simp; refine hK _ ?_; clear hK K) | (refine wpRO_skipF rfl rfl (fun K hK => ?_); go_simp; refine hK _ ?_; clear hK K)
    first | (refine wpRO_free rfl rfl _ (fun w' => by go_simp; exact Gives.mk _ _) (fun K hK => ?_); go_simp; refine hK _ ?_; clear hK K) | (refine wpRO_skipF rfl rfl (fun K hK => ?_); go_simp; refine hK _ ?_; clear hK K)
    first | (refine wpRO_free rfl rfl _ (fun w' => by go_simp; exact Gives.mk _ _) (fun K hK => ?_); go_simp; refine hK _ ?_; clear hK K) | (refine wpRO_skipF rfl rfl (fun K hK => ?_); go_simp; refine hK _ ?_; clear hK K)
    first | (refine wpRO_free rfl rfl _ (fun w' => by go_simp; exact Gives.mk _ _) (fun K hK => ?_); go_simp; refine hK _ ?_; clear hK K) | (refine wpRO_skipF rfl rfl (fun K hK => ?_); go_simp; refine hK _ ?_; clear hK K)
    first | (refine wpRO_free rfl rfl _ (fun w' => by go_simp; exact Gives.mk _ _) (fun K hK => ?_); go_simp; refine hK _ ?_; clear hK K) | (refine wpRO_skipF rfl rfl (fun K hK => ?_); go_simp; refine hK _ ?_; clear hK K)
    first | (refine wpRO_free rfl rfl _ (fun w' => by go_simp; exact Gives.mk _ _) (fun K hK => ?_); go_simp; refine hK _ ?_; clear hK K) | (refine wpRO_skipF rfl rfl (fun K hK => ?_); go_simp; refine hK _ ?_; clear hK K)
    first | (refine wpRO_free rfl rfl _ (fun w' => by go_simp; exact Gives.mk _ _) (fun K hK => ?_); go_simp; refine hK _ ?_; clear hK K) | (refine wpRO_skipF rfl rfl (fun K hK => ?_); go_simp; refine hK _ ?_; clear hK K)
    first | (refine wpRO_free rfl rfl _ (fun w' => by go_simp; exact Gives.mk _ _) (fun K hK => ?_); go_simp; refine hK _ ?_; clear hK K) | (refine wpRO_skipF rfl rfl (fun K hK => ?_); go_simp; refine hK _ ?_; clear hK K)
    first | (refine wpRO_free rfl rfl _ (fun w' => by go_simp; exact Gives.mk _ _) (fun K hK => ?_); go_simp; refine hK _ ?_; clear hK K) | (refine wpRO_skipF rfl rfl (fun K hK => ?_); go_simp; refine hK _ ?_; clear hK K)
    first | (refine wpRO_free rfl rfl _ (fun w' => by go_simp; exact Gives.mk _ _) (fun K hK => ?_); go_simp; refine hK _ ?_; clear hK K) | (refine wpRO_skipF rfl rfl (fun K hK => ?_); go_simp; refine hK _ ?_; clear hK K)
    first | (refine wpRO_free rfl rfl _ (fun w' => by go_simp; exact Gives.mk _ _) (fun K hK => ?_); go_simp; refine hK _ ?_; clear hK K) | (refine wpRO_skipF rfl rfl (fun K hK => ?_); go_simp; refine hK _ ?_; clear hK K)
    first | (refine wpRO_free rfl rfl _ (fun w' => by go_simp; exact Gives.mk _ _) (fun K hK => ?_); go_simp; refine hK _ ?_; clear hK K) | (refine wpRO_skipF rfl rfl (fun K hK => ?_); go_simp; refine hK _ ?_; clear hK K)
    first | (refine wpRO_free rfl rfl _ (fun w' => by go_simp; exact Gives.mk _ _) (fun K hK => ?_); go_simp; refine hK _ ?_; clear hK K) | (refine wpRO_skipF rfl rfl (fun K hK => ?_); go_simp; refine hK _ ?_; clear hK K)
    first | (refine wpRO_free rfl rfl _ (fun w' => by go_simp; exact Gives.mk _ _) (fun K hK => ?_); go_simp; refine hK _ ?_; clear hK K) | (refine wpRO_skipF rfl rfl (fun K hK => ?_); go_simp; refine hK _ ?_; clear hK K)
    first | (refine wpRO_free rfl rfl _ (fun w' => by go_simp; exact Gives.mk _ _) (fun K hK => ?_); go_simp; refine hK _ ?_; clear hK K) | (refine wpRO_skipF rfl rfl (fun K hK => ?_); go_simp; refine hK _ ?_; clear hK K)
    first | (refine wpRO_free rfl rfl _ (fun w' => by go_simp; exact Gives.mk _ _) (fun K hK => ?_); go_simp; refine hK _ ?_; clear hK K) | (refine wpRO_skipF rfl rfl (fun K hK => ?_); go_simp; refine hK _ ?_; clear hK K)
    first | (refine wpRO_pure rfl rfl _ (fun w' hG => by obtain _ := hG; exact gives_agg2 rfl (by decide +kernel) rfl (by assumption) (by assumption)) (fun K hK => ?_); go_simp; refine hK _ ?_; clear hK K) | (refine wpRO_pure rfl rfl _ (fun w' hG => by obtain _ := hG; go_simp; exact Gives.mk _ _) (fun K hK => ?_); go_simp; refine hK _ ?_; clear hK K) | (refine wpRO_skip rfl rfl (fun K hK => ?_); go_simp; refine hK _ ?_; clear hK K)
    first | (refine wpRO_free rfl rfl _ (fun w' => by go_simp; exact Gives.mk _ _) (fun K hK => ?_); go_simp; refine hK _ ?_; clear hK K) | (refine wpRO_skipF rfl rfl (fun K hK => ?_); go_simp; refine hK _ ?_; clear hK K)
    first | (refine wpRO_free rfl rfl _ (fun w' => by go_simp; exact Gives.mk _ _) (fun K hK => ?_); go_simp; refine hK _ ?_; clear hK K) | (refine wpRO_skipF rfl rfl (fun K hK => ?_); go_simp; refine hK _ ?_; clear hK K)
    first | (refine wpRO_pure rfl rfl _ (fun w' hG => by obtain _ := hG; exact gives_agg2 rfl (by decide +kernel) rfl (by assumption) (by assumption)) (fun K hK => ?_); go_simp; refine hK _ ?_; clear hK K) | (refine wpRO_pure rfl rfl _ (fun w' hG => by obtain _ := hG; go_simp; exact Gives.mk _ _) (fun K hK => ?_); go_simp; refine hK _ ?_; clear hK K) | (refine wpRO_skip rfl rfl (fun K hK => ?_); go_simp; refine hK _ ?_; clear hK K)
    first | (refine wpRO_pure rfl rfl _ (fun w' hG => by obtain _ := hG; exact gives_agg2 rfl (by decide +kernel) rfl (by assumption) (by assumption)) (fun K hK => ?_); go_simp; refine hK _ ?_; clear hK K) | (refine wpRO_pure rfl rfl _ (fun w' hG => by obtain _ := hG; go_simp; exact Gives.mk _ _) (fun K hK => ?_); go_simp; refine hK _ ?_; clear hK K) | (refine wpRO_skip rfl rfl (fun K hK => ?_); go_simp; refine hK _ ?_; clear hK K)
    first | (refine wpRO_free rfl rfl _ (fun w' => by go_simp; exact Gives.mk _ _) (fun K hK => ?_); go_simp; refine hK _ ?_; clear hK K) | (refine wpRO_skipF rfl rfl (fun K hK => ?_); go_simp; refine hK _ ?_; clear hK K)
    first | (refine wpRO_free rfl rfl _ (fun w' => by go_simp; exact Gives.mk _ _) (fun K hK => ?_); go_simp; refine hK _ ?_; clear hK K) | (refine wpRO_skipF rfl rfl (fun K hK => ?_); go_simp; refine hK _ ?_; clear hK K)
    first | (refine wpRO_pure rfl rfl _ (fun w' hG => by obtain _ := hG; exact gives_agg2 rfl (by decide +kernel) rfl (by assumption) (by assumption)) (fun K hK => ?_); go_simp; refine hK _ ?_; clear hK K) | (refine wpRO_pure rfl rfl _ (fun w' hG => by obtain _ := hG; go_simp; exact Gives.mk _ _) (fun K hK => ?_); go_simp; refine hK _ ?_; clear hK K) | (refine wpRO_skip rfl rfl (fun K hK => ?_); go_simp; refine hK _ ?_; clear hK K)
    first | (refine wpRO_free rfl rfl _ (fun w' => by go_simp; exact Gives.mk _ _) (fun K hK => ?_); go_simp; refine hK _ ?_; clear hK K) | (refine wpRO_skipF rfl rfl (fun K hK => ?_); go_simp; refine hK _ ?_; clear hK K)
    first | (refine wpRO_pure rfl rfl _ (fun w' hG => by obtain _ := hG; exact gives_agg2 rfl (by decide +kernel) rfl (by assumption) (by assumption)) (fun K hK => ?_); go_simp; refine hK _ ?_; clear hK K) | (refine wpRO_pure rfl rfl _ (fun w' hG => by obtain _ := hG; go_simp; exact Gives.mk _ _) (fun K hK => ?_); go_simp; refine hK _ ?_; clear hK K) | (refine wpRO_skip rfl rfl (fun K hK => ?_); go_simp; refine hK _ ?_; clear hK K)
    first | (refine wpRO_pure rfl rfl _ (fun w' hG => by obtain _ := hG; exact gives_agg2 rfl (by decide +kernel) rfl (by assumption) (by assumption)) (fun K hK => ?_); go_simp; refine hK _ ?_; clear hK K) | (refine wpRO_pure rfl rfl _ (fun w' hG => by obtain _ := hG; go_simp; exact Gives.mk _ _) (fun K hK => ?_); go_simp; refine hK _ ?_; clear hK K) | (refine wpRO_skip rfl rfl (fun K hK => ?_); go_simp; refine hK _ ?_; clear hK K)
    first | (refine wpRO_free rfl rfl _ (fun w' => by go_simp; exact Gives.mk _ _) (fun K hK => ?_); go_simp; refine hK _ ?_; clear hK K) | (refine wpRO_skipF rfl rfl (fun K hK => ?_); go_simp; refine hK _ ?_; clear hK K)
    first | (refine wpRO_free rfl rfl _ (fun w' => by go_simp; exact Gives.mk _ _) (fun K hK => ?_); go_simp; refine hK _ ?_; clear hK K) | (refine wpRO_skipF rfl rfl (fun K hK => ?_); go_simp; refine hK _ ?_; clear hK K)
    first | (refine wpRO_pure rfl rfl _ (fun w' hG => by obtain _ := hG; exact gives_agg2 rfl (by decide +kernel) rfl (by assumption) (by assumption)) (fun K hK => ?_); go_simp; refine hK _ ?_; clear hK K) | (refine wpRO_pure rfl rfl _ (fun w' hG => by obtain _ := hG; go_simp; exact Gives.mk _ _) (fun K hK => ?_); go_simp; refine hK _ ?_; clear hK K) | (refine wpRO_skip rfl rfl (fun K hK => ?_); go_simp; refine hK _ ?_; clear hK K)
    first | (refine wpRO_free rfl rfl _ (fun w' => by go_simp; exact Gives.mk _ _) (fun K hK => ?_); go_simp; refine hK _ ?_; clear hK K) | (refine wpRO_skipF rfl rfl (fun K hK => ?_); go_simp; refine hK _ ?_; clear hK K)
    first | (refine wpRO_pure rfl rfl _ (fun w' hG => by obtain _ := hG; exact gives_agg2 rfl (by decide +kernel) rfl (by assumption) (by assumption)) (fun K hK => ?_); go_simp; refine hK _ ?_; clear hK K) | (refine wpRO_pure rfl rfl _ (fun w' hG => by obtain _ := hG; go_simp; exact Gives.mk _ _) (fun K hK => ?_); go_simp; refine hK _ ?_; clear hK K) | (refine wpRO_skip rfl rfl (fun K hK => ?_); go_simp; refine hK _ ?_; clear hK K)
    first | (refine wpRO_free rfl rfl _ (fun w' => by go_simp; exact Gives.mk _ _) (fun K hK => ?_); go_simp; refine hK _ ?_; clear hK K) | (refine wpRO_skipF rfl rfl (fun K hK => ?_); go_simp; refine hK _ ?_; clear hK K)
    refine wpRO_skipR rfl rfl (fun K hK => ?_)
    go_simp
    refine hK _ ?_
    clear hK K
    refine wpRO_swi (fun _ => True) trivial ?_
    first | (refine wpRO_free rfl rfl _ (fun w' => by go_simp; exact Gives.mk _ _) (fun K hK => ?_); go_simp; refine hK _ ?_; clear hK K) | (refine wpRO_skipF rfl rfl (fun K hK => ?_); go_simp; refine hK _ ?_; clear hK K)
    first | (refine wpRO_free rfl rfl _ (fun w' => by go_simp; exact Gives.mk _ _) (fun K hK => ?_); go_simp; refine hK _ ?_; clear hK K) | (refine wpRO_skipF rfl rfl (fun K hK => ?_); go_simp; refine hK _ ?_; clear hK K)
    refine wpRO_fin ?_
    have HB4 := Lib.hid (HB3.out.same ((Keeps.refl (fun _ => False) w3).drew))
    have K4 := Lib.hid (K3.out.drew)
    obtain ⟨b0, b1, bl⟩ := HB4.out.pcells
    go_wp2_with fail
    refine (HDO.out _ HB4.out.R).mono ?_
    rintro e5 w5 ⟨rfl, ht⟩
    have TO := Lib.hid (BothTo.from_keep K4.out (BothTo.world HB4.out ht))
    clear ht b0 b1 bl
    go_wp2_with fail
    go_ret
    unfold BothDoRet
    rw [HWO2.out, HWD.out]
    exact ⟨by by_cases hz : dc = 0 <;> simp [hz], TO.out⟩
    -->n3
  subst he5
  have HRG := Lib.hid (HRY.out ⟨rfl, rfl, rfl⟩)
  clear HRY HRN
  obtain ⟨b0, b1, bl⟩ := HB3.out.pcells
  obtain ⟨q0, q3, ql, gl, gf, gc⟩ := HB3.out.rcells HRO.out hc12
  obtain ⟨_, _, _, _, _, ga⟩ := HB3.out.rcells HRO.out ha12
  have q2 := HB3.out.H.ptrs.2.2.1
  rw [HVC.out] at gc
  rw [HVA.out] at ga
  have h24l := HB3.out.H.ok.hq
  have hsd := HB3.out.H.hs
  by_cases h24 : 24 ≤ O.rg.length + O.wt.length
  · have HWO2 := Lib.hid (show woC O 5 xa xb a c = (1, O) by rw [HWO.out, HRG.out, if_pos h24]; rfl)
    have hreg := Reg_full h.a.ps h.a.rv h.a.wv O.rg O.wt vc va (w3.drew) (hsd.keep (Keeps.refl (fun _ => False) w3).drew (fun _ _ h => h)) (by omega) (by omega) h24
    have HREG := Lib.hid hreg
    clear hreg hsd h24
    go_wp2_with fail
    refine wp_region_ro (.free 0 (.free 1 (.free 2 (.free 3 (.free 4 (.free 5 (.free 6 (.free 7 (.free 8 (.free 9 (.free 10 (.free 11 (.free 12 (.free 13 (.free 18 (.free 19 (.free 20 (.free 25 (.free 28 (.free 29 (.free 30 (.free 35 (.pure 14 (.free 15 (.free 16 (.pure 17 (.pure 21 (.free 22 (.free 23 (.pure 24 (.free 26 (.pure 27 (.pure 31 (.free 32 (.free 33 (.pure 34 (.free 36 (.pure 37 (.free 38 (.run 39 (.swi [] (.free 40 (.free 41 (.fin)))))))))))))))))))))))))))))))))))))))))))) [39, 40, 41] (fun w' => w'.cell? ⟨h.p, 0, none⟩ = some (.pointer (some ⟨h.a.p, 0, none⟩)) ∧ w'.cell? ⟨h.a.p, 3, none⟩ = some (.slice (some ⟨g, o, none⟩) 12 cap) ∧ w'.cell? ⟨g, o + c, none⟩ = some (.int .i64 vc) ∧ w'.cell? ⟨g, o + a, none⟩ = some (.int .i64 va) ∧ w'.cell? ⟨h.a.p, 2, none⟩ = some (.pointer (some ⟨h.a.ps, 0, none⟩))) (by kernel_rfl) (by kernel_rfl) ⟨b0, q3, gc, ga, q2⟩ ?_
    first | (refine wpRO_free rfl rfl _ (fun w' => by go_simp; exact Gives.mk _ _) (fun K hK => ?_); go_simp; refine hK _ ?_; clear hK K) | (refine wpRO_skipF rfl rfl (fun K hK => ?_); go_simp; refine hK _ ?_; clear hK K)
    first | (refine wpRO_free rfl rfl _ (fun w' => by go_simp; exact Gives.mk _ _) (fun K hK => ?_); go_simp; refine hK _ ?_; clear hK K) | (refine wpRO_skipF rfl rfl (fun K hK => ?_); go_simp; refine hK _ ?_; clear hK K)
    first | (refine wpRO_free rfl rfl _ (fun w' => by go_simp; exact Gives.mk _ _) (fun K hK => ?_); go_simp; refine hK _ ?_; clear hK K) | (refine wpRO_skipF rfl rfl (fun K hK => ?_); go_simp; refine hK _ ?_; clear hK K)
    first | (refine wpRO_free rfl rfl _ (fun w' => by go_simp; exact Gives.mk _ _) (fun K hK => ?_); go_simp; refine hK _ ?_; clear hK K) | (refine wpRO_skipF rfl rfl (fun K hK => ?_); go_simp; refine hK _ ?_; clear hK K)
    first | (refine wpRO_free rfl rfl _ (fun w' => by go_simp; exact Gives.mk _ _) (fun K hK => ?_); go_simp; refine hK _ ?_; clear hK K) | (refine wpRO_skipF rfl rfl (fun K hK => ?_); go_simp; refine hK _ ?_; clear hK K)
    first | (refine wpRO_free rfl rfl _ (fun w' => by go_simp; exact Gives.mk _ _) (fun K hK => ?_); go_simp; refine hK _ ?_; clear hK K) | (refine wpRO_skipF rfl rfl (fun K hK => ?_); go_simp; refine hK _ ?_; clear hK K)
    first | (refine wpRO_free rfl rfl _ (fun w' => by go_simp; exact Gives.mk _ _) (fun K hK => ?_); go_simp; refine hK _ ?_; clear hK K) | (refine wpRO_skipF rfl rfl (fun K hK => ?_); go_simp; refine hK _ ?_; clear hK K)
    first | (refine wpRO_free rfl rfl _ (fun w' => by go_simp; exact Gives.mk _ _) (fun K hK => ?_); go_simp; refine hK _ ?_; clear hK K) | (refine wpRO_skipF rfl rfl (fun K hK => ?_); go_simp; refine hK _ ?_; clear hK K)
    first | (refine wpRO_free rfl rfl _ (fun w' => by go_simp; exact Gives.mk _ _) (fun K hK => ?_); go_simp; refine hK _ ?_; clear hK K) | (refine wpRO_skipF rfl rfl (fun K hK => ?_); go_simp; refine hK _ ?_; clear hK K)
    first | (refine wpRO_free rfl rfl _ (fun w' => by go_simp; exact Gives.mk _ _) (fun K hK => ?_); go_simp; refine hK _ ?_; clear hK K) | (refine wpRO_skipF rfl rfl (fun K hK => ?_); go_simp; refine hK _ ?_; clear hK K)
    first | (refine wpRO_free rfl rfl _ (fun w' => by go_simp; exact Gives.mk _ _) (fun K hK => ?_); go_simp; refine hK _ ?_; clear hK K) | (refine wpRO_skipF rfl rfl (fun K hK => ?_); go_simp; refine hK _ ?_; clear hK K)
    first | (refine wpRO_free rfl rfl _ (fun w' => by go_simp; exact Gives.mk _ _) (fun K hK => ?_); go_simp; refine hK _ ?_; clear hK K) | (refine wpRO_skipF rfl rfl (fun K hK => ?_); go_simp; refine hK _ ?_; clear hK K)
    first | (refine wpRO_free rfl rfl _ (fun w' => by go_simp; exact Gives.mk _ _) (fun K hK => ?_); go_simp; refine hK _ ?_; clear hK K) | (refine wpRO_skipF rfl rfl (fun K hK => ?_); go_simp; refine hK _ ?_; clear hK K)
    first | (refine wpRO_free rfl rfl _ (fun w' => by go_simp; exact Gives.mk _ _) (fun K hK => ?_); go_simp; refine hK _ ?_; clear hK K) | (refine wpRO_skipF rfl rfl (fun K hK => ?_); go_simp; refine hK _ ?_; clear hK K)
    first | (refine wpRO_free rfl rfl _ (fun w' => by go_simp; exact Gives.mk _ _) (fun K hK => ?_); go_simp; refine hK _ ?_; clear hK K) | (refine wpRO_skipF rfl rfl (fun K hK => ?_); go_simp; refine hK _ ?_; clear hK K)
    first | (refine wpRO_free rfl rfl _ (fun w' => by go_simp; exact Gives.mk _ _) (fun K hK => ?_); go_simp; refine hK _ ?_; clear hK K) | (refine wpRO_skipF rfl rfl (fun K hK => ?_); go_simp; refine hK _ ?_; clear hK K)
    first | (refine wpRO_free rfl rfl _ (fun w' => by go_simp; exact Gives.mk _ _) (fun K hK => ?_); go_simp; refine hK _ ?_; clear hK K) | (refine wpRO_skipF rfl rfl (fun K hK => ?_); go_simp; refine hK _ ?_; clear hK K)
    first | (refine wpRO_free rfl rfl _ (fun w' => by go_simp; exact Gives.mk _ _) (fun K hK => ?_); go_simp; refine hK _ ?_; clear hK K) | (refine wpRO_skipF rfl rfl (fun K hK => ?_); go_simp; refine hK _ ?_; clear hK K)
    first | (refine wpRO_free rfl rfl _ (fun w' => by go_simp; exact Gives.mk _ _) (fun K hK => ?_); go_simp; refine hK _ ?_; clear hK K) | (refine wpRO_skipF rfl rfl (fun K hK => ?_); go_simp; refine hK _ ?_; clear hK K)
    first | (refine wpRO_free rfl rfl _ (fun w' => by go_simp; exact Gives.mk _ _) (fun K hK => ?_); go_simp; refine hK _ ?_; clear hK K) | (refine wpRO_skipF rfl rfl (fun K hK => ?_); go_simp; refine hK _ ?_; clear hK K)
    first | (refine wpRO_free rfl rfl _ (fun w' => by go_simp; exact Gives.mk _ _) (fun K hK => ?_); go_simp; refine hK _ ?_; clear hK K) | (refine wpRO_skipF rfl rfl (fun K hK => ?_); go_simp; refine hK _ ?_; clear hK K)
    first | (refine wpRO_free rfl rfl _ (fun w' => by go_simp; exact Gives.mk _ _) (fun K hK => ?_); go_simp; refine hK _ ?_; clear hK K) | (refine wpRO_skipF rfl rfl (fun K hK => ?_); go_simp; refine hK _ ?_; clear hK K)
    first | (refine wpRO_pure rfl rfl _ (fun w' hG => by obtain ⟨b0, q3, gc, ga, q2⟩ := hG; exact gives_agg2 rfl (by decide +kernel) rfl (by assumption) (by assumption)) (fun K hK => ?_); go_simp; refine hK _ ?_; clear hK K) | (refine wpRO_pure rfl rfl _ (fun w' hG => by obtain ⟨b0, q3, gc, ga, q2⟩ := hG; go_simp; exact Gives.mk _ _) (fun K hK => ?_); go_simp; refine hK _ ?_; clear hK K) | (refine wpRO_skip rfl rfl (fun K hK => ?_); go_simp; refine hK _ ?_; clear hK K)
    first | (refine wpRO_free rfl rfl _ (fun w' => by go_simp; exact Gives.mk _ _) (fun K hK => ?_); go_simp; refine hK _ ?_; clear hK K) | (refine wpRO_skipF rfl rfl (fun K hK => ?_); go_simp; refine hK _ ?_; clear hK K)
    first | (refine wpRO_free rfl rfl _ (fun w' => by go_simp; exact Gives.mk _ _) (fun K hK => ?_); go_simp; refine hK _ ?_; clear hK K) | (refine wpRO_skipF rfl rfl (fun K hK => ?_); go_simp; refine hK _ ?_; clear hK K)
    first | (refine wpRO_pure rfl rfl _ (fun w' hG => by obtain ⟨b0, q3, gc, ga, q2⟩ := hG; exact gives_agg2 rfl (by decide +kernel) rfl (by assumption) (by assumption)) (fun K hK => ?_); go_simp; refine hK _ ?_; clear hK K) | (refine wpRO_pure rfl rfl _ (fun w' hG => by obtain ⟨b0, q3, gc, ga, q2⟩ := hG; go_simp; exact Gives.mk _ _) (fun K hK => ?_); go_simp; refine hK _ ?_; clear hK K) | (refine wpRO_skip rfl rfl (fun K hK => ?_); go_simp; refine hK _ ?_; clear hK K)
    first | (refine wpRO_pure rfl rfl _ (fun w' hG => by obtain ⟨b0, q3, gc, ga, q2⟩ := hG; exact gives_agg2 rfl (by decide +kernel) rfl (by assumption) (by assumption)) (fun K hK => ?_); go_simp; refine hK _ ?_; clear hK K) | (refine wpRO_pure rfl rfl _ (fun w' hG => by obtain ⟨b0, q3, gc, ga, q2⟩ := hG; go_simp; exact Gives.mk _ _) (fun K hK => ?_); go_simp; refine hK _ ?_; clear hK K) | (refine wpRO_skip rfl rfl (fun K hK => ?_); go_simp; refine hK _ ?_; clear hK K)
    first | (refine wpRO_free rfl rfl _ (fun w' => by go_simp; exact Gives.mk _ _) (fun K hK => ?_); go_simp; refine hK _ ?_; clear hK K) | (refine wpRO_skipF rfl rfl (fun K hK => ?_); go_simp; refine hK _ ?_; clear hK K)
    first | (refine wpRO_free rfl rfl _ (fun w' => by go_simp; exact Gives.mk _ _) (fun K hK => ?_); go_simp; refine hK _ ?_; clear hK K) | (refine wpRO_skipF rfl rfl (fun K hK => ?_); go_simp; refine hK _ ?_; clear hK K)
    first | (refine wpRO_pure rfl rfl _ (fun w' hG => by obtain ⟨b0, q3, gc, ga, q2⟩ := hG; exact gives_agg2 rfl (by decide +kernel) rfl (by assumption) (by assumption)) (fun K hK => ?_); go_simp; refine hK _ ?_; clear hK K) | (refine wpRO_pure rfl rfl _ (fun w' hG => by obtain ⟨b0, q3, gc, ga, q2⟩ := hG; go_simp; exact Gives.mk _ _) (fun K hK => ?_); go_simp; refine hK _ ?_; clear hK K) | (refine wpRO_skip rfl rfl (fun K hK => ?_); go_simp; refine hK _ ?_; clear hK K)
    first | (refine wpRO_free rfl rfl _ (fun w' => by go_simp; exact Gives.mk _ _) (fun K hK => ?_); go_simp; refine hK _ ?_; clear hK K) | (refine wpRO_skipF rfl rfl (fun K hK => ?_); go_simp; refine hK _ ?_; clear hK K)
    first | (refine wpRO_pure rfl rfl _ (fun w' hG => by obtain ⟨b0, q3, gc, ga, q2⟩ := hG; exact gives_agg2 rfl (by decide +kernel) rfl (by assumption) (by assumption)) (fun K hK => ?_); go_simp; refine hK _ ?_; clear hK K) | (refine wpRO_pure rfl rfl _ (fun w' hG => by obtain ⟨b0, q3, gc, ga, q2⟩ := hG; go_simp; exact Gives.mk _ _) (fun K hK => ?_); go_simp; refine hK _ ?_; clear hK K) | (refine wpRO_skip rfl rfl (fun K hK => ?_); go_simp; refine hK _ ?_; clear hK K)
    first | (refine wpRO_pure rfl rfl _ (fun w' hG => by obtain ⟨b0, q3, gc, ga, q2⟩ := hG; exact gives_agg2 rfl (by decide +kernel) rfl (by assumption) (by assumption)) (fun K hK => ?_); go_simp; refine hK _ ?_; clear hK K) | (refine wpRO_pure rfl rfl _ (fun w' hG => by obtain ⟨b0, q3, gc, ga, q2⟩ := hG; go_simp; exact Gives.mk _ _) (fun K hK => ?_); go_simp; refine hK _ ?_; clear hK K) | (refine wpRO_skip rfl rfl (fun K hK => ?_); go_simp; refine hK _ ?_; clear hK K)
    first | (refine wpRO_free rfl rfl _ (fun w' => by go_simp; exact Gives.mk _ _) (fun K hK => ?_); go_simp; refine hK _ ?_; clear hK K) | (refine wpRO_skipF rfl rfl (fun K hK => ?_); go_simp; refine hK _ ?_; clear hK K)
    first | (refine wpRO_free rfl rfl _ (fun w' => by go_simp; exact Gives.mk _ _) (fun K hK => ?_); go_simp; refine hK _ ?_; clear hK K) | (refine wpRO_skipF rfl rfl (fun K hK => ?_); go_simp; refine hK _ ?_; clear hK K)
    first | (refine wpRO_pure rfl rfl _ (fun w' hG => by obtain ⟨b0, q3, gc, ga, q2⟩ := hG; exact gives_agg2 rfl (by decide +kernel) rfl (by assumption) (by assumption)) (fun K hK => ?_); go_simp; refine hK _ ?_; clear hK K) | (refine wpRO_pure rfl rfl _ (fun w' hG => by obtain ⟨b0, q3, gc, ga, q2⟩ := hG; go_simp; exact Gives.mk _ _) (fun K hK => ?_); go_simp; refine hK _ ?_; clear hK K) | (refine wpRO_skip rfl rfl (fun K hK => ?_); go_simp; refine hK _ ?_; clear hK K)
    first | (refine wpRO_free rfl rfl _ (fun w' => by go_simp; exact Gives.mk _ _) (fun K hK => ?_); go_simp; refine hK _ ?_; clear hK K) | (refine wpRO_skipF rfl rfl (fun K hK => ?_); go_simp; refine hK _ ?_; clear hK K)
    first | (refine wpRO_pure rfl rfl _ (fun w' hG => by obtain ⟨b0, q3, gc, ga, q2⟩ := hG; exact gives_agg2 rfl (by decide +kernel) rfl (by assumption) (by assumption)) (fun K hK => ?_); go_simp; refine hK _ ?_; clear hK K) | (refine wpRO_pure rfl rfl _ (fun w' hG => by obtain ⟨b0, q3, gc, ga, q2⟩ := hG; go_simp; exact Gives.mk _ _) (fun K hK => ?_); go_simp; refine hK _ ?_; clear hK K) | (refine wpRO_skip rfl rfl (fun K hK => ?_); go_simp; refine hK _ ?_; clear hK K)
    first | (refine wpRO_free rfl rfl _ (fun w' => by go_simp; exact Gives.mk _ _) (fun K hK => ?_); go_simp; refine hK _ ?_; clear hK K) | (refine wpRO_skipF rfl rfl (fun K hK => ?_); go_simp; refine hK _ ?_; clear hK K)
    refine wpRO_chg rfl rfl rfl (fun K hK => ?_); unfold gRun; go_simp
    refine HREG.out.mono ?_
    rintro e5 w5 ⟨rfl, hk⟩
    refine hK _ _ ?_
    clear hK K
    refine wpRO_swi (fun _ => True) trivial ?_
    first | (refine wpRO_free rfl rfl _ (fun w' => by go_simp; exact Gives.mk _ _) (fun K hK => ?_); go_simp; refine hK _ ?_; clear hK K) | (refine wpRO_skipF rfl rfl (fun K hK => ?_); go_simp; refine hK _ ?_; clear hK K)
    first | (refine wpRO_free rfl rfl _ (fun w' => by go_simp; exact Gives.mk _ _) (fun K hK => ?_); go_simp; refine hK _ ?_; clear hK K) | (refine wpRO_skipF rfl rfl (fun K hK => ?_); go_simp; refine hK _ ?_; clear hK K)
    refine wpRO_fin ?_
    have kk : Keeps (fun _ => False) w3 w5 := (Keeps.refl (fun _ => False) w3).drew.trans hk
    have HB4 := Lib.hid (HB3.out.same kk)
    have K4 := Lib.hid (K3.out.trans (kk.mono (fun _ _ h => h.elim)))
    clear hk kk b0 b1 bl q0 q2 q3 ql gl gf gc ga
    obtain ⟨b0, b1, bl⟩ := HB4.out.pcells
    go_wp2_with fail
    refine (HDO.out _ HB4.out.R).mono ?_
    rintro e6 w6 ⟨rfl, ht⟩
    have TO := Lib.hid (BothTo.from_keep K4.out (BothTo.world HB4.out ht))
    clear ht b0 b1 bl
    go_wp2_with fail
    go_ret
    unfold BothDoRet
    rw [HWO2.out, HWD.out]
    exact ⟨by by_cases hz : dc = 0 <;> simp [hz], TO.out⟩
  · have HWO2 := Lib.hid (show woC O 5 xa xb a c = (0, { O with rg := O.rg ++ [(vc, va)] }) by rw [HWO.out, HRG.out, if_neg h24]; rfl)
    have HOK := Lib.hid (HB3.out.H.ok.regs HRc.out HRa.out h24)
    have hreg := Reg_room h.a.ps h.a.rv h.a.wv O.rg O.wt vc va (w3.drew) (hsd.keep (Keeps.refl (fun _ => False) w3).drew (fun _ _ h => h)) (by omega) (by omega) h24
    have HREG := Lib.hid hreg
    clear hreg hsd h24
    go_wp2_with fail
    refine wp_region_ro (.free 0 (.free 1 (.free 2 (.free 3 (.free 4 (.free 5 (.free 6 (.free 7 (.free 8 (.free 9 (.free 10 (.free 11 (.free 12 (.free 13 (.free 18 (.free 19 (.free 20 (.free 25 (.free 28 (.free 29 (.free 30 (.free 35 (.pure 14 (.free 15 (.free 16 (.pure 17 (.pure 21 (.free 22 (.free 23 (.pure 24 (.free 26 (.pure 27 (.pure 31 (.free 32 (.free 33 (.pure 34 (.free 36 (.pure 37 (.free 38 (.run 39 (.swi [] (.free 40 (.free 41 (.fin)))))))))))))))))))))))))))))))))))))))))))) [39, 40, 41] (fun w' => w'.cell? ⟨h.p, 0, none⟩ = some (.pointer (some ⟨h.a.p, 0, none⟩)) ∧ w'.cell? ⟨h.a.p, 3, none⟩ = some (.slice (some ⟨g, o, none⟩) 12 cap) ∧ w'.cell? ⟨g, o + c, none⟩ = some (.int .i64 vc) ∧ w'.cell? ⟨g, o + a, none⟩ = some (.int .i64 va) ∧ w'.cell? ⟨h.a.p, 2, none⟩ = some (.pointer (some ⟨h.a.ps, 0, none⟩))) (by kernel_rfl) (by kernel_rfl) ⟨b0, q3, gc, ga, q2⟩ ?_
    first | (refine wpRO_free rfl rfl _ (fun w' => by go_simp; exact Gives.mk _ _) (fun K hK => ?_); go_simp; refine hK _ ?_; clear hK K) | (refine wpRO_skipF rfl rfl (fun K hK => ?_); go_simp; refine hK _ ?_; clear hK K)
    first | (refine wpRO_free rfl rfl _ (fun w' => by go_simp; exact Gives.mk _ _) (fun K hK => ?_); go_simp; refine hK _ ?_; clear hK K) | (refine wpRO_skipF rfl rfl (fun K hK => ?_); go_simp; refine hK _ ?_; clear hK K)
    first | (refine wpRO_free rfl rfl _ (fun w' => by go_simp; exact Gives.mk _ _) (fun K hK => ?_); go_simp; refine hK _ ?_; clear hK K) | (refine wpRO_skipF rfl rfl (fun K hK => ?_); go_simp; refine hK _ ?_; clear hK K)
    first | (refine wpRO_free rfl rfl _ (fun w' => by go_simp; exact Gives.mk _ _) (fun K hK => ?_); go_simp; refine hK _ ?_; clear hK K) | (refine wpRO_skipF rfl rfl (fun K hK => ?_); go_simp; refine hK _ ?_; clear hK K)
    first | (refine wpRO_free rfl rfl _ (fun w' => by go_simp; exact Gives.mk _ _) (fun K hK => ?_); go_simp; refine hK _ ?_; clear hK K) | (refine wpRO_skipF rfl rfl (fun K hK => ?_); go_simp; refine hK _ ?_; clear hK K)
    first | (refine wpRO_free rfl rfl _ (fun w' => by go_simp; exact Gives.mk _ _) (fun K hK => ?_); go_simp; refine hK _ ?_; clear hK K) | (refine wpRO_skipF rfl rfl (fun K hK => ?_); go_simp; refine hK _ ?_; clear hK K)
    first | (refine wpRO_free rfl rfl _ (fun w' => by go_simp; exact Gives.mk _ _) (fun K hK => ?_); go_simp; refine hK _ ?_; clear hK K) | (refine wpRO_skipF rfl rfl (fun K hK => ?_); go_simp; refine hK _ ?_; clear hK K)
    first | (refine wpRO_free rfl rfl _ (fun w' => by go_simp; exact Gives.mk _ _) (fun K hK => ?_); go_simp; refine hK _ ?_; clear hK K) | (refine wpRO_skipF rfl rfl (fun K hK => ?_); go_simp; refine hK _ ?_; clear hK K)
    first | (refine wpRO_free rfl rfl _ (fun w' => by go_simp; exact Gives.mk _ _) (fun K hK => ?_); go_simp; refine hK _ ?_; clear hK K) | (refine wpRO_skipF rfl rfl (fun K hK => ?_); go_simp; refine hK _ ?_; clear hK K)
    first | (refine wpRO_free rfl rfl _ (fun w' => by go_simp; exact Gives.mk _ _) (fun K hK => ?_); go_simp; refine hK _ ?_; clear hK K) | (refine wpRO_skipF rfl rfl (fun K hK => ?_); go_simp; refine hK _ ?_; clear hK K)
    first | (refine wpRO_free rfl rfl _ (fun w' => by go_simp; exact Gives.mk _ _) (fun K hK => ?_); go_simp; refine hK _ ?_; clear hK K) | (refine wpRO_skipF rfl rfl (fun K hK => ?_); go_simp; refine hK _ ?_; clear hK K)
    first | (refine wpRO_free rfl rfl _ (fun w' => by go_simp; exact Gives.mk _ _) (fun K hK => ?_); go_simp; refine hK _ ?_; clear hK K) | (refine wpRO_skipF rfl rfl (fun K hK => ?_); go_simp; refine hK _ ?_; clear hK K)
    first | (refine wpRO_free rfl rfl _ (fun w' => by go_simp; exact Gives.mk _ _) (fun K hK => ?_); go_simp; refine hK _ ?_; clear hK K) | (refine wpRO_skipF rfl rfl (fun K hK => ?_); go_simp; refine hK _ ?_; clear hK K)
    first | (refine wpRO_free rfl rfl _ (fun w' => by go_simp; exact Gives.mk _ _) (fun K hK => ?_); go_simp; refine hK _ ?_; clear hK K) | (refine wpRO_skipF rfl rfl (fun K hK => ?_); go_simp; refine hK _ ?_; clear hK K)
    first | (refine wpRO_free rfl rfl _ (fun w' => by go_simp; exact Gives.mk _ _) (fun K hK => ?_); go_simp; refine hK _ ?_; clear hK K) | (refine wpRO_skipF rfl rfl (fun K hK => ?_); go_simp; refine hK _ ?_; clear hK K)
    first | (refine wpRO_free rfl rfl _ (fun w' => by go_simp; exact Gives.mk _ _) (fun K hK => ?_); go_simp; refine hK _ ?_; clear hK K) | (refine wpRO_skipF rfl rfl (fun K hK => ?_); go_simp; refine hK _ ?_; clear hK K)
    first | (refine wpRO_free rfl rfl _ (fun w' => by go_simp; exact Gives.mk _ _) (fun K hK => ?_); go_simp; refine hK _ ?_; clear hK K) | (refine wpRO_skipF rfl rfl (fun K hK => ?_); go_simp; refine hK _ ?_; clear hK K)
    first | (refine wpRO_free rfl rfl _ (fun w' => by go_simp; exact Gives.mk _ _) (fun K hK => ?_); go_simp; refine hK _ ?_; clear hK K) | (refine wpRO_skipF rfl rfl (fun K hK => ?_); go_simp; refine hK _ ?_; clear hK K)
    first | (refine wpRO_free rfl rfl _ (fun w' => by go_simp; exact Gives.mk _ _) (fun K hK => ?_); go_simp; refine hK _ ?_; clear hK K) | (refine wpRO_skipF rfl rfl (fun K hK => ?_); go_simp; refine hK _ ?_; clear hK K)
    first | (refine wpRO_free rfl rfl _ (fun w' => by go_simp; exact Gives.mk _ _) (fun K hK => ?_); go_simp; refine hK _ ?_; clear hK K) | (refine wpRO_skipF rfl rfl (fun K hK => ?_); go_simp; refine hK _ ?_; clear hK K)
    first | (refine wpRO_free rfl rfl _ (fun w' => by go_simp; exact Gives.mk _ _) (fun K hK => ?_); go_simp; refine hK _ ?_; clear hK K) | (refine wpRO_skipF rfl rfl (fun K hK => ?_); go_simp; refine hK _ ?_; clear hK K)
    first | (refine wpRO_free rfl rfl _ (fun w' => by go_simp; exact Gives.mk _ _) (fun K hK => ?_); go_simp; refine hK _ ?_; clear hK K) | (refine wpRO_skipF rfl rfl (fun K hK => ?_); go_simp; refine hK _ ?_; clear hK K)
    first | (refine wpRO_pure rfl rfl _ (fun w' hG => by obtain ⟨b0, q3, gc, ga, q2⟩ := hG; exact gives_agg2 rfl (by decide +kernel) rfl (by assumption) (by assumption)) (fun K hK => ?_); go_simp; refine hK _ ?_; clear hK K) | (refine wpRO_pure rfl rfl _ (fun w' hG => by obtain ⟨b0, q3, gc, ga, q2⟩ := hG; go_simp; exact Gives.mk _ _) (fun K hK => ?_); go_simp; refine hK _ ?_; clear hK K) | (refine wpRO_skip rfl rfl (fun K hK => ?_); go_simp; refine hK _ ?_; clear hK K)
    first | (refine wpRO_free rfl rfl _ (fun w' => by go_simp; exact Gives.mk _ _) (fun K hK => ?_); go_simp; refine hK _ ?_; clear hK K) | (refine wpRO_skipF rfl rfl (fun K hK => ?_); go_simp; refine hK _ ?_; clear hK K)
    first | (refine wpRO_free rfl rfl _ (fun w' => by go_simp; exact Gives.mk _ _) (fun K hK => ?_); go_simp; refine hK _ ?_; clear hK K) | (refine wpRO_skipF rfl rfl (fun K hK => ?_); go_simp; refine hK _ ?_; clear hK K)
    first | (refine wpRO_pure rfl rfl _ (fun w' hG => by obtain ⟨b0, q3, gc, ga, q2⟩ := hG; exact gives_agg2 rfl (by decide +kernel) rfl (by assumption) (by assumption)) (fun K hK => ?_); go_simp; refine hK _ ?_; clear hK K) | (refine wpRO_pure rfl rfl _ (fun w' hG => by obtain ⟨b0, q3, gc, ga, q2⟩ := hG; go_simp; exact Gives.mk _ _) (fun K hK => ?_); go_simp; refine hK _ ?_; clear hK K) | (refine wpRO_skip rfl rfl (fun K hK => ?_); go_simp; refine hK _ ?_; clear hK K)
    first | (refine wpRO_pure rfl rfl _ (fun w' hG => by obtain ⟨b0, q3, gc, ga, q2⟩ := hG; exact gives_agg2 rfl (by decide +kernel) rfl (by assumption) (by assumption)) (fun K hK => ?_); go_simp; refine hK _ ?_; clear hK K) | (refine wpRO_pure rfl rfl _ (fun w' hG => by obtain ⟨b0, q3, gc, ga, q2⟩ := hG; go_simp; exact Gives.mk _ _) (fun K hK => ?_); go_simp; refine hK _ ?_; clear hK K) | (refine wpRO_skip rfl rfl (fun K hK => ?_); go_simp; refine hK _ ?_; clear hK K)
    first | (refine wpRO_free rfl rfl _ (fun w' => by go_simp; exact Gives.mk _ _) (fun K hK => ?_); go_simp; refine hK _ ?_; clear hK K) | (refine wpRO_skipF rfl rfl (fun K hK => ?_); go_simp; refine hK _ ?_; clear hK K)
    first | (refine wpRO_free rfl rfl _ (fun w' => by go_simp; exact Gives.mk _ _) (fun K hK => ?_); go_simp; refine hK _ ?_; clear hK K) | (refine wpRO_skipF rfl rfl (fun K hK => ?_); go_simp; refine hK _ ?_; clear hK K)
    first | (refine wpRO_pure rfl rfl _ (fun w' hG => by obtain ⟨b0, q3, gc, ga, q2⟩ := hG; exact gives_agg2 rfl (by decide +kernel) rfl (by assumption) (by assumption)) (fun K hK => ?_); go_simp; refine hK _ ?_; clear hK K) | (refine wpRO_pure rfl rfl _ (fun w' hG => by obtain ⟨b0, q3, gc, ga, q2⟩ := hG; go_simp; exact Gives.mk _ _) (fun K hK => ?_); go_simp; refine hK _ ?_; clear hK K) | (refine wpRO_skip rfl rfl (fun K hK => ?_); go_simp; refine hK _ ?_; clear hK K)
    first | (refine wpRO_free rfl rfl _ (fun w' => by go_simp; exact Gives.mk _ _) (fun K hK => ?_); go_simp; refine hK _ ?_; clear hK K) | (refine wpRO_skipF rfl rfl (fun K hK => ?_); go_simp; refine hK _ ?_; clear hK K)
    first | (refine wpRO_pure rfl rfl _ (fun w' hG => by obtain ⟨b0, q3, gc, ga, q2⟩ := hG; exact gives_agg2 rfl (by decide +kernel) rfl (by assumption) (by assumption)) (fun K hK => ?_); go_simp; refine hK _ ?_; clear hK K) | (refine wpRO_pure rfl rfl _ (fun w' hG => by obtain ⟨b0, q3, gc, ga, q2⟩ := hG; go_simp; exact Gives.mk _ _) (fun K hK => ?_); go_simp; refine hK _ ?_; clear hK K) | (refine wpRO_skip rfl rfl (fun K hK => ?_); go_simp; refine hK _ ?_; clear hK K)
    first | (refine wpRO_pure rfl rfl _ (fun w' hG => by obtain ⟨b0, q3, gc, ga, q2⟩ := hG; exact gives_agg2 rfl (by decide +kernel) rfl (by assumption) (by assumption)) (fun K hK => ?_); go_simp; refine hK _ ?_; clear hK K) | (refine wpRO_pure rfl rfl _ (fun w' hG => by obtain ⟨b0, q3, gc, ga, q2⟩ := hG; go_simp; exact Gives.mk _ _) (fun K hK => ?_); go_simp; refine hK _ ?_; clear hK K) | (refine wpRO_skip rfl rfl (fun K hK => ?_); go_simp; refine hK _ ?_; clear hK K)
    first | (refine wpRO_free rfl rfl _ (fun w' => by go_simp; exact Gives.mk _ _) (fun K hK => ?_); go_simp; refine hK _ ?_; clear hK K) | (refine wpRO_skipF rfl rfl (fun K hK => ?_); go_simp; refine hK _ ?_; clear hK K)
    first | (refine wpRO_free rfl rfl _ (fun w' => by go_simp; exact Gives.mk _ _) (fun K hK => ?_); go_simp; refine hK _ ?_; clear hK K) | (refine wpRO_skipF rfl rfl (fun K hK => ?_); go_simp; refine hK _ ?_; clear hK K)
    first | (refine wpRO_pure rfl rfl _ (fun w' hG => by obtain ⟨b0, q3, gc, ga, q2⟩ := hG; exact gives_agg2 rfl (by decide +kernel) rfl (by assumption) (by assumption)) (fun K hK => ?_); go_simp; refine hK _ ?_; clear hK K) | (refine wpRO_pure rfl rfl _ (fun w' hG => by obtain ⟨b0, q3, gc, ga, q2⟩ := hG; go_simp; exact Gives.mk _ _) (fun K hK => ?_); go_simp; refine hK _ ?_; clear hK K) | (refine wpRO_skip rfl rfl (fun K hK => ?_); go_simp; refine hK _ ?_; clear hK K)
    first | (refine wpRO_free rfl rfl _ (fun w' => by go_simp; exact Gives.mk _ _) (fun K hK => ?_); go_simp; refine hK _ ?_; clear hK K) | (refine wpRO_skipF rfl rfl (fun K hK => ?_); go_simp; refine hK _ ?_; clear hK K)
    first | (refine wpRO_pure rfl rfl _ (fun w' hG => by obtain ⟨b0, q3, gc, ga, q2⟩ := hG; exact gives_agg2 rfl (by decide +kernel) rfl (by assumption) (by assumption)) (fun K hK => ?_); go_simp; refine hK _ ?_; clear hK K) | (refine wpRO_pure rfl rfl _ (fun w' hG => by obtain ⟨b0, q3, gc, ga, q2⟩ := hG; go_simp; exact Gives.mk _ _) (fun K hK => ?_); go_simp; refine hK _ ?_; clear hK K) | (refine wpRO_skip rfl rfl (fun K hK => ?_); go_simp; refine hK _ ?_; clear hK K)
    first | (refine wpRO_free rfl rfl _ (fun w' => by go_simp; exact Gives.mk _ _) (fun K hK => ?_); go_simp; refine hK _ ?_; clear hK K) | (refine wpRO_skipF rfl rfl (fun K hK => ?_); go_simp; refine hK _ ?_; clear hK K)
    refine wpRO_chg rfl rfl rfl (fun K hK => ?_); unfold gRun; go_simp
    refine HREG.out.mono ?_
    rintro e5 w5 ⟨rfl, hs5⟩
    refine hK _ _ ?_
    clear hK K
    refine wpRO_swi (fun _ => True) trivial ?_
    first | (refine wpRO_free rfl rfl _ (fun w' => by go_simp; exact Gives.mk _ _) (fun K hK => ?_); go_simp; refine hK _ ?_; clear hK K) | (refine wpRO_skipF rfl rfl (fun K hK => ?_); go_simp; refine hK _ ?_; clear hK K)
    first | (refine wpRO_free rfl rfl _ (fun w' => by go_simp; exact Gives.mk _ _) (fun K hK => ?_); go_simp; refine hK _ ?_; clear hK K) | (refine wpRO_skipF rfl rfl (fun K hK => ?_); go_simp; refine hK _ ?_; clear hK K)
    refine wpRO_fin ?_
    have hto := BothTo.wood (HB3.out.same (Keeps.refl (fun _ => False) w3).drew) ((HB3.out.H.keep (Keeps.refl (fun _ => False) w3).drew (fun _ _ h => h)).sideTo hs5 HOK.out)
    obtain ⟨h4, B4, ep, k4, o4⟩ := BothTo.from_keep K3.out.drew hto
    have HB4 := Lib.hid B4; have K4 := Lib.hid k4; have O4 := Lib.hid o4; have EP := Lib.hid ep
    clear hto B4 k4 o4 hs5 b0 b1 bl q0 q2 q3 ql gl gf gc ga
    obtain ⟨b0, b1, bl⟩ := HB4.out.pcells
    rw [ep] at b0 b1 bl
    clear ep
    go_wp2_with fail
    refine (HDO2.out _ _ HB4.out.R).mono ?_
    rintro e6 w6 ⟨rfl, ht⟩
    have TO := Lib.hid (BothTo.world HB4.out ht)
    clear ht b0 b1 bl
    go_wp2_with fail
    go_ret
    unfold BothDoRet
    rw [HWO2.out, HWD.out]
    refine ⟨by by_cases hz : dc = 0 <;> simp [hz], ?_⟩
    obtain ⟨h6, B6, ep6, k6, o6⟩ := TO.out
    refine ⟨h6, B6, ep6.trans EP.out, K4.out.then k6 O4.out, fun b hb => ?_⟩
    rcases o6 b hb with h1 | h1
    · exact O4.out b h1
    · exact .inr (Nat.le_trans K4.out.size h1)

end

end Go.Proofs.Ytjifdalflepcoab

namespace Go.Proofs.Ytjifdalflepcoab
open Go.RowKit
set_option linter.unusedVariables false
set_option linter.unusedSimpArgs false

/-- The blocks F have none in common with the Side's. -/
def Apart (F : Nat → Prop) (p : Nat) (rv wv : Value) : Prop := ∀ k, ¬ (F k ∧ SideFp p rv wv k)

/-- Alive, Keep and Now, of a state t that stands in memory (J, in the blocks F), for the Side at p. -/
structure Liv (P : Program) (p : Nat) (τ : Type) where
  J : World → τ → (Nat → Prop) → Prop
  D : τ → Int → Prop
  DK : τ → Int → Prop
  alive : τ → Int → Bool
  keep : τ → List (Int × Int) → Int → τ × List (Int × Int) × Int
  now : τ → Int → Int
  fa : FuncId
  fk : FuncId
  fn : FuncId
  a1 : Array Value
  a2 : Array Value
  k1 : Array Value
  k2 : Array Value
  n1 : Array Value
  n2 : Array Value
  ea : ∀ (args : Array Value) (w : World), (callFunc fa args).run P w = .ok (.enter fa args) w
  ek : ∀ (args : Array Value) (w : World), (callFunc fk args).run P w = .ok (.enter fk args) w
  en : ∀ (args : Array Value) (w : World), (callFunc fn args).run P w = .ok (.enter fn args) w
  J_keep : ∀ {w w' t F S}, J w t F → Keeps S w w' → (∀ k, F k → ¬ S k) → J w' t F
  J_lt : ∀ {w t F k}, J w t F → F k → k < w.heap.size
  alive_c : ∀ (w t F x), J w t F → D t x → Calls P fa (a1.push (.int .i64 x) ++ a2) w fun e w' => e = .returned (.bool (alive t x)) ∧ Keeps (fun _ => False) w w'
  now_c : ∀ (w t F x), J w t F → D t x → Calls P fn (n1.push (.int .i64 x) ++ n2) w fun e w' => e = .returned (.int .i64 (now t x)) ∧ Keeps (fun _ => False) w w'
  keep_c : ∀ (w t F rv wv regs wait x), J w t F → SideAt w p rv wv regs wait → Apart F p rv wv → DK t x → (∀ e ∈ wait, D t e.1 ∧ D t e.2) → wait.length ≤ 1000000 →
    Calls P fk (k1.push (.int .i64 x) ++ k2) w fun e w' => e = .returned (.int .i64 (keep t wait x).2.2) ∧ ∃ F', J w' (keep t wait x).1 F' ∧ SideAt w' p rv wv regs (keep t wait x).2.1 ∧ Apart F' p rv wv ∧
      Keeps (fun k => F k ∨ SideFp p rv wv k) w w' ∧ ∀ k, F' k → F k ∨ w.heap.size ≤ k
  DK_D : ∀ {t x}, DK t x → D t x
  DK_keep : ∀ {t wait x y}, DK t x → DK t y → DK (keep t wait x).1 y
  D_keep : ∀ {t wait x y}, DK t x → D t y → D (keep t wait x).1 y
  D_new : ∀ {t wait x}, DK t x → D (keep t wait x).1 (keep t wait x).2.2
  D_wait : ∀ {t wait x}, DK t x → (∀ e ∈ wait, D t e.1 ∧ D t e.2) → ∀ e ∈ (keep t wait x).2.1, D (keep t wait x).1 e.1 ∧ D (keep t wait x).1 e.2
  keep_len : ∀ {t wait x}, (keep t wait x).2.1.length = wait.length

/-- The struct Living, as a value. -/
def Liv.val {P : Program} {p : Nat} {τ : Type} (L : Liv P p τ) : Value :=
  .agg #[.func (.func L.fa) L.a1 L.a2, .func (.func L.fk) L.k1 L.k2, .func (.func L.fn) L.n1 L.n2]

variable {τ : Type}

theorem entV_app (a b : List (Int × Int)) : entV (a ++ b) = entV a ++ entV b := by simp [entV]

theorem entV_set (pre rest : List (Int × Int)) (v : Int × Int) (x : Int) : entV (pre ++ (v.1, x) :: rest) = (entV (pre ++ v :: rest)).set (pre.length * 2 + 1) (.int .i64 x) := by
  rw [entV_app, entV_app, entV_cons, entV_cons, List.set_append_right _ _ (by rw [entV_length]; omega), entV_length, show pre.length * 2 + 1 - pre.length * 2 = 1 by omega]
  rfl

theorem SideAt.setThing {w : World} {p g o cap n : Nat} {rv : Value} {regs pre rest : List (Int × Int)} {v : Int × Int} (x : Int) (h : SideAt w p rv (.slice (some ⟨g, o, none⟩) n cap) regs (pre ++ v :: rest)) :
    SideAt (w.setCell ⟨g, o + pre.length * 2 + 1, none⟩ (.int .i64 x)) p rv (.slice (some ⟨g, o, none⟩) n cap) regs (pre ++ (v.1, x) :: rest) := by
  have hpg : p ≠ g := fun e => h.pw (by subst e; rfl)
  have hk := (Keeps.refl (· = g) w).setCell (p := ⟨g, o + pre.length * 2 + 1, none⟩) (.inl rfl) (.int .i64 x)
  refine ⟨h.hp.setOther (a := ⟨g, _, none⟩) hpg _, h.hr.keep hk (by rintro b hb rfl; exact h.ap b ⟨hb, rfl⟩), ?_, h.ap⟩
  have hlen : (pre ++ (v.1, x) :: rest).length = (pre ++ v :: rest).length := by simp
  obtain ⟨g', o', cap', cur, e, hb, h1, h2, h3, h4⟩ := h.hw.laid (by simp; omega)
  cases e
  rw [hlen]
  refine ⟨by rw [entV_length, hlen], .inr ⟨g, o, cap, _, rfl, hb.setSame _ _, h1, h2, by simpa using h3, ?_⟩⟩
  rw [entV_set, ← h4]
  apply List.ext_getElem?
  intro j
  simp only [List.getElem?_take, List.getElem?_drop, List.getElem?_set, List.length_set, List.length_take, List.length_drop]
  by_cases hj : j < (pre ++ v :: rest).length * 2
  · rw [if_pos hj, if_pos hj]
    by_cases e : pre.length * 2 + 1 = j
    · subst e
      have hl : (pre ++ v :: rest).length = pre.length + 1 + rest.length := by simp; omega
      rw [if_pos (by omega), if_pos rfl, if_pos (by omega), if_pos (by omega)]
    · rw [if_neg (by omega), if_neg e]
  · rw [if_neg hj]
    by_cases e : pre.length * 2 + 1 = j
    · rw [if_pos e, if_neg (by omega)]
    · rw [if_neg e, if_neg hj]

/-- In the midst of Wake: k entries have been gone over. -/
def WakeIn {P : Program} {p : Nat} (L : Liv P p τ) (kp : τ → Int → τ × Int) (t : τ) (F : Nat → Prop) (rv wv : Value) (regs wait : List (Int × Int)) (w wr : World) (k : Nat) (woke : Bool) : Prop :=
  ∃ tk Fk pre, pre.length = k ∧ L.J wr tk Fk ∧ SideAt wr p rv wv regs (pre ++ wait.drop k) ∧ Apart Fk p rv wv ∧ Keeps (fun b => F b ∨ SideFp p rv wv b) w wr ∧ (∀ b, Fk b → F b ∨ w.heap.size ≤ b) ∧
    (∀ e ∈ pre ++ wait.drop k, L.D tk e.1 ∧ L.D tk e.2) ∧
    wakeM L.alive kp t wait = ((wakeM L.alive kp tk (wait.drop k)).1, pre ++ (wakeM L.alive kp tk (wait.drop k)).2.1, woke || (wakeM L.alive kp tk (wait.drop k)).2.2)

/-- Behind Wake. -/
def WakeTo {P : Program} {p : Nat} (L : Liv P p τ) (kp : τ → Int → τ × Int) (t : τ) (F : Nat → Prop) (rv wv : Value) (regs wait : List (Int × Int)) (w : World) (e : Ending) (w' : World) : Prop :=
  e = .returned (.bool (wakeM L.alive kp t wait).2.2) ∧ ∃ F', L.J w' (wakeM L.alive kp t wait).1 F' ∧ SideAt w' p rv wv regs (wakeM L.alive kp t wait).2.1 ∧ Apart F' p rv wv ∧ Keeps (fun b => F b ∨ SideFp p rv wv b) w w' ∧ (∀ b, F' b → F b ∨ w.heap.size ≤ b) ∧
    (∀ e ∈ (wakeM L.alive kp t wait).2.1, L.D (wakeM L.alive kp t wait).1 e.1 ∧ L.D (wakeM L.alive kp t wait).1 e.2)

theorem WakeIn.skip {P : Program} {p : Nat} {L : Liv P p τ} {kp : τ → Int → τ × Int} {t tk : τ} {F Fk : Nat → Prop} {rv wv : Value} {regs wait pre : List (Int × Int)} {v : Int × Int} {w wr w2 : World} {k : Nat} {woke : Bool}
    (hpk : pre.length = k) (hdr : wait.drop k = v :: wait.drop (k + 1)) (hJ : L.J wr tk Fk) (hS : SideAt wr p rv wv regs (pre ++ v :: wait.drop (k + 1))) (hA : Apart Fk p rv wv) (hK : Keeps (fun b => F b ∨ SideFp p rv wv b) w wr) (hF : ∀ b, Fk b → F b ∨ w.heap.size ≤ b)
    (hD : ∀ e ∈ pre ++ v :: wait.drop (k + 1), L.D tk e.1 ∧ L.D tk e.2)
    (hM : wakeM L.alive kp t wait = ((wakeM L.alive kp tk (v :: wait.drop (k + 1))).1, pre ++ (wakeM L.alive kp tk (v :: wait.drop (k + 1))).2.1, woke || (wakeM L.alive kp tk (v :: wait.drop (k + 1))).2.2))
    (hk2 : Keeps (fun _ => False) wr w2) (hc : (L.alive tk v.1 && !L.alive tk v.2) = false) : WakeIn L kp t F rv wv regs wait w w2 (k + 1) woke := by
  have e : pre ++ v :: wait.drop (k + 1) = (pre ++ [v]) ++ wait.drop (k + 1) := by simp
  refine ⟨tk, Fk, pre ++ [v], by simp [hpk], L.J_keep hJ hk2 (fun _ _ h => h), ?_, hA, hK.trans (hk2.mono fun _ _ h => h.elim), hF, ?_, ?_⟩
  · rw [← e]; exact hS.keep hk2 (fun _ _ h => h)
  · rw [← e]; exact hD
  · rw [hM]
    simp only [wakeM, hc, if_neg (show ¬ (false = true) by decide), List.append_assoc, List.cons_append, List.nil_append]

theorem WakeIn.kept {P : Program} {p : Nat} {L : Liv P p τ} {kp : τ → Int → τ × Int} {t tk : τ} {F Fk F2 : Nat → Prop} {rv wv : Value} {regs wait pre : List (Int × Int)} {v : Int × Int} {w wr w2 : World} {k : Nat} {woke : Bool}
    (hpk : pre.length = k) (hK : Keeps (fun b => F b ∨ SideFp p rv wv b) w wr) (hF : ∀ b, Fk b → F b ∨ w.heap.size ≤ b)
    (hM : wakeM L.alive kp t wait = ((wakeM L.alive kp tk (v :: wait.drop (k + 1))).1, pre ++ (wakeM L.alive kp tk (v :: wait.drop (k + 1))).2.1, woke || (wakeM L.alive kp tk (v :: wait.drop (k + 1))).2.2))
    (hJ : L.J w2 (kp tk v.2).1 F2) (hS : SideAt w2 p rv wv regs (pre ++ (v.1, (kp tk v.2).2) :: wait.drop (k + 1))) (hA : Apart F2 p rv wv) (hk2 : Keeps (fun b => Fk b ∨ SideFp p rv wv b) wr w2) (hF2 : ∀ b, F2 b → Fk b ∨ wr.heap.size ≤ b)
    (hD : ∀ e ∈ pre ++ (v.1, (kp tk v.2).2) :: wait.drop (k + 1), L.D (kp tk v.2).1 e.1 ∧ L.D (kp tk v.2).1 e.2)
    (hc : (L.alive tk v.1 && !L.alive tk v.2) = true) : WakeIn L kp t F rv wv regs wait w w2 (k + 1) true := by
  have e : pre ++ (v.1, (kp tk v.2).2) :: wait.drop (k + 1) = (pre ++ [(v.1, (kp tk v.2).2)]) ++ wait.drop (k + 1) := by simp
  refine ⟨_, F2, pre ++ [(v.1, (kp tk v.2).2)], by simp [hpk], hJ, ?_, hA, hK.then hk2 ?_, ?_, ?_, ?_⟩
  · rw [← e]; exact hS
  · rintro b (h | h)
    · rcases hF b h with h | h
      · exact .inl (.inl h)
      · exact .inr h
    · exact .inl (.inr h)
  · intro b hb
    rcases hF2 b hb with h | h
    · exact hF b h
    · exact .inr (Nat.le_trans hK.size h)
  · rw [← e]; exact hD
  · rw [hM]
    simp only [wakeM, hc, if_true, List.append_assoc, List.cons_append, List.nil_append, Bool.or_true, Bool.true_or]

set_option maxHeartbeats 4000000 in
set_option maxRecDepth 100000 in
theorem Wake_c (p : Nat) (L : Liv Try.prog p τ) (kp : τ → Int → τ × Int) (hsame : ∀ t l x, L.keep t l x = ((kp t x).1, l, (kp t x).2)) (t : τ) (F : Nat → Prop) (rv wv : Value) (regs wait : List (Int × Int)) (w : World)
    (hdk : ∀ t x, L.D t x → L.alive t x = false → L.DK t x) (hJ : L.J w t F) (h : SideAt w p rv wv regs wait) (hap : Apart F p rv wv) (hl : wait.length ≤ 1000000) (hD : ∀ e ∈ wait, L.D t e.1 ∧ L.D t e.2) :
    Calls Try.prog 149 #[.pointer (some ⟨p, 0, none⟩), L.val] w fun e w' => WakeTo L kp t F rv wv regs wait w e w' := by
  obtain ⟨wo, wc, rfl, hrd, _, _⟩ := h.hw.rd
  have c1 := h.hp.cell 1
  simp only [List.getElem?_cons_zero, List.getElem?_cons_succ] at c1
  have hpl := h.hp.lt
  have H := Lib.hid h
  have HSM := Lib.hid hsame; have HDK := Lib.hid hdk; have HJ := Lib.hid hJ; have HA := Lib.hid hap; have HD := Lib.hid hD
  clear h hrd hsame hdk hJ hap hD
  have ea := L.ea; have ek := L.ek; have en := L.en
  generalize hbox : w.alloc (.cells #[.func (.func L.fa) L.a1 L.a2, .func (.func L.fk) L.k1 L.k2, .func (.func L.fn) L.n1 L.n2] 178) = wb
  have hkb : Keeps (fun b => F b ∨ SideFp p rv (.slice wo wait.length wc) b) w wb := by rw [← hbox]; exact (Keeps.refl _ _).alloc _
  have hbb : Blk wb w.heap.size [.func (.func L.fa) L.a1 L.a2, .func (.func L.fk) L.k1 L.k2, .func (.func L.fn) L.n1 L.n2] 178 := by rw [← hbox]; exact Blk.newAt _ rfl rfl
  have hszb : wb.heap.size = w.heap.size + 1 := by rw [← hbox]; simp
  have hkb0 : Keeps (fun _ => False) w wb := by rw [← hbox]; exact (Keeps.refl _ _).alloc _
  have HI : WakeIn L kp t F rv (.slice wo wait.length wc) regs wait wb wb 0 false :=
    ⟨t, F, [], rfl, L.J_keep HJ.out hkb0 (fun _ _ h => h), H.out.keep hkb0 (fun _ _ h => h), HA.out, Keeps.refl _ _, fun b hb => .inl hb, by simpa using HD.out, by simp⟩
  have HKB := Lib.hid hkb; have HBB := Lib.hid hbb; have HSZ := Lib.hid hszb; have HBX := Lib.hid hbox
  clear hkb hbb hszb hkb0 hbox
  unfold Liv.val
  go_enter Try.func149, Try.ntmps149
  go_wp2_with fail
  rw [HBX.out]
  go_loopw [5, 14] (fun v i wr => ∃ (k : Nat) (woke : Bool), k ≤ wait.length ∧ i = .int .i64 k ∧ v = .bool woke ∧ WakeIn L kp t F rv (.slice wo wait.length wc) regs wait wb wr k woke) (fun _ i _ => wait.length - (intOf i).toNat)
  case atStart => exact ⟨0, false, Nat.zero_le _, rfl, rfl, HI⟩
  case round =>
    clear HI c1
    obtain ⟨k, woke, hk, rfl, rfl, tk, Fk, pre, hpk, hJ, hS, hA, hK, hFk, hDk, hM⟩ := hrel
    have GJ := Lib.hid hJ; have GS := Lib.hid hS; have GA := Lib.hid hA; have GK := Lib.hid hK; have GF := Lib.hid hFk; have GD := Lib.hid hDk; have GM := Lib.hid hM; have GP := Lib.hid hpk
    clear hJ hS hA hK hFk hDk hM hpk
    by_cases hlt : k < wait.length
    · have hdr : wait.drop k = wait.getD k (0, 0) :: wait.drop (k + 1) := by
        rw [List.drop_eq_getElem_cons hlt]; simp [List.getD, hlt]
      have hm := GM.out; have hs := GS.out; have hd := GD.out
      have HDR := Lib.hid hdr
      rw [hdr] at hm hs hd
      have hvd := hd (wait.getD k (0, 0)) (by simp)
      have hgt : (pre ++ wait.getD k (0, 0) :: wait.drop (k + 1)).getD k (0, 0) = wait.getD k (0, 0) := by
        simp [List.getD, GP.out]
      have hln : (pre ++ wait.getD k (0, 0) :: wait.drop (k + 1)).length = wait.length := by simp [GP.out]; omega
      generalize wait.getD k (0, 0) = v at *
      obtain ⟨g, o, cap, cur, he, hb, _, _, _, _⟩ := hs.hw.laid (by omega)
      rw [hln] at he
      cases he
      obtain ⟨_, _, e', hrd, _, _⟩ := hs.hw.rd
      rw [hln] at e'
      cases e'
      obtain ⟨g', o', e', hgl, d0, d1⟩ := hrd.ent k (by omega)
      cases e'
      rw [hgt] at d0 d1
      have hbw : w.heap.size < wb.heap.size := by rw [HSZ.out]; omega
      have hbn : ∀ b, (F b ∨ SideFp p rv (.slice (some ⟨g, o, none⟩) wait.length wc) b) → ¬ b = w.heap.size := by
        rintro b (h | h) rfl
        · have := L.J_lt HJ.out h; omega
        · have := H.out.fp_lt h; omega
      have hbx : Blk wr w.heap.size _ _ := GK.out.blk HBB.out (fun h => hbn _ h rfl)
      have HX := Lib.hid hbx; have HM := Lib.hid hm; have HS := Lib.hid hs; have HD := Lib.hid hd; have HV := Lib.hid hvd; have HN := Lib.hid hbn
      have b0 := hbx.cell 0; have b1 := hbx.cell 1
      have bl := hbx.lt
      simp only [List.getElem?_cons_zero, List.getElem?_cons_succ] at b0 b1
      clear hm hs hd hvd hbx hbn hb hrd hgt hdr
      have ALL : Hid (∀ w2, Keeps (fun _ => False) wr w2 → (L.alive tk v.1 && !L.alive tk v.2) = false → WakeIn L kp t F rv (.slice (some ⟨g, o, none⟩) wait.length wc) regs wait wb w2 (k + 1) woke) := fun w2 h1 h2 => WakeIn.skip GP.out HDR.out GJ.out HS.out GA.out GK.out GF.out HD.out HM.out h1 h2
      go_wp2_with fail
      have hk0 := (Keeps.refl (fun _ => False) wr).alloc (.cells #[Value.int IntKind.i64 v.fst, Value.int IntKind.i64 v.snd] 170)
      refine (L.alive_c _ tk Fk v.1 (L.J_keep GJ.out hk0 (fun _ _ h => h)) HV.out.1).mono ?_
      rintro e w1 ⟨rfl, hk1⟩
      have HK1 := Lib.hid (hk0.trans hk1)
      have HE1 := Lib.hid (hk1.blk (Blk.newAt (w := wr) _ rfl rfl) (fun h => h))
      have x0 := (HK1.out.blk HX.out (fun h => h)).cell 0
      have xl := (HK1.out.blk HX.out (fun h => h)).lt
      have e1 := HE1.out.cell 1
      have el := HE1.out.lt
      simp only [List.getElem?_cons_zero, List.getElem?_cons_succ] at x0 e1
      clear hk0 hk1
      cases ha : L.alive tk v.1
      · go_wp2_with fail
        go_roundw
        case rel => exact ⟨k + 1, woke, by omega, by go_num, rfl, ALL.out _ HK1.out (by rw [ha]; rfl)⟩
        case measure => simp [intOf]; omega
      · go_wp2_with fail
        refine (L.alive_c _ tk Fk v.2 (L.J_keep GJ.out HK1.out (fun _ _ h => h)) HV.out.2).mono ?_
        rintro e w2 ⟨rfl, hk2⟩
        have HK2 := Lib.hid (HK1.out.trans hk2)
        have HE2 := Lib.hid (hk2.blk HE1.out (fun h => h))
        clear x0 xl e1 el
        have x0 := (HK2.out.blk HX.out (fun h => h)).cell 1
        have xl := (HK2.out.blk HX.out (fun h => h)).lt
        have e1 := HE2.out.cell 1
        have el := HE2.out.lt
        simp only [List.getElem?_cons_zero, List.getElem?_cons_succ] at x0 e1
        clear hk2
        cases hb : L.alive tk v.2
        · go_wp2_with fail
          refine (L.keep_c _ tk Fk rv _ regs _ v.2 (L.J_keep GJ.out HK2.out (fun _ _ h => h)) (HS.out.keep HK2.out (fun _ _ h => h)) GA.out (HDK.out _ _ HV.out.2 hb) HD.out (by omega)).mono ?_
          rintro e w3 ⟨rfl, F3, hJ3, hS3, hA3, hk3, hF3⟩
          have hdk : ∀ e ∈ pre ++ v :: wait.drop (k + 1), L.D (kp tk v.2).1 e.1 ∧ L.D (kp tk v.2).1 e.2 := by
            intro e he
            have := HD.out e he
            have a1 := L.D_keep (wait := pre ++ v :: wait.drop (k + 1)) (HDK.out _ _ HV.out.2 hb) this.1
            have a2 := L.D_keep (wait := pre ++ v :: wait.drop (k + 1)) (HDK.out _ _ HV.out.2 hb) this.2
            rw [HSM.out] at a1 a2
            exact ⟨a1, a2⟩
          have hdn := L.D_new (wait := pre ++ v :: wait.drop (k + 1)) (HDK.out _ _ HV.out.2 hb)
          have e3 : (L.keep tk (pre ++ v :: wait.drop (k + 1)) v.2).2.2 = (kp tk v.2).2 := by rw [HSM.out]
          rw [e3]
          rw [HSM.out] at hJ3 hS3 hdn
          replace hJ3 : L.J w3 (kp tk v.2).1 F3 := hJ3
          replace hS3 : SideAt w3 p rv (.slice (some ⟨g, o, none⟩) wait.length wc) regs (pre ++ v :: wait.drop (k + 1)) := hS3
          replace hdn : L.D (kp tk v.2).1 (kp tk v.2).2 := hdn
          clear e3
          have hpg : p ≠ g := fun e => hS3.pw (by subst e; rfl)
          obtain ⟨g3, o3, cap3, cur3, he3, hb3, _, _, _, _⟩ := hS3.hw.laid (by omega)
          rw [hln] at he3
          cases he3
          have HS3 := Lib.hid (hS3.setThing (kp tk v.2).2)
          have hk3' : Keeps (fun b => Fk b ∨ SideFp p rv (.slice (some ⟨g, o, none⟩) wait.length wc) b) wr w3 := (HK2.out.mono fun _ _ h => h.elim).trans hk3
          have HF3 : Hid (∀ b, F3 b → Fk b ∨ wr.heap.size ≤ b) := fun b hb => by
            rcases hF3 b hb with h | h
            · exact .inl h
            · exact .inr (Nat.le_trans HK2.out.size h)
          have hng : ¬ F3 g := fun h => hA3 g ⟨h, .inr (.inr rfl)⟩
          have HJ3 := Lib.hid (L.J_keep hJ3 ((Keeps.refl (· = g) w3).setCell (p := ⟨g, o + pre.length * 2 + 1, none⟩) (.inl rfl) (.int .i64 (kp tk v.2).2)) (by rintro b hb rfl; exact hng hb))
          have HK3 := Lib.hid (hk3'.setCell (p := ⟨g, o + pre.length * 2 + 1, none⟩) (.inl (.inr (.inr (.inr rfl)))) (.int .i64 (kp tk v.2).2))
          have HA3 := Lib.hid hA3
          have p1 := hS3.hp.cell 1
          have fz := hb3.free (o + k * 2 + 1)
          obtain ⟨_, _, e3, hrd3, _, _⟩ := hS3.hw.rd
          rw [hln] at e3
          cases e3
          obtain ⟨g3, o3, e3, _, q0, q1⟩ := hrd3.ent k (by omega)
          cases e3
          have gl := hb3.lt
          have pl := hS3.hp.lt
          simp only [List.getElem?_cons_zero, List.getElem?_cons_succ] at p1
          rw [GP.out] at HJ3 HK3 HS3
          have HDN : Hid (∀ e ∈ pre ++ (v.1, (kp tk v.2).2) :: wait.drop (k + 1), L.D (kp tk v.2).1 e.1 ∧ L.D (kp tk v.2).1 e.2) := by
            intro e he
            simp only [List.mem_append, List.mem_cons] at he
            rcases he with he | rfl | he
            · exact hdk e (by simp [he])
            · exact ⟨(hdk v (by simp)).1, hdn⟩
            · exact hdk e (by simp [he])
          have HX3 : Hid (w.heap.size < w3.heap.size) := Nat.lt_of_lt_of_le xl hk3.size
          have hx3 := HX3.out
          clear hrd3 hJ3 hS3 hA3 hk3 hF3 hdk hdn hk3' hng hb3 x0 xl e1 el
          clear HX3
          go_wp2_with fail
          go_roundw
          case rel => exact ⟨k + 1, true, by omega, by go_num, rfl, WakeIn.kept GP.out GK.out GF.out HM.out HJ3.out HS3.out HA3.out HK3.out HF3.out HDN.out (by rw [ha, hb]; rfl)⟩
          case measure => simp [intOf]; omega
        · go_wp2_with fail
          go_roundw
          case rel => exact ⟨k + 1, woke, by omega, by go_num, rfl, ALL.out _ HK2.out (by rw [ha, hb]; rfl)⟩
          case measure => simp [intOf]; omega
    · obtain rfl : k = wait.length := by omega
      go_wp2_with fail
      go_ret
      have hm := GM.out
      have hs := GS.out
      have hd := GD.out
      rw [List.drop_length] at hm hs hd
      simp only [wakeM, List.append_nil, Bool.or_false] at hm hs hd
      refine ⟨by rw [hm]; rfl, Fk, by rw [hm]; exact GJ.out, by rw [hm]; exact hs, GA.out, HKB.out.trans GK.out, fun b hb => ?_, by rw [hm]; exact hd⟩
      rcases GF.out b hb with h | h
      · exact .inl h
      · exact .inr (by rw [HSZ.out] at h; omega)

end Go.Proofs.Ytjifdalflepcoab

namespace Go.Proofs.Ytjifdalflepcoab
open Go.RowKit
set_option linter.unusedVariables false
set_option linter.unusedSimpArgs false
variable {τ : Type}

/-- How many cells of a block are false. -/
def cntF (w : World) (b : Nat) : Nat := match w.heap[b]? with
  | some (.cells c _ _) => (c.toList.filter fun v => match v with | .bool false => true | _ => false).length
  | _ => 0

theorem cntF_blk {w : World} {b : Nat} {l : List It} {T : TypeId} (h : Blk w b (l.map fun i => .bool i.2.2) T) : cntF w b = unN l := by
  unfold Blk at h
  unfold cntF unN
  rw [h]
  simp only [List.filter_map, List.length_map]
  congr 2
  funext i
  simp only [Function.comp]
  cases i.2.2 <;> rfl

def Liv.cells {P : Program} {p : Nat} (L : Liv P p τ) : List Value := [.func (.func L.fa) L.a1 L.a2, .func (.func L.fk) L.k1 L.k2, .func (.func L.fn) L.n1 L.n2]

/-- In the midst of Settle. -/
structure Mid {P : Program} {p : Nat} (L : Liv P p τ) (w : World) (F : Nat → Prop) (rv wv : Value) (b0 b1 b2 : Nat) (items : List It) (q : List (Int × Int)) (t' : τ) (F' : Nat → Prop) (wv' : Value) (wr : World) : Prop where
  hJ : L.J wr t' F'
  hS : SideAt wr p rv wv' (items.map (·.1)) q
  hA : Apart F' p rv wv'
  hK : Keeps (fun b => F b ∨ SideFp p rv wv b) w wr
  hF : ∀ b, F' b → F b ∨ w.heap.size ≤ b
  hO : ∀ b, ownB wv' b → ownB wv b ∨ w.heap.size ≤ b
  h0 : Blk wr b0 L.cells 178
  h1 : Blk wr b1 (items.map fun i => .bool i.2.1) 4
  h2 : Blk wr b2 (items.map fun i => .bool i.2.2) 4
  n0 : ¬ F' b0
  n1 : ¬ F' b1
  n2 : ¬ F' b2
  g0 : w.heap.size ≤ b0
  g1 : w.heap.size ≤ b1
  g2 : w.heap.size ≤ b2
  b12 : b1 ≠ b2
  hq : ∀ e ∈ q, L.D t' e.1 ∧ L.D t' e.2
  hr : ∀ i ∈ items, L.D t' i.1.1 ∧ L.DK t' i.1.2

theorem SideAt.nfp {w : World} {p b : Nat} {rv wv : Value} {regs wait : List (Int × Int)} {c : List Value} {T : TypeId} (h : SideAt w p rv wv regs wait) (hb : Blk w b c T) (h1 : T ≠ 129) (h2 : T ≠ 170) : ¬ SideFp p rv wv b := by
  rintro (rfl | h' | h')
  · exact hb.ne h.hp h1 rfl
  · obtain ⟨_, cur, hc⟩ := h.hr.own h'
    exact hb.ne hc h2 rfl
  · obtain ⟨_, cur, hc⟩ := h.hw.own h'
    exact hb.ne hc h2 rfl

section
variable {P : Program} {p : Nat} {L : Liv P p τ} {w : World} {F : Nat → Prop} {rv wv : Value} {b0 b1 b2 : Nat} {items : List It} {q : List (Int × Int)} {t' : τ} {F' : Nat → Prop} {wv' : Value} {wr : World}

theorem Mid.keep {w2 : World} (h : Mid L w F rv wv b0 b1 b2 items q t' F' wv' wr) (k : Keeps (fun _ => False) wr w2) : Mid L w F rv wv b0 b1 b2 items q t' F' wv' w2 :=
  ⟨L.J_keep h.hJ k (fun _ _ h => h), h.hS.keep k (fun _ _ h => h), h.hA, h.hK.trans (k.mono fun _ _ h => h.elim), h.hF, h.hO, k.blk h.h0 (fun h => h), k.blk h.h1 (fun h => h), k.blk h.h2 (fun h => h), h.n0, h.n1, h.n2, h.g0, h.g1, h.g2, h.b12, h.hq, h.hr⟩

theorem Mid.move {i : It} {a b : List It} (h : Mid L w F rv wv b0 b1 b2 (a ++ i :: b) q t' F' wv' wr) : Mid L w F rv wv b0 b1 b2 (a ++ (i.1, i.2.1, true) :: b) q t' F' wv' (wr.setCell ⟨b2, a.length, none⟩ (.bool true)) := by
  have k := (Keeps.refl (· = b2) wr).setCell (p := ⟨b2, a.length, none⟩) (.inl rfl) (.bool true)
  have hn : ¬ SideFp p rv wv' b2 := h.hS.nfp h.h2 (by decide) (by decide)
  refine ⟨L.J_keep h.hJ k (by rintro b hb rfl; exact h.n2 hb), ?_, h.hA, h.hK.setCell (p := ⟨b2, a.length, none⟩) (.inr h.g2) _, h.hF, h.hO, k.blk h.h0 (fun e => ?_), ?_, ?_, h.n0, h.n1, h.n2, h.g0, h.g1, h.g2, h.b12, h.hq, ?_⟩
  · have := h.hS.keep k (by rintro b hb rfl; exact hn hb)
    simpa using this
  · subst e; exact h.h0.ne h.h2 (by decide) rfl
  · have := k.blk h.h1 h.b12
    simpa using this
  · have := h.h2.setSame a.length (.bool true)
    simpa using this
  · intro j hj
    simp only [List.mem_append, List.mem_cons] at hj
    rcases hj with hj | rfl | hj
    · exact h.hr j (by simp [hj])
    · exact h.hr i (by simp)
    · exact h.hr j (by simp [hj])

theorem Mid.kept {x : Int} {w2 : World} {F2 : Nat → Prop} (h : Mid L w F rv wv b0 b1 b2 items q t' F' wv' wr) (hx : L.DK t' x)
    (hJ : L.J w2 (L.keep t' q x).1 F2) (hS : SideAt w2 p rv wv' (items.map (·.1)) (L.keep t' q x).2.1) (hA : Apart F2 p rv wv') (hk : Keeps (fun k => F' k ∨ SideFp p rv wv' k) wr w2) (hF2 : ∀ k, F2 k → F' k ∨ wr.heap.size ≤ k) :
    Mid L w F rv wv b0 b1 b2 items (L.keep t' q x).2.1 (L.keep t' q x).1 F2 wv' w2 := by
  have out : ∀ {b : Nat} {c : List Value} {T : TypeId}, Blk wr b c T → ¬ F' b → T ≠ 129 → T ≠ 170 → Blk w2 b c T ∧ ¬ F2 b := fun {b c T} hb hn h1 h2 =>
    ⟨hk.blk hb (by rintro (h3 | h3); exact hn h3; exact h.hS.nfp hb h1 h2 h3), fun h3 => by
      rcases hF2 _ h3 with h4 | h4
      · exact hn h4
      · have := hb.lt; omega⟩
  refine ⟨hJ, hS, hA, h.hK.then hk ?_, ?_, h.hO, (out h.h0 h.n0 (by decide) (by decide)).1, (out h.h1 h.n1 (by decide) (by decide)).1, (out h.h2 h.n2 (by decide) (by decide)).1,
    (out h.h0 h.n0 (by decide) (by decide)).2, (out h.h1 h.n1 (by decide) (by decide)).2, (out h.h2 h.n2 (by decide) (by decide)).2, h.g0, h.g1, h.g2, h.b12, L.D_wait hx h.hq, fun i hi => ⟨L.D_keep hx (h.hr i hi).1, L.DK_keep hx (h.hr i hi).2⟩⟩
  · rintro b (hb | hb | hb | hb)
    · rcases h.hF b hb with h1 | h1
      · exact .inl (.inl h1)
      · exact .inr h1
    · exact .inl (.inr (.inl hb))
    · exact .inl (.inr (.inr (.inl hb)))
    · rcases h.hO b hb with h1 | h1
      · exact .inl (.inr (.inr (.inr h1)))
      · exact .inr h1
  · intro b hb
    rcases hF2 b hb with h1 | h1
    · exact h.hF b h1
    · exact .inr (Nat.le_trans h.hK.size h1)

/-- A longer list waits: in memory of its own. -/
theorem Mid.app {e : Int × Int} {w2 : World} {v2 : Value} (h : Mid L w F rv wv b0 b1 b2 items q t' F' wv' wr) (he : L.D t' e.1 ∧ L.D t' e.2)
    (hs : Sl w2 170 2 v2 (q ++ [e]).length (entV (q ++ [e]))) (hk : Keeps (ownB wv') wr w2) (ho : ∀ k, ownB v2 k → ownB wv' k ∨ wr.heap.size ≤ k) :
    Mid L w F rv wv b0 b1 b2 items (q ++ [e]) t' F' v2 (w2.setCell ⟨p, 1, none⟩ v2) := by
  have hkp := (Keeps.refl (· = p) w2).setCell (p := ⟨p, 1, none⟩) (.inl rfl) v2
  have hpw := h.hS.pw
  have hp2 := hk.blk h.hS.hp hpw
  have hFp : ¬ F' p := fun hb => h.hA p ⟨hb, .inl rfl⟩
  have out : ∀ {b : Nat} {c : List Value} {T : TypeId}, Blk wr b c T → T ≠ 129 → T ≠ 170 → Blk (w2.setCell ⟨p, 1, none⟩ v2) b c T := fun {b c T} hb h1 h2 => by
    have hn := h.hS.nfp hb h1 h2
    exact hkp.blk (hk.blk hb (fun h3 => hn (.inr (.inr h3)))) (fun h3 => hn (.inl h3))
  have hv2p : ¬ ownB v2 p := fun hb => by
    obtain ⟨_, cur, hc⟩ := hs.own hb
    exact hp2.ne hc (by decide) rfl
  refine ⟨L.J_keep (L.J_keep h.hJ hk (fun b hb h1 => h.hA b ⟨hb, .inr (.inr h1)⟩)) hkp (by rintro b hb rfl; exact hFp hb), ⟨by simpa using hp2.setSame 1 v2, ?_, ?_, ?_⟩, ?_, ?_, h.hF, ?_, out h.h0 (by decide) (by decide), out h.h1 (by decide) (by decide), out h.h2 (by decide) (by decide),
    h.n0, h.n1, h.n2, h.g0, h.g1, h.g2, h.b12, ?_, h.hr⟩
  · exact (h.hS.hr.keep hk (fun b hb h1 => h.hS.ap b ⟨hb, h1⟩)).keep hkp (by rintro b hb rfl; exact h.hS.pr hb)
  · exact hs.keep hkp (by rintro b hb rfl; exact hv2p hb)
  · rintro b ⟨h1, h2⟩
    rcases ho b h2 with h3 | h3
    · exact h.hS.ap b ⟨h1, h3⟩
    · have := (h.hS.hr.own h1).1; omega
  · rintro b ⟨h1, h2 | h2 | h2⟩
    · exact h.hA b ⟨h1, .inl h2⟩
    · exact h.hA b ⟨h1, .inr (.inl h2)⟩
    · rcases ho b h2 with h3 | h3
      · exact h.hA b ⟨h1, .inr (.inr h3)⟩
      · have := L.J_lt h.hJ h1; omega
  · refine (h.hK.then hk (fun b hb => ?_)).setCell (p := ⟨p, 1, none⟩) (.inl (.inr (.inl rfl))) _
    rcases h.hO b hb with h1 | h1
    · exact .inl (.inr (.inr (.inr h1)))
    · exact .inr h1
  · intro b hb
    rcases ho b hb with h1 | h1
    · exact h.hO b h1
    · exact .inr (Nat.le_trans h.hK.size h1)
  · intro e' he'
    simp only [List.mem_append, List.mem_singleton] at he'
    rcases he' with he' | rfl
    · exact h.hq _ he'
    · exact he

end

/-- In the midst of a pass. -/
def ScanIn {P : Program} {p : Nat} (L : Liv P p τ) (w : World) (F : Nat → Prop) (rv wv : Value) (b0 b1 b2 : Nat) (t1 : τ) (q1 : List (Int × Int)) (items : List It) (N : Nat) (wr : World) (k : Nat) (more : Bool) : Prop :=
  ∃ t' q' F' wv' done, done.length = k ∧ Mid L w F rv wv b0 b1 b2 (done ++ items.drop k) q' t' F' wv' wr ∧ q'.length + unN (done ++ items.drop k) ≤ N ∧
    scanM L.alive L.keep t1 q1 items = ((scanM L.alive L.keep t' q' (items.drop k)).1, (scanM L.alive L.keep t' q' (items.drop k)).2.1, done ++ (scanM L.alive L.keep t' q' (items.drop k)).2.2.1, more || (scanM L.alive L.keep t' q' (items.drop k)).2.2.2)

theorem ScanIn.skip {P : Program} {p : Nat} {L : Liv P p τ} {w : World} {F : Nat → Prop} {rv wv : Value} {b0 b1 b2 : Nat} {t1 : τ} {q1 : List (Int × Int)} {items : List It} {N : Nat} {wr w2 : World} {k : Nat} {more : Bool}
    {t' : τ} {q' : List (Int × Int)} {F' : Nat → Prop} {wv' : Value} {done : List It} {i : It} (hd : done.length = k) (hdr : items.drop k = i :: items.drop (k + 1)) (hm : Mid L w F rv wv b0 b1 b2 (done ++ i :: items.drop (k + 1)) q' t' F' wv' wr) (hN : q'.length + unN (done ++ i :: items.drop (k + 1)) ≤ N)
    (he : scanM L.alive L.keep t1 q1 items = ((scanM L.alive L.keep t' q' (i :: items.drop (k + 1))).1, (scanM L.alive L.keep t' q' (i :: items.drop (k + 1))).2.1, done ++ (scanM L.alive L.keep t' q' (i :: items.drop (k + 1))).2.2.1, more || (scanM L.alive L.keep t' q' (i :: items.drop (k + 1))).2.2.2))
    (hk2 : Keeps (fun _ => False) wr w2) (hc : ((i.2.1 && !i.2.2) && L.alive t' i.1.1) = false) : ScanIn L w F rv wv b0 b1 b2 t1 q1 items N w2 (k + 1) more := by
  have e : done ++ i :: items.drop (k + 1) = (done ++ [i]) ++ items.drop (k + 1) := by simp
  refine ⟨t', q', F', wv', done ++ [i], by simp [hd], ?_, ?_, ?_⟩
  · rw [← e]; exact hm.keep hk2
  · rw [← e]; exact hN
  · rw [he]
    simp only [scanM, hc, if_neg (show ¬ (false = true) by decide), List.append_assoc, List.cons_append, List.nil_append]

theorem ScanIn.took {P : Program} {p : Nat} {L : Liv P p τ} {w : World} {F : Nat → Prop} {rv wv : Value} {b0 b1 b2 : Nat} {t1 : τ} {q1 : List (Int × Int)} {items : List It} {N : Nat} {w2 : World} {k : Nat} {more : Bool}
    {t' : τ} {q' : List (Int × Int)} {F2 : Nat → Prop} {v2 : Value} {done : List It} {i : It} (hd : done.length = k) (hN : q'.length + unN (done ++ i :: items.drop (k + 1)) ≤ N)
    (he : scanM L.alive L.keep t1 q1 items = ((scanM L.alive L.keep t' q' (i :: items.drop (k + 1))).1, (scanM L.alive L.keep t' q' (i :: items.drop (k + 1))).2.1, done ++ (scanM L.alive L.keep t' q' (i :: items.drop (k + 1))).2.2.1, more || (scanM L.alive L.keep t' q' (i :: items.drop (k + 1))).2.2.2))
    (hm : Mid L w F rv wv b0 b1 b2 (done ++ (i.1, i.2.1, true) :: items.drop (k + 1)) ((L.keep t' q' i.1.2).2.1 ++ [(i.1.1, (L.keep t' q' i.1.2).2.2)]) (L.keep t' q' i.1.2).1 F2 v2 w2)
    (hc : ((i.2.1 && !i.2.2) && L.alive t' i.1.1) = true) : ScanIn L w F rv wv b0 b1 b2 t1 q1 items N w2 (k + 1) true := by
  have e : done ++ (i.1, i.2.1, true) :: items.drop (k + 1) = (done ++ [(i.1, i.2.1, true)]) ++ items.drop (k + 1) := by simp
  refine ⟨(L.keep t' q' i.1.2).1, (L.keep t' q' i.1.2).2.1 ++ [(i.1.1, (L.keep t' q' i.1.2).2.2)], F2, v2, done ++ [(i.1, i.2.1, true)], by simp [hd], ?_, ?_, ?_⟩
  · rw [← e]; exact hm
  · rw [← e]
    simp only [Bool.and_eq_true, Bool.not_eq_true'] at hc
    simp only [List.length_append, L.keep_len, unN_app, unN_cons, hc.1.2] at hN ⊢
    simp at hN ⊢
    omega
  · rw [he]
    simp only [scanM, hc, if_true, List.append_assoc, List.cons_append, List.nil_append, Bool.or_true, Bool.true_or]

end Go.Proofs.Ytjifdalflepcoab
