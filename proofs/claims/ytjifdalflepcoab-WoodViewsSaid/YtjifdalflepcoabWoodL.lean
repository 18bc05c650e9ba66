/-
  woodBegun (law05.go); a wood's roots.
-/
import Derived.Test.YtjifdalflepcoabSameV
import Derived.Test.YtjifdalflepcoabRep3
import Derived.Test.YtjifdalflepcoabWord2
namespace Go.Proofs.Ytjifdalflepcoab
open Go.RowKit
set_option linter.unusedVariables false
set_option linter.unusedSimpArgs false

section
variable {w w' : World} {h : WH} {O : Wo}

theorem WoodAt.roots (H : WoodAt w h O) : ∃ g o cap, h.ro = .slice (some ⟨g, o, none⟩) O.rt.length cap ∧ ownB h.ro g ∧ g < w.heap.size ∧ w.cell? ⟨h.p, 3, none⟩ = some (.slice (some ⟨g, o, none⟩) O.rt.length cap) ∧ (∀ k, w.frozen? ⟨g, k, none⟩ = false) ∧
    ∀ k, k < O.rt.length → w.cell? ⟨g, o + k, none⟩ = some (.int .i64 (O.rt.getD k 0)) := by
  obtain ⟨ao, cap, e, hrd, -, -⟩ := H.hr.rd
  have h12 := H.ok.h12
  obtain ⟨g, o, rfl, hg, hc⟩ := hrd (by intro e; have := congrArg List.length e; rw [List.length_map, h12] at this; cases this)
  have hown : ownB h.ro g := by rw [e]; rfl
  obtain ⟨-, cur, hb⟩ := H.hr.own hown
  refine ⟨g, o, cap, e, hown, hg, by have := H.ptrs.2.2.2; rw [e] at this; exact this, fun k => hb.free k, fun k hk => ?_⟩
  rw [hc k (by simpa using hk)]
  simp [List.getD, hk]

theorem WoodAt.setRoot (H : WoodAt w h O) {g o cap k : Nat} {x : Int} (e : h.ro = .slice (some ⟨g, o, none⟩) O.rt.length cap) (hk : k < O.rt.length) (hx : R64 x) :
    WoodAt (w.setCell ⟨g, o + k, none⟩ (.int .i64 x)) h { O with rt := O.rt.set k x } ∧ Keeps (ownB h.ro) w (w.setCell ⟨g, o + k, none⟩ (.int .i64 x)) := by
  have hown : ownB h.ro g := by rw [e]; rfl
  have kk : Keeps (ownB h.ro) w (w.setCell ⟨g, o + k, none⟩ (.int .i64 x)) := (Keeps.refl _ _).setCell (p := ⟨g, o + k, none⟩) (.inl hown) _
  refine ⟨⟨kk.blk H.hp (H.ro_ne H.hp (by decide)), H.ha.keep kk (H.ro_ne H.ha.hp (by decide)) H.ap, H.hc.keep kk (H.ro_ne H.hc.hp (by decide)) (H.ro_ne H.hc.hq (by decide)), H.hs.keep kk (fun b hb => ?_), ?_, H.ap, { H.ok with h12 := by simpa using H.ok.h12, hR := fun y hy => ?_ }⟩, kk⟩
  · obtain ⟨c, T, hc, hT⟩ := H.hs.fp_type hb
    rcases hT with rfl | rfl
    · exact H.ro_ne hc (by decide)
    · exact H.ro_ne hc (by decide)
  · have hs := H.hr
    rw [e] at hs ⊢
    have := hs.set (j := k) (u := .int .i64 x) (by omega)
    show Sl _ _ _ _ (O.rt.set k x).length ((O.rt.set k x).map _)
    rw [List.length_set, List.map_set]
    exact this
  · rcases List.mem_or_eq_of_mem_set hy with h1 | rfl
    · exact H.ok.hR y h1
    · exact hx

theorem WoodTo.setRoot (H : WoodAt w h O) {g o cap k : Nat} {x : Int} (e : h.ro = .slice (some ⟨g, o, none⟩) O.rt.length cap) (hk : k < O.rt.length) (hx : R64 x) : WoodTo w h (w.setCell ⟨g, o + k, none⟩ (.int .i64 x)) { O with rt := O.rt.set k x } :=
  ⟨h, (H.setRoot e hk hx).1, rfl, (H.setRoot e hk hx).2.mono (fun b _ hb => .inr (.inr (.inr (.inr hb)))), fun b hb => .inl hb⟩
end

def wB1 : Wo := { Wo.new 16 8 with ar := ((Ar.new 16 8).make 1 2).2 }
def wB2 : Wo := { wB1 with rt := wB1.rt.set 0 1 }
def wB3 : Wo := (wB2.set 1 1 20).2
theorem wb1 : ((Ar.new 16 8).make 1 2).1 = 0 := by decide +kernel
theorem wb2 : (wB2.set 1 1 20).1 = 0 := by decide +kernel
theorem wb3 : wB3.ar.get 1 1 = (20, 0) := by decide +kernel
theorem wb4 : wB3.view = ([(3, 0), (0, 0), (0, 0), (0, 0), (0, 0), (0, 0), (0, 0), (0, 0), (0, 0), (0, 0), (0, 0), (0, 0)], [(1, [(0, 0), (1, 5)])]) := by decide +kernel

theorem Ref0_c (w : World) : Calls Try.prog 43 #[.int .i64 0] w fun e w' => e = .returned (.int .i64 1) ∧ w = w' := Ref_c 0 w (by decide) (by decide)

set_option maxHeartbeats 4000000 in
set_option maxRecDepth 100000 in
theorem woodBegun_c (w : World) : Calls Try.prog 41 #[] w fun e w' => e = .returned (.bool true) ∧ Keeps (fun _ => False) w w' := by
  go_enter Try.func41, Try.ntmps41
  go_wp2_with fail
  refine (WNew_yes 16 8 _ (by decide +kernel)).mono ?_
  rintro e w1 ⟨h, rfl, H1, k1, o1⟩
  have HA := Lib.hid H1; have HK := Lib.hid k1; have HO := Lib.hid o1
  obtain ⟨g, o, cap, hro, hown, hgl, c3, -, -⟩ := H1.roots
  have e12 : (Wo.new 16 8).rt.length = 12 := rfl
  rw [e12] at c3 hro
  have HRO := Lib.hid hro
  have c0 := H1.ptrs.1; have pl := H1.hp.lt
  clear H1 k1 o1 hro
  go_wp2_with fail
  have hka := (Keeps.refl (fun _ => False) w1).alloc (.cells #[.int .i64 0, .int .i64 0] 26)
  have HA2 := Lib.hid (HA.out.keep hka (fun _ _ h => h)); have HK2 := Lib.hid (HK.out.trans hka)
  generalize w1.alloc (.cells #[.int .i64 0, .int .i64 0] 26) = w2 at *
  clear c0 c3 pl hka HA HK hgl hown
  have okk : R64 2 := by unfold R64; decide
  refine (Make_c 1 2 _ HA2.out.ha okk).mono ?_
  rintro e w3 ⟨rfl, ht⟩
  have ht2 := HA2.out.arenaTo ht (by decide +kernel)
  have e0 : ((Wo.new 16 8).ar.make 1 2).1 = 0 := wb1
  rw [e0]
  obtain ⟨h3, H3, e3, k3, o3⟩ := ht2
  have H3' : WoodAt w3 h3 wB1 := H3
  have HA3 := Lib.hid H3'; have HK3 := Lib.hid (HK2.out.then k3 (fun b hb => .inr (HO.out b hb)))
  have HO3 : Hid (∀ b, h3.Own b → w.heap.size ≤ b) := fun b hb => by
    rcases o3 b hb with h | h
    · exact HO.out b h
    · have := HK2.out.size; omega
  rw [← e3]
  clear ht H3 H3' k3 o3 e3 HRO
  obtain ⟨g, o, cap, hro, hown, hgl, c3, fz, rc⟩ := HA3.out.roots
  have e12 : wB1.rt.length = 12 := by decide +kernel
  rw [e12] at c3 hro rc
  have HRO := Lib.hid hro
  have r0 := rc 0 (by decide)
  rw [Nat.add_zero] at r0
  have pl := HA3.out.hp.lt
  have f0 := fz o
  clear rc hro fz
  go_wp2_with fail
  refine wp_region_ro (.free 0 (.free 1 (.free 2 (.free 4 (.pure 3 (.run 5 (.free 6 (.run 7 (.swi [] (.fin)))))))))) [7] (fun w' => w'.cell? ⟨h3.p, 3, none⟩ = some (.slice (some ⟨g, o, none⟩) 12 cap)) (by kernel_rfl) (by kernel_rfl) c3 ?_
  first | (refine wpRO_free rfl rfl _ (fun w' => by go_simp; exact Gives.mk _ _) (fun K hK => ?_); go_simp; refine hK _ ?_; clear hK K) | (refine wpRO_skipF rfl rfl (fun K hK => ?_); go_simp; refine hK _ ?_; clear hK K)
  first | (refine wpRO_free rfl rfl _ (fun w' => by go_simp; exact Gives.mk _ _) (fun K hK => ?_); go_simp; refine hK _ ?_; clear hK K) | (refine wpRO_skipF rfl rfl (fun K hK => ?_); go_simp; refine hK _ ?_; clear hK K)
  first | (refine wpRO_free rfl rfl _ (fun w' => by go_simp; exact Gives.mk _ _) (fun K hK => ?_); go_simp; refine hK _ ?_; clear hK K) | (refine wpRO_skipF rfl rfl (fun K hK => ?_); go_simp; refine hK _ ?_; clear hK K)
  first | (refine wpRO_free rfl rfl _ (fun w' => by go_simp; exact Gives.mk _ _) (fun K hK => ?_); go_simp; refine hK _ ?_; clear hK K) | (refine wpRO_skipF rfl rfl (fun K hK => ?_); go_simp; refine hK _ ?_; clear hK K)
  first | (refine wpRO_pure rfl rfl _ (fun w' hG => by obtain g0 := hG; exact gives_agg2 rfl (by decide +kernel) rfl (by assumption) (by assumption)) (fun K hK => ?_); go_simp; refine hK _ ?_; clear hK K) | (refine wpRO_pure rfl rfl _ (fun w' hG => by obtain g0 := hG; go_simp; exact Gives.mk _ _) (fun K hK => ?_); go_simp; refine hK _ ?_; clear hK K) | (refine wpRO_skip rfl rfl (fun K hK => ?_); go_simp; refine hK _ ?_; clear hK K)
  refine wpRO_run rfl rfl (fun K hK => ?_); unfold gRun; go_simp
  refine (Ref0_c _).mono ?_
  rintro e w4 ⟨rfl, rfl⟩
  refine hK _ _ (fun _ => c3) ?_
  clear hK K
  first | (refine wpRO_free rfl rfl _ (fun w' => by go_simp; exact Gives.mk _ _) (fun K hK => ?_); go_simp; refine hK _ ?_; clear hK K) | (refine wpRO_skipF rfl rfl (fun K hK => ?_); go_simp; refine hK _ ?_; clear hK K)
  refine wpRO_chg rfl rfl rfl (fun K hK => ?_); unfold gRun; go_simp
  refine hK _ _ ?_
  clear hK K
  refine wpRO_swi (fun _ => True) trivial (wpRO_fin ?_)
  have ht4 := WoodTo.setRoot (k := 0) (x := 1) HA3.out HRO.out (by decide) (by unfold R64; decide)
  rw [Nat.add_zero] at ht4
  obtain ⟨h4, H4, e4, k4, o4⟩ := ht4
  rw [← e4]
  have HA4 : Hid (WoodAt (w3.setCell ⟨g, o, none⟩ (.int .i64 1)).drew h4 wB2) := H4.keep ((Keeps.refl (fun _ => False) _).drew) (fun _ _ h => h)
  have HK4 := Lib.hid ((HK3.out.then k4 (fun b hb => .inr (HO3.out b hb))).drew)
  have HO4 : Hid (∀ b, h4.Own b → w.heap.size ≤ b) := fun b hb => by
    rcases o4 b hb with h | h
    · exact HO3.out b h
    · have := HK3.out.size; omega
  clear H4 k4 o4 e4 r0 f0 hgl hown c3 pl HK3 HO3 HA3 HRO e12
  generalize (w3.setCell ⟨g, o, none⟩ (.int .i64 1)).drew = w5 at *
  go_wp2_with fail
  refine (Ref0_c _).mono ?_
  rintro e w6 ⟨rfl, rfl⟩
  go_wp2_with fail
  refine (WSet_c 1 1 20 HA4.out (by unfold R64; decide)).mono ?_
  rintro e w6 ⟨rfl, ht⟩
  rw [wb2]
  obtain ⟨h6, H6, e6, k6, o6⟩ := ht
  have HA6 : Hid (WoodAt w6 h6 wB3) := H6
  have HK6 := Lib.hid (HK4.out.then k6 (fun b hb => .inr (HO4.out b hb)))
  rw [← e6]
  clear H6 k6 o6 e6 HA4 HK4 HO4
  go_wp2_with fail
  refine (Ref0_c _).mono ?_
  rintro e w7 ⟨rfl, rfl⟩
  go_wp2_with fail
  refine (Get_c 1 1 HA6.out).mono ?_
  rintro e w7 ⟨rfl, rfl⟩
  rw [wb3]
  dsimp only
  go_wp2_with fail
  refine (View_c _ HA6.out).mono ?_
  rintro e w7 ⟨v, rfl, hv, hk7⟩
  rw [wb4] at hv
  have HK7 := Lib.hid (HK6.out.trans hk7)
  obtain ⟨ro, rc, no, nc, F, rfl, hs1, hn, -⟩ := hv
  obtain ⟨no', nc', e', N⟩ := hn.nth
  cases e'
  obtain ⟨g1, o1, ao, ac, rfl, hgl, x0, x1, rd1, -⟩ := N 0 (by decide)
  obtain ⟨_, _, e', rd0, -, -⟩ := hs1.rd
  cases e'
  obtain ⟨g2, o2, rfl, hg2, y0, y1⟩ := rd0.val 0 (by decide)
  obtain ⟨g3, o3, rfl, hg3, z0, z1⟩ := rd1.val 1 (by decide)
  simp only [List.getD_cons_zero, List.getD_cons_succ, Nat.zero_mul, Nat.add_zero, Nat.one_mul] at x0 x1 y0 y1 z0 z1
  clear hs1 hn N rd1 rd0 hk7
  go_wp2_with fail
  go_ret
  exact ⟨rfl, HK7.out.alloc _⟩

end Go.Proofs.Ytjifdalflepcoab
