/-
  arenaBegun (law02.go), and SameInts of the reference.
-/
import Derived.Test.YtjifdalflepcoabArena4
import Derived.Test.YtjifdalflepcoabArenaLaw
namespace Go.Proofs.Ytjifdalflepcoab
open Go.RowKit
set_option linter.unusedVariables false
set_option linter.unusedSimpArgs false

/-- A number in a slice. -/
theorem Rd.nth {w : World} {ao : Option Addr} {l : List Int} (h : Rd w ao (l.map (Value.int .i64))) (i : Nat) (hi : i < l.length) :
    ∃ g o, ao = some ⟨g, o, none⟩ ∧ g < w.heap.size ∧ w.cell? ⟨g, o + i, none⟩ = some (.int .i64 (l.getD i 0)) := by
  obtain ⟨g, o, rfl, hg, hc⟩ := h (by intro e; simp at e; subst e; simp at hi)
  refine ⟨g, o, rfl, hg, ?_⟩
  rw [hc i (by simpa using hi)]
  simp [List.getD, hi]

set_option maxHeartbeats 2000000 in
set_option maxRecDepth 100000 in
theorem SameInts_yes (a b : Option Addr) (ca cb : Nat) (l : List Int) (w : World) (h1 : Rd w a (l.map (Value.int .i64))) (h2 : Rd w b (l.map (Value.int .i64))) (hl : l.length ≤ 1000000) :
    Calls Try.prog 36 #[.slice a l.length ca, .slice b l.length cb] w fun e w' => e = .returned (.bool true) ∧ Keeps (fun _ => False) w w' := by
  have H1 := Lib.hid h1; have H2 := Lib.hid h2
  clear h1 h2
  go_enter Try.func36, Try.ntmps36
  go_wp2_with fail
  go_loopw [5] (fun i wr => ∃ k : Nat, k ≤ l.length ∧ i = .int .i64 k ∧ Keeps (fun _ => False) w wr) (fun i _ => l.length - (intOf i).toNat)
  case atStart => exact ⟨0, Nat.zero_le _, rfl, Keeps.refl _ _⟩
  case round =>
    obtain ⟨k, hk, rfl, hkk⟩ := hrel
    have HK := Lib.hid hkk; clear hkk
    by_cases hlt : k < l.length
    · obtain ⟨g, o, rfl, hgl, d0⟩ := (H1.out.keep HK.out (fun _ _ _ h => h)).nth k hlt
      obtain ⟨g', o', rfl, hgl', e0⟩ := (H2.out.keep HK.out (fun _ _ _ h => h)).nth k hlt
      generalize l.getD k 0 = v at *
      go_wp2_with fail
      refine wp_region_ro (.free 0 (.free 1 (.free 2 (.free 4 (.free 5 (.free 6 (.pure 3 (.pure 7 (.free 8 (.fin)))))))))) [] (fun w' => w'.cell? ⟨g, o + k, none⟩ = some (.int .i64 v) ∧ w'.cell? ⟨g', o' + k, none⟩ = some (.int .i64 v)) (by kernel_rfl) (by kernel_rfl) ⟨d0, e0⟩ ?_
      first | (refine wpRO_free rfl rfl _ (fun w' => by go_simp; exact Gives.mk _ _) (fun K hK => ?_); go_simp; refine hK _ ?_; clear hK K) | (refine wpRO_skipF rfl rfl (fun K hK => ?_); go_simp; refine hK _ ?_; clear hK K)
      first | (refine wpRO_free rfl rfl _ (fun w' => by go_simp; exact Gives.mk _ _) (fun K hK => ?_); go_simp; refine hK _ ?_; clear hK K) | (refine wpRO_skipF rfl rfl (fun K hK => ?_); go_simp; refine hK _ ?_; clear hK K)
      first | (refine wpRO_free rfl rfl _ (fun w' => by go_simp; exact Gives.mk _ _) (fun K hK => ?_); go_simp; refine hK _ ?_; clear hK K) | (refine wpRO_skipF rfl rfl (fun K hK => ?_); go_simp; refine hK _ ?_; clear hK K)
      first | (refine wpRO_free rfl rfl _ (fun w' => by go_simp; exact Gives.mk _ _) (fun K hK => ?_); go_simp; refine hK _ ?_; clear hK K) | (refine wpRO_skipF rfl rfl (fun K hK => ?_); go_simp; refine hK _ ?_; clear hK K)
      first | (refine wpRO_free rfl rfl _ (fun w' => by go_simp; exact Gives.mk _ _) (fun K hK => ?_); go_simp; refine hK _ ?_; clear hK K) | (refine wpRO_skipF rfl rfl (fun K hK => ?_); go_simp; refine hK _ ?_; clear hK K)
      first | (refine wpRO_free rfl rfl _ (fun w' => by go_simp; exact Gives.mk _ _) (fun K hK => ?_); go_simp; refine hK _ ?_; clear hK K) | (refine wpRO_skipF rfl rfl (fun K hK => ?_); go_simp; refine hK _ ?_; clear hK K)
      first | (refine wpRO_pure rfl rfl _ (fun w' hG => by obtain ⟨g0, g1⟩ := hG; exact gives_agg2 rfl (by decide +kernel) rfl (by assumption) (by assumption)) (fun K hK => ?_); go_simp; refine hK _ ?_; clear hK K) | (refine wpRO_pure rfl rfl _ (fun w' hG => by obtain ⟨g0, g1⟩ := hG; go_simp; exact Gives.mk _ _) (fun K hK => ?_); go_simp; refine hK _ ?_; clear hK K) | (refine wpRO_skip rfl rfl (fun K hK => ?_); go_simp; refine hK _ ?_; clear hK K)
      first | (refine wpRO_pure rfl rfl _ (fun w' hG => by obtain ⟨g0, g1⟩ := hG; exact gives_agg2 rfl (by decide +kernel) rfl (by assumption) (by assumption)) (fun K hK => ?_); go_simp; refine hK _ ?_; clear hK K) | (refine wpRO_pure rfl rfl _ (fun w' hG => by obtain ⟨g0, g1⟩ := hG; go_simp; exact Gives.mk _ _) (fun K hK => ?_); go_simp; refine hK _ ?_; clear hK K) | (refine wpRO_skip rfl rfl (fun K hK => ?_); go_simp; refine hK _ ?_; clear hK K)
      first | (refine wpRO_free rfl rfl _ (fun w' => by go_simp; exact Gives.mk _ _) (fun K hK => ?_); go_simp; refine hK _ ?_; clear hK K) | (refine wpRO_skipF rfl rfl (fun K hK => ?_); go_simp; refine hK _ ?_; clear hK K)
      refine wpRO_fin ?_
      go_wp2_with fail
      go_roundw
      case rel => exact ⟨k + 1, by omega, by go_num, HK.out.drew⟩
      case measure => simp [intOf]; omega
    · obtain rfl : k = l.length := by omega
      go_wp2_with fail
      go_ret
      exact ⟨rfl, HK.out⟩

theorem ArenaTo.fresh {w0 w w' : World} {p g : Nat} {A : Ar} (h : Keeps (fun _ => False) w0 w) (t : ArenaTo w p g w' A) (hp : w0.heap.size ≤ p) (hg : w0.heap.size ≤ g) : Keeps (fun _ => False) w0 w' :=
  h.then t.k (by rintro k (rfl | rfl); exact .inr hp; exact .inr hg)

def bA1 : Ar := ((Ar.new 16 8).make 1 2).2
def bA2 : Ar := (bA1.make 2 12).2
def bA3 : Ar := (bA2.make 5 0).2
def bA4 : Ar := (bA3.copy 0).2
theorem b1 : ((Ar.new 16 8).make 1 2).1 = 0 := by decide +kernel
theorem b2 : (bA1.make 2 12).1 = 3 := by decide +kernel
theorem b3 : (bA2.make 5 0).1 = -1 := by decide +kernel
theorem b4 : (bA3.copy 0).1 = 16 := by decide +kernel
theorem b5 : bA4.thing 16 = (1, 2, 0) := by decide +kernel
theorem b6 : bA4.things = ([0, 3], [16]) := by decide +kernel
theorem b7 : bA4.load 1 = 2 := by decide +kernel

set_option maxHeartbeats 2000000 in
set_option maxRecDepth 100000 in
theorem arenaBegun_c (w : World) : Calls Try.prog 14 #[] w fun e w' => e = .returned (.bool true) ∧ Keeps (fun _ => False) w w' := by
  have E1 := Lib.hid b1; have E2 := Lib.hid b2; have E3 := Lib.hid b3; have E4 := Lib.hid b4; have E5 := Lib.hid b5; have E6 := Lib.hid b6; have E7 := Lib.hid b7
  go_enter Try.func14, Try.ntmps14
  go_wp2_with fail
  refine (ANew_yes 16 8 _ (by decide)).mono ?_
  rintro e w1 ⟨p, g, rfl, hA, hk, hp, hg⟩
  have hka := (Keeps.refl (fun _ => False) w1).alloc (.cells #[.int .i64 0, .int .i64 0] 26)
  have HA := Lib.hid (hA.keep hka (fun h => h) (fun h => h)); have HK := Lib.hid (hk.trans hka)
  clear hA hk hka
  go_wp2_with fail
  refine (Make_c 1 2 _ HA.out (by unfold R64; omega)).mono ?_
  rintro e w2 ⟨rfl, ht⟩
  rw [E1.out]
  have HA2 := Lib.hid (show ArenaAt w2 p g bA1 from ht.at_); have HK2 := Lib.hid (ht.fresh HK.out hp hg)
  clear ht HA HK
  go_wp2_with fail
  refine (Make_c 2 12 _ HA2.out (by unfold R64; omega)).mono ?_
  rintro e w3 ⟨rfl, ht⟩
  rw [E2.out]
  have HA3 := Lib.hid (show ArenaAt w3 p g bA2 from ht.at_); have HK3 := Lib.hid (ht.fresh HK2.out hp hg)
  clear ht HA2 HK2
  go_wp2_with fail
  refine (Make_c 5 0 _ HA3.out (by unfold R64; omega)).mono ?_
  rintro e w4 ⟨rfl, ht⟩
  rw [E3.out]
  have HA4 := Lib.hid (show ArenaAt w4 p g bA3 from ht.at_); have HK4 := Lib.hid (ht.fresh HK3.out hp hg)
  clear ht HA3 HK3
  go_wp2_with fail
  refine (ACopy_c 0 _ HA4.out).mono ?_
  rintro e w5 ⟨rfl, ht⟩
  rw [E4.out]
  have HA5 := Lib.hid (show ArenaAt w5 p g bA4 from ht.at_); have HK5 := Lib.hid (ht.fresh HK4.out hp hg)
  clear ht HA4 HK4
  go_wp2_with fail
  refine (Thing_c 16 _ HA5.out).mono ?_
  rintro e w6 ⟨rfl, rfl⟩
  rw [E5.out]
  dsimp only
  go_wp2_with fail
  refine (Things_c _ HA5.out).mono ?_
  rintro e w6 ht
  unfold ThingsRet at ht
  rw [E6.out] at ht
  obtain ⟨ao, ac, bo, bc, rfl, hs1, hs2, hk6, -, -⟩ := ht
  have HA6 := Lib.hid (HA5.out.keep hk6 (fun h => h) (fun h => h)); have HK6 := Lib.hid (HK5.out.trans hk6)
  have HS1 := Lib.hid hs1; have HS2 := Lib.hid hs2
  clear hs1 hs2 hk6 HA5 HK5
  go_wp2_with fail
  have hka := (Keeps.refl (fun _ => False) w6).alloc (.cells #[.int .i64 0, .int .i64 3] 3)
  obtain ⟨_, _, e', hr1, -, -⟩ := (HS1.out.keep hka (fun _ _ h => h)).rd
  cases e'
  refine (SameInts_yes ao (some ⟨w6.heap.size, 0, none⟩) ac 2 [0, 3] _ hr1 (Rd.blk (Blk.newAt _ rfl rfl) 0 _ rfl) (by decide)).mono ?_
  rintro e w7 ⟨rfl, hk7⟩
  have HA7 := Lib.hid (HA6.out.keep (hka.trans hk7) (fun h => h) (fun h => h)); have HK7 := Lib.hid (HK6.out.trans (hka.trans hk7))
  have HS7 := Lib.hid (HS2.out.keep (hka.trans hk7) (fun _ _ h => h))
  clear hka hr1 hk7
  go_wp2_with fail
  have hka := (Keeps.refl (fun _ => False) w7).alloc (.cells #[.int .i64 16] 3)
  obtain ⟨_, _, e', hr1, -, -⟩ := (HS7.out.keep hka (fun _ _ h => h)).rd
  cases e'
  refine (SameInts_yes bo (some ⟨w7.heap.size, 0, none⟩) bc 1 [16] _ hr1 (Rd.blk (Blk.newAt _ rfl rfl) 0 _ rfl) (by decide)).mono ?_
  rintro e w8 ⟨rfl, hk8⟩
  have HA8 := Lib.hid (HA7.out.keep (hka.trans hk8) (fun h => h) (fun h => h)); have HK8 := Lib.hid (HK7.out.trans (hka.trans hk8))
  clear hka hr1 hk8
  go_wp2_with fail
  refine (Load_c 1 _ HA8.out).mono ?_
  rintro e w9 ⟨rfl, rfl⟩
  rw [E7.out]
  go_wp2_with fail
  go_ret
  exact ⟨rfl, HK8.out⟩

end Go.Proofs.Ytjifdalflepcoab
