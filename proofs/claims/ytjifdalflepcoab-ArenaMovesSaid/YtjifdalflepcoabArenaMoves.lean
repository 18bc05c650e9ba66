/-
  ArenaMoves (law02.go): what is moved is as it was.
-/
import Derived.Test.YtjifdalflepcoabArenaBegun
import Derived.Test.YtjifdalflepcoabArenaM
import Derived.Test.YtjifdalflepcoabArenaIn
namespace Go.Proofs.Ytjifdalflepcoab
open Go.RowKit
set_option linter.unusedVariables false
set_option linter.unusedSimpArgs false

theorem Ar.store_len (A : Ar) (i x : Int) : (A.store i x).ws.length = A.ws.length := by unfold Ar.store; split <;> simp
theorem Ar.store_nur (A : Ar) (i x : Int) : (A.store i x).nur = A.nur := by unfold Ar.store; split <;> rfl

/-- A number of 64 bits, read as one without a sign. -/
def un64 (x : Int) : Nat := (x % 18446744073709551616).toNat

theorem un64_wrap (x : Int) : IntKind.u64.wrap x = (un64 x : Int) := by
  unfold un64
  rw [Int.toNat_of_nonneg (Int.emod_nonneg _ (by decide))]
  rfl

theorem un64_mod (x : Int) (m : Nat) (hm : 0 < m) : ((un64 x : Int)).tmod (m : Int) = ((un64 x % m : Nat) : Int) := by
  rw [Int.tmod_eq_emod_of_nonneg (by omega)]; rfl

/-- The number in a cell. -/
def cellI (w : World) (p i : Nat) : Int := intOf ((w.cell? ⟨p, i, none⟩).getD undef)

theorem ArIn.yngCell {w0 w : World} {p g a b : Nat} {A : Ar} (h : ArIn w0 w p g A a b) : cellI w p 2 = A.yng := by
  unfold cellI; rw [h.hA.cells.2.2.1]; rfl

set_option maxHeartbeats 8000000 in
set_option maxRecDepth 100000 in
theorem ArenaMoves_raw (n o : Int) (lo : Option Addr) (lc : Nat) (xs : List Int) (x y z : Int) (w : World) (h0 : Rd w lo (xs.map (Value.int .i64))) (hl0 : xs.length ≤ maxLen) (hb : ∀ x ∈ xs, R64 x) (hx : R64 x) (hy : R64 y) (hz : R64 z) :
    Calls Try.prog 3 #[.int .i64 n, .int .i64 o, .slice lo xs.length lc, .int .i64 x, .int .i64 y, .int .i64 z] w fun e w' => e = .returned (.bool true) ∧ Keeps (fun _ => False) w w' := by
  have H0 := Lib.hid h0; have HBD := Lib.hid hb; have HX := Lib.hid hx; have HY := Lib.hid hy; have HZ := Lib.hid hz
  unfold maxLen at hl0
  clear h0 hb hx hy hz
  go_enter Try.func3, Try.ntmps3
  go_wp2_with fail
  refine (arenaBegun_c _).mono ?_
  rintro e w1 ⟨rfl, hk1⟩
  have HK1 := Lib.hid hk1; clear hk1
  cases hfit : Ar.fits n o
  · go_wp2_with fail
    refine (ANew_no n o _ hfit).mono ?_
    rintro e w2 ⟨rfl, hk2⟩
    go_wp2_with fail
    go_ret
    exact ⟨rfl, (HK1.out.trans hk2).alloc _⟩
  obtain ⟨a, rfl⟩ : ∃ a : Nat, n = a := ⟨n.toNat, by simp [Ar.fits] at hfit; omega⟩
  obtain ⟨b, rfl⟩ : ∃ b : Nat, o = b := ⟨o.toNat, by simp [Ar.fits] at hfit; omega⟩
  have hab : 16 ≤ a ∧ a ≤ 256 ∧ b ≤ 1024 := by simp [Ar.fits] at hfit; omega
  have hnw : (Ar.new a b).nur = a ∧ (Ar.new a b).ws.length = a + b := by simp [Ar.new]; omega
  have HNW := Lib.hid hnw; clear hnw
  go_wp2_with fail
  refine (ANew_yes a b _ hfit).mono ?_
  rintro e w2 ⟨p, g, rfl, hA, hk2, hp, hg⟩
  have hka := (Keeps.refl (fun _ => False) w2).alloc (.cells #[.int .i64 0, .int .i64 0] 26)
  have HI := Lib.hid (show ArIn w (w2.alloc (.cells #[.int .i64 0, .int .i64 0] 26)) p g (Ar.new a b) a b from
    ⟨hA.keep hka (fun h => h) (fun h => h), HNW.out.1, HNW.out.2, (HK1.out.trans hk2).trans hka, Nat.le_trans HK1.out.size hp, Nat.le_trans HK1.out.size hg⟩)
  clear hA hk2 hp hg hka HNW HK1 hfit
  by_cases hm : 2000 < xs.length
  · go_wp2_with fail
    go_ret
    exact ⟨rfl, HI.out.hK⟩
  go_wp2_with fail
  generalize w2.alloc (.cells #[.int .i64 0, .int .i64 0] 26) = w3 at *
  go_loopw [] (fun wr => ∃ A : Ar, ArIn w wr p g A a b) (fun wr => a - (cellI wr p 2).toNat)
  case atStart => exact ⟨_, HI.out⟩
  case round =>
    clear HI
    obtain ⟨A, hI⟩ := hrel
    have GI := Lib.hid hI
    have HC := Lib.hid hI.yngCell
    have o1 := hI.hA.ok.h1; have o2 := hI.hA.ok.h2; have o3 := hI.hA.ok.h3; have o4 := hI.hA.ok.h4; have hna := hI.hn
    have HNA := Lib.hid hna
    by_cases hroom : A.yng < A.nur
    · have hc : fitsW 5 0 = true ∧ (1 : Int) + 0 ≤ (A.nur : Int) - A.yng := ⟨by decide, by omega⟩
      have HE := Lib.hid (show (A.make 5 0).1 = (A.yng : Int) by rw [Ar.make_yes hc])
      have HY2 := Lib.hid (show (A.make 5 0).2.yng = A.yng + 1 by rw [Ar.make_yes hc]; rfl)
      clear hI hna hc
      go_wp2_with fail
      refine (Make_c 5 0 _ GI.out.hA (by unfold R64; omega)).mono ?_
      rintro e w4 ⟨rfl, ht⟩
      rw [HE.out]
      have HI4 := Lib.hid (GI.out.make ht)
      have HC4 := Lib.hid HI4.out.yngCell
      clear ht
      go_wp2_with fail
      go_roundw
      case rel => exact ⟨_, HI4.out⟩
      case measure =>
        rw [HC.out, HC4.out, HY2.out]
        have := HNA.out
        omega
    · have HE := Lib.hid (Ar.make_no (A := A) (k := 5) (f := 0) (fun h => by have := h.2; omega))
      clear hI hna
      go_wp2_with fail
      refine (Make_c 5 0 _ GI.out.hA (by unfold R64; omega)).mono ?_
      rintro e w4 ⟨rfl, ht⟩
      have HI4 := Lib.hid (GI.out.make ht)
      rw [HE.out] at HI4 ⊢
      dsimp only at HI4 ⊢
      clear ht
      go_wp2_with fail
      go_loopw [15] (fun i wr => ∃ (k : Nat) (A : Ar), k ≤ xs.length ∧ i = .int .i64 k ∧ ArIn w wr p g A a b) (fun i _ => xs.length - (intOf i).toNat)
      case atStart => exact ⟨0, A, Nat.zero_le _, rfl, HI4.out⟩
      case round =>
        clear HI4 GI HC HNA HE o1 o2 o3 o4 hroom
        obtain ⟨k, A, hk, rfl, hI⟩ := hrel
        have GI := Lib.hid hI; clear hI
        by_cases hlt : k < xs.length
        · obtain ⟨gs, os, rfl, hgl, d0⟩ := (H0.out.keep GI.out.hK (fun _ _ _ h => h)).num k hlt
          have hv : R64 (xs.getD k 0) := HBD.out _ (by rw [List.getD_eq_getElem?_getD, List.getElem?_eq_getElem hlt]; exact List.getElem_mem _)
          have HV := Lib.hid hv; clear hv
          generalize xs.getD k 0 = v at *
          go_wp2_with fail
          refine (Store_c k v _ GI.out.hA HV.out).mono ?_
          rintro e w5 ⟨rfl, ht⟩
          have HI5 := Lib.hid (GI.out.store ht)
          clear ht d0 hgl
          go_wp2_with fail
          go_roundw
          case rel => exact ⟨k + 1, _, by omega, by go_num, HI5.out⟩
          case measure => simp [intOf]; omega
        · obtain rfl : k = xs.length := by omega
          obtain ⟨L, hL⟩ : ∃ L, L = a + b := ⟨_, rfl⟩
          have hall : IntKind.i64.wrap ((a : Int) + b) = (L : Int) := by rw [hL]; exact (IntWalk.i64_in _ (by omega)).trans (by omega)
          have hall2 : (a : Int) + b = (L : Int) := by omega
          have hL0 : 0 < L ∧ L ≤ 1280 := by omega
          have HLL := Lib.hid (show A.ws.length = L by rw [hL]; exact GI.out.hl)
          clear hL
          obtain ⟨T, hT⟩ : ∃ T, T = un64 x % L := ⟨_, rfl⟩
          obtain ⟨S, hS⟩ : ∃ S, S = un64 y % L := ⟨_, rfl⟩
          have hTl : T < L := by rw [hT]; exact Nat.mod_lt _ hL0.1
          have hSl : S < L := by rw [hS]; exact Nat.mod_lt _ hL0.1
          have hx1 := un64_wrap x; have hy1 := un64_wrap y; have hz1 := un64_wrap z
          have hx2 : ((un64 x : Int)).tmod (L : Int) = (T : Int) := by rw [un64_mod _ _ hL0.1, hT]
          have hy2 : ((un64 y : Int)).tmod (L : Int) = (S : Int) := by rw [un64_mod _ _ hL0.1, hS]
          have hx3 : ((un64 x : Int)) % (L : Int) = (T : Int) := by rw [hT]; rfl
          have hy3 : ((un64 y : Int)) % (L : Int) = (S : Int) := by rw [hS]; rfl
          have hLu : IntKind.u64.wrap (L : Int) = (L : Int) := by rw [un64_wrap]; unfold un64; omega
          have hTi : IntKind.i64.wrap (T : Int) = (T : Int) := IntWalk.i64_in _ (by omega)
          have hSi : IntKind.i64.wrap (S : Int) = (S : Int) := IntWalk.i64_in _ (by omega)
          have hLz : ¬ L = 0 := by omega
          clear hT hS
          go_wp2_with fail
          refine wp_region_ro (.free 0 (.free 1 (.free 2 (.free 3 (.free 4 (.free 5 (.free 6 (.free 7 (.free 8 (.free 9 (.free 10 (.free 11 (.free 12 (.free 13 (.fin))))))))))))))) [] (fun _ => True) (by kernel_rfl) (by kernel_rfl) trivial ?_
          first | (refine wpRO_free rfl rfl _ (fun w' => by go_simp; exact Gives.mk _ _) (fun K hK => ?_); go_simp; refine hK _ ?_; clear hK K) | (refine wpRO_skipF rfl rfl (fun K hK => ?_); go_simp; refine hK _ ?_; clear hK K)
          first | (refine wpRO_free rfl rfl _ (fun w' => by go_simp; exact Gives.mk _ _) (fun K hK => ?_); go_simp; refine hK _ ?_; clear hK K) | (refine wpRO_skipF rfl rfl (fun K hK => ?_); go_simp; refine hK _ ?_; clear hK K)
          first | (refine wpRO_free rfl rfl _ (fun w' => by go_simp; exact Gives.mk _ _) (fun K hK => ?_); go_simp; refine hK _ ?_; clear hK K) | (refine wpRO_skipF rfl rfl (fun K hK => ?_); go_simp; refine hK _ ?_; clear hK K)
          first | (refine wpRO_free rfl rfl _ (fun w' => by go_simp; exact Gives.mk _ _) (fun K hK => ?_); go_simp; refine hK _ ?_; clear hK K) | (refine wpRO_skipF rfl rfl (fun K hK => ?_); go_simp; refine hK _ ?_; clear hK K)
          first | (refine wpRO_free rfl rfl _ (fun w' => by go_simp; exact Gives.mk _ _) (fun K hK => ?_); go_simp; refine hK _ ?_; clear hK K) | (refine wpRO_skipF rfl rfl (fun K hK => ?_); go_simp; refine hK _ ?_; clear hK K)
          first | (refine wpRO_free rfl rfl _ (fun w' => by go_simp; exact Gives.mk _ _) (fun K hK => ?_); go_simp; refine hK _ ?_; clear hK K) | (refine wpRO_skipF rfl rfl (fun K hK => ?_); go_simp; refine hK _ ?_; clear hK K)
          first | (refine wpRO_free rfl rfl _ (fun w' => by go_simp; exact Gives.mk _ _) (fun K hK => ?_); go_simp; refine hK _ ?_; clear hK K) | (refine wpRO_skipF rfl rfl (fun K hK => ?_); go_simp; refine hK _ ?_; clear hK K)
          first | (refine wpRO_free rfl rfl _ (fun w' => by go_simp; exact Gives.mk _ _) (fun K hK => ?_); go_simp; refine hK _ ?_; clear hK K) | (refine wpRO_skipF rfl rfl (fun K hK => ?_); go_simp; refine hK _ ?_; clear hK K)
          first | (refine wpRO_free rfl rfl _ (fun w' => by go_simp; exact Gives.mk _ _) (fun K hK => ?_); go_simp; refine hK _ ?_; clear hK K) | (refine wpRO_skipF rfl rfl (fun K hK => ?_); go_simp; refine hK _ ?_; clear hK K)
          first | (refine wpRO_free rfl rfl _ (fun w' => by go_simp; exact Gives.mk _ _) (fun K hK => ?_); go_simp; refine hK _ ?_; clear hK K) | (refine wpRO_skipF rfl rfl (fun K hK => ?_); go_simp; refine hK _ ?_; clear hK K)
          first | (refine wpRO_free rfl rfl _ (fun w' => by go_simp; exact Gives.mk _ _) (fun K hK => ?_); go_simp; refine hK _ ?_; clear hK K) | (refine wpRO_skipF rfl rfl (fun K hK => ?_); go_simp; refine hK _ ?_; clear hK K)
          first | (refine wpRO_free rfl rfl _ (fun w' => by go_simp; exact Gives.mk _ _) (fun K hK => ?_); go_simp; refine hK _ ?_; clear hK K) | (refine wpRO_skipF rfl rfl (fun K hK => ?_); go_simp; refine hK _ ?_; clear hK K)
          first | (refine wpRO_free rfl rfl _ (fun w' => by go_simp; exact Gives.mk _ _) (fun K hK => ?_); go_simp; refine hK _ ?_; clear hK K) | (refine wpRO_skipF rfl rfl (fun K hK => ?_); go_simp; refine hK _ ?_; clear hK K)
          first | (refine wpRO_free rfl rfl _ (fun w' => by go_simp; exact Gives.mk _ _) (fun K hK => ?_); go_simp; refine hK _ ?_; clear hK K) | (refine wpRO_skipF rfl rfl (fun K hK => ?_); go_simp; refine hK _ ?_; clear hK K)
          refine wpRO_fin ?_
          clear hx1 hy1 hx2 hy2 hx3 hy3 hLu hTi hSi hLz
          go_upto_region 13 with fail
          go_cut [5] (fun v wx => ∃ N : Nat, v = .int .i64 N ∧ T + N ≤ L ∧ S + N ≤ L ∧ wx = wr.drew)
          case first =>
            by_cases hTS : S ≤ T
            · have hTS2 : (S : Int) ≤ (T : Int) := by omega
              have hmx : max (T : Int) (S : Int) = (T : Int) := by omega
              obtain ⟨N, hN⟩ : ∃ N, N = un64 z % (L - T + 1) := ⟨_, rfl⟩
              have hNl : N < L - T + 1 := by rw [hN]; exact Nat.mod_lt _ (by omega)
              have hc1 : ((L - T + 1 : Nat) : Int) = (L : Int) - T + 1 := by omega
              have hw1 : IntKind.u64.wrap ((L : Int) - T + 1) = (L : Int) - T + 1 := by rw [un64_wrap]; unfold un64; omega
              have hz2 : ((un64 z : Int)).tmod ((L : Int) - T + 1) = (N : Int) := by rw [← hc1, un64_mod _ _ (by omega), hN]
              have hz3 : ((un64 z : Int)) % ((L : Int) - T + 1) = (N : Int) := by rw [← hc1, hN]; rfl
              have hNz : ¬ ((L : Int) - T + 1 = 0) := by omega
              have hNi : IntKind.i64.wrap (N : Int) = (N : Int) := IntWalk.i64_in _ (by omega)
              clear hN hc1
              go_wp2_with fail
              go_meet
              exact ⟨N, rfl, by omega, by omega, rfl⟩
            · have hTS2 : (T : Int) < (S : Int) := by omega
              have hmx : max (T : Int) (S : Int) = (S : Int) := by omega
              obtain ⟨N, hN⟩ : ∃ N, N = un64 z % (L - S + 1) := ⟨_, rfl⟩
              have hNl : N < L - S + 1 := by rw [hN]; exact Nat.mod_lt _ (by omega)
              have hc1 : ((L - S + 1 : Nat) : Int) = (L : Int) - S + 1 := by omega
              have hw1 : IntKind.u64.wrap ((L : Int) - S + 1) = (L : Int) - S + 1 := by rw [un64_wrap]; unfold un64; omega
              have hz2 : ((un64 z : Int)).tmod ((L : Int) - S + 1) = (N : Int) := by rw [← hc1, un64_mod _ _ (by omega), hN]
              have hz3 : ((un64 z : Int)) % ((L : Int) - S + 1) = (N : Int) := by rw [← hc1, hN]; rfl
              have hNz : ¬ ((L : Int) - S + 1 = 0) := by omega
              have hNi : IntKind.i64.wrap (N : Int) = (N : Int) := IntWalk.i64_in _ (by omega)
              clear hN hc1
              go_wp2_with fail
              go_meet
              exact ⟨N, rfl, by omega, by omega, rfl⟩
          case rest =>
            obtain ⟨N, rfl, hTN, hSN, rfl⟩ := hcut
            have HI6 := Lib.hid (GI.out.keep (Keeps.refl (fun _ => False) wr).drew)
            clear hz1 GI
            go_wp2_with fail
            refine (Words_c _ HI6.out.hA).mono ?_
            rintro e w6 ⟨uo, uc, rfl, hs6, hk6, ho6⟩
            have HI7 := Lib.hid (HI6.out.keep hk6); have HS7 := Lib.hid hs6
            have HO7 : Hid (∀ k, ownB (.slice uo A.ws.length uc) k → ¬ (k = p ∨ k = g)) := fun k hk h => by
              have h1 := ho6 k hk; have h2 := HI6.out.hA.hp.lt; have h3 := HI6.out.hA.hg.lt; omega
            clear hs6 hk6 ho6 HI6
            go_wp2_with fail
            refine (Move_c T S N _ HI7.out.hA (by rw [HLL.out]; omega) (by rw [HLL.out]; omega) (by rw [HLL.out]; omega) (by rw [HLL.out]; omega)).mono ?_
            rintro e w7 ⟨rfl, ht⟩
            have hlm : (A.move T S N).ws.length = A.ws.length := lay_length (by rw [HLL.out]; simp; omega)
            have HLM := Lib.hid hlm
            have HI8 := Lib.hid (HI7.out.to ht rfl hlm); have HS8 := Lib.hid (HS7.out.keep ht.k (fun k hk h => HO7.out k hk h))
            have HGET : Hid (∀ j : Nat, j < A.ws.length → (A.move T S N).ws.getD j 0 = if T ≤ j ∧ j < T + N then A.ws.getD (S + j - T) 0 else A.ws.getD j 0) := fun j hj => by
              have hl : ((A.ws.drop S).take N).length = N := by have := HLL.out; simp; omega
              show (lay A.ws T ((A.ws.drop S).take N)).getD j 0 = _
              rw [lay_getD (by rw [hl, HLL.out]; omega), hl]
              split
              · rename_i hc
                simp only [List.getD_eq_getElem?_getD, List.getElem?_take, List.getElem?_drop]
                rw [if_pos (by omega)]
                congr 2; omega
              · rfl
            clear ht HI7 HS7 HO7 hlm
            generalize A.move T S N = A5 at *
            go_wp2_with fail
            refine (Words_c _ HI8.out.hA).mono ?_
            rintro e w8 ⟨vo, vc, rfl, hs8, hk8, -⟩
            have HI9 := Lib.hid (HI8.out.keep hk8); have HS9 := Lib.hid (HS8.out.keep hk8 (fun _ _ h => h))
            rw [HLM.out] at hs8 ⊢
            have HV9 := Lib.hid hs8
            clear hs8 hk8 HI8 HS8
            rw [HLL.out] at HS9 HV9 ⊢
            go_wp2_with fail
            go_loopw [19] (fun i wx => ∃ j : Nat, j ≤ L ∧ i = .int .i64 j ∧ Keeps (fun _ => False) w8 wx) (fun i _ => L - (intOf i).toNat)
            case atStart => exact ⟨0, Nat.zero_le _, rfl, Keeps.refl _ _⟩
            case round =>
              obtain ⟨j, hj, rfl, hkx⟩ := hrel
              have HKX := Lib.hid hkx; clear hkx
              by_cases hlt2 : j < L
              · obtain ⟨_, _, e', hr1, -, -⟩ := (HS9.out.keep HKX.out (fun _ _ h => h)).rd
                cases e'
                have hLw : A.ws.length = L := HLL.out
                obtain ⟨ug, uo, rfl, _, u0⟩ := hr1.num j (by omega)
                obtain ⟨_, _, e', hr2, -, -⟩ := (HV9.out.keep HKX.out (fun _ _ h => h)).rd
                cases e'
                have hl5 : j < A5.ws.length := by rw [HLM.out]; omega
                obtain ⟨vg, vo, rfl, _, v0⟩ := hr2.num j hl5
                rw [HGET.out j (by omega)] at v0
                by_cases hT1 : T ≤ j
                · by_cases hT2 : j < T + N
                  · obtain ⟨_, _, e', _, u1⟩ := hr1.num (S + j - T) (by omega)
                    cases e'
                    rw [if_pos ⟨hT1, hT2⟩] at v0
                    generalize A.ws.getD (S + j - T) 0 = v at *
                    have hix : ((S : Int) + j - T).toNat = S + j - T := by omega
                    have hix2 : (S : Int) + j - T = ((S + j - T : Nat) : Int) := by omega
                    have hix3 : S + j - T < L := by omega
                    clear hr1 hr2 hl5 hLw
                    go_wp2_with fail
                    go_roundw
                    case rel => exact ⟨j + 1, by omega, by go_num, HKX.out⟩
                    case measure => simp [intOf]; omega
                  · rw [if_neg (fun h => hT2 h.2)] at v0
                    clear hr1 hr2 hl5 hLw
                    go_wp2_with fail
                    go_roundw
                    case rel => exact ⟨j + 1, by omega, by go_num, HKX.out⟩
                    case measure => simp [intOf]; omega
                · rw [if_neg (fun h => hT1 h.1)] at v0
                  clear hr1 hr2 hl5 hLw
                  go_wp2_with fail
                  go_roundw
                  case rel => exact ⟨j + 1, by omega, by go_num, HKX.out⟩
                  case measure => simp [intOf]; omega
              · obtain rfl : j = L := by omega
                go_wp2_with fail
                go_ret
                exact ⟨rfl, HI9.out.hK.trans HKX.out⟩

theorem ArenaMoves_walk (n o : Int) (lo : Option Addr) (lc : Nat) (xs : List Int) (x y z : Int) (w : World) (_ : R64 n) (_ : R64 o) (h0 : Rd w lo (xs.map (Value.int .i64))) (hl0 : xs.length ≤ maxLen) (hb : ∀ x ∈ xs, R64 x) (hx : R64 x) (hy : R64 y) (hz : R64 z) :
    Calls Try.prog 3 #[.int .i64 n, .int .i64 o, .slice lo xs.length lc, .int .i64 x, .int .i64 y, .int .i64 z] w fun e w' => e = .returned (.bool true) ∧ Below w.heap.size w w' :=
  (ArenaMoves_raw n o lo lc xs x y z w h0 hl0 hb hx hy hz).mono fun e w' h => ⟨h.1, h.2.below (fun _ _ h => h)⟩

end Go.Proofs.Ytjifdalflepcoab
