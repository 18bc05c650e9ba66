/-
  arena.Copy, Words, New, Things.
-/
import Derived.Test.YtjifdalflepcoabArena2
import Derived.Outline
namespace Go.Proofs.Ytjifdalflepcoab
open Go.RowKit
set_option linter.unusedVariables false
set_option linter.unusedSimpArgs false

theorem int_one' {l : List Int} : ∀ u ∈ l.map (Value.int .i64), u.oneCell' = true := by
  intro u hu; simp only [List.mem_map] at hu; obtain ⟨x, -, rfl⟩ := hu; rfl

section
variable {p g : Nat} {A : Ar}

set_option maxHeartbeats 4000000 in
set_option maxRecDepth 100000 in
theorem ACopy_c (i : Int) (w : World) (h : ArenaAt w p g A) :
    Calls Try.prog 25 #[.pointer (some ⟨p, 0, none⟩), .int .i64 i] w fun e w' => e = .returned (.int .i64 (A.copy i).1) ∧ ArenaTo w p g w' (A.copy i).2 := by
  have H := Lib.hid h
  have o1 := h.ok.h1; have o2 := h.ok.h2; have o3 := h.ok.h3; have o4 := h.ok.h4
  have HOK := Lib.hid (h.ok.copy i)
  have hfl := A.thing_fields i
  have HU := Lib.hid (A.thing_use (i := i))
  have HUL := Lib.hid (h.ok.use_lt (i := i))
  have HNO := Lib.hid (Ar.copy_no (A := A) (i := i)); have HYES := Lib.hid (Ar.copy_yes (A := A) (i := i))
  have HWS := Lib.hid (Ar.whole_spec h.ok (i := i) (n := (A.thing i).2.1) hfl.1)
  clear h
  obtain ⟨⟨k, n, c⟩, hT⟩ : ∃ t, A.thing i = t := ⟨_, rfl⟩
  rw [hT] at hfl HU HNO HYES HWS
  dsimp only at hfl HU HNO HYES HWS
  have HT := Lib.hid hT
  clear hT
  obtain ⟨n, rfl⟩ : ∃ q : Nat, n = q := ⟨n.toNat, by omega⟩
  have hn : n ≤ 12 := by omega
  clear hfl
  go_enter Try.func25, Try.ntmps25
  go_wp2_with fail
  refine (Thing_c i _ H.out).mono ?_
  rintro e w1 ⟨rfl, rfl⟩
  rw [HT.out]
  dsimp only
  by_cases hc : c = 0
  · subst hc
    have hu := HUL.out (HU.out rfl)
    obtain ⟨m, rfl⟩ : ∃ m : Nat, i = m := ⟨i.toNat, by omega⟩
    have hm : m < 1280 := by omega
    have HW : Hid (A.whole m n = ((A.young m && A.young ((m : Int) + n)) || (A.old m && A.old ((m : Int) + n)))) := rfl
    have HYO : Hid (A.young m = true → A.old m = false) := fun h => by
      simp [Ar.young] at h; simp [Ar.old]; omega
    clear hu
    go_upto_region 2 with fail
    go_cut [42] (fun v wx => v = .bool (!A.whole m n) ∧ wx = w)
    case first =>
      cases hy : A.young m
      · cases ho : A.old m
        · have HX := Lib.hid (show A.whole m n = false by rw [HW.out, hy, ho]; rfl)
          go_wp2_with fail
          refine (Young_c m _ H.out).mono ?_
          rintro e w1 ⟨rfl, rfl⟩
          rw [hy]
          go_wp2_with fail
          refine (Old_c m _ H.out).mono ?_
          rintro e w1 ⟨rfl, rfl⟩
          rw [ho]
          go_wp2_with fail
          go_meet
          exact ⟨by rw [HX.out]; rfl, rfl⟩
        · have HX := Lib.hid (show A.whole m n = A.old ((m : Int) + n) by rw [HW.out, hy, ho]; simp)
          go_wp2_with fail
          refine (Young_c m _ H.out).mono ?_
          rintro e w1 ⟨rfl, rfl⟩
          rw [hy]
          go_wp2_with fail
          refine (Old_c m _ H.out).mono ?_
          rintro e w1 ⟨rfl, rfl⟩
          rw [ho]
          go_wp2_with fail
          refine (Old_c ((m : Int) + n) _ H.out).mono ?_
          rintro e w1 ⟨rfl, rfl⟩
          rw [← HX.out]
          go_wp2_with fail
          go_meet
          exact ⟨rfl, rfl⟩
      · have ho := HYO.out hy
        cases hy2 : A.young ((m : Int) + n)
        · have HX := Lib.hid (show A.whole m n = false by rw [HW.out, hy, hy2, ho]; simp)
          go_wp2_with fail
          refine (Young_c m _ H.out).mono ?_
          rintro e w1 ⟨rfl, rfl⟩
          rw [hy]
          go_wp2_with fail
          refine (Young_c ((m : Int) + n) _ H.out).mono ?_
          rintro e w1 ⟨rfl, rfl⟩
          rw [hy2]
          go_wp2_with fail
          refine (Old_c m _ H.out).mono ?_
          rintro e w1 ⟨rfl, rfl⟩
          rw [ho]
          go_wp2_with fail
          go_meet
          exact ⟨by rw [HX.out]; rfl, rfl⟩
        · have HX := Lib.hid (show A.whole m n = true by rw [HW.out, hy, hy2]; simp)
          go_wp2_with fail
          refine (Young_c m _ H.out).mono ?_
          rintro e w1 ⟨rfl, rfl⟩
          rw [hy]
          go_wp2_with fail
          refine (Young_c ((m : Int) + n) _ H.out).mono ?_
          rintro e w1 ⟨rfl, rfl⟩
          rw [hy2]
          go_wp2_with fail
          go_meet
          exact ⟨by rw [HX.out]; rfl, rfl⟩
    case rest =>
      obtain ⟨rfl, rfl⟩ := hcut
      cases hw : A.whole m n
      · have HE := Lib.hid (HNO.out (by rw [hw]; simp))
        go_wp2_with fail
        go_ret
        exact ⟨by rw [HE.out]; rfl, by rw [HE.out]; exact ArenaTo.refl H.out (Keeps.refl _ _)⟩
      · have hws := HWS.out hw
        by_cases hroom : 1 + (n : Int) ≤ (A.ws.length : Int) - A.grn
        · have HE := Lib.hid (HYES.out ⟨rfl, hw, hroom⟩)
          have HTK := Lib.hid (show A.takeO (1 + (n : Int)) = ((A.grn : Int), { A with grn := A.grn + (1 + (n : Int)).toNat }) from if_pos ⟨by omega, hroom⟩)
          go_wp2_with fail
          refine (takeO_c (1 + (n : Int)) _ H.out (by omega) (by omega)).mono ?_
          rintro e w2 ⟨rfl, hto⟩
          rw [HTK.out] at hto ⊢
          dsimp only at hto ⊢
          have HTO := Lib.hid hto
          obtain ⟨c0, -, -, -⟩ := hto.at_.cells
          have pl := hto.at_.hp.lt; have gl := hto.at_.hg.lt
          dsimp only at c0
          clear hto
          have hw1 : IntKind.i64.wrap ((A.grn : Int) + 1) = (A.grn : Int) + 1 := IntWalk.i64_in _ (by omega)
          have hw2 : IntKind.i64.wrap ((A.grn : Int) + 1 + n) = (A.grn : Int) + 1 + n := IntWalk.i64_in _ (by omega)
          have hw3 : IntKind.i64.wrap ((m : Int) + 1) = (m : Int) + 1 := IntWalk.i64_in _ (by omega)
          have hw4 : IntKind.i64.wrap ((m : Int) + 1 + n) = (m : Int) + 1 + n := IntWalk.i64_in _ (by omega)
          have b1 : (A.grn : Int) ≤ (A.grn : Int) + 1 + n := by omega
          have b2 : (A.grn : Int) + 1 + n ≤ (A.ws.length : Int) := by omega
          have b3 : (m : Int) ≤ (m : Int) + 1 + n := by omega
          have b4 : (m : Int) + 1 + n ≤ (A.ws.length : Int) := by omega
          have b5 : (0 : Int) ≤ (A.grn : Int) + 1 + n := by omega
          have b6 : (0 : Int) ≤ (m : Int) + 1 + n := by omega
          have b7 : ((A.grn : Int) + 1 + n).toNat = A.grn + 1 + n := by omega
          have b8 : ((m : Int) + 1 + n).toNat = m + 1 + n := by omega
          have q1 : ¬ A.ws.length = A.grn := by omega
          have q2 : ¬ A.ws.length = m := by omega
          go_wp2_with fail
          refine wp_region_ro (.free 0 (.free 1 (.free 2 (.free 4 (.free 5 (.free 6 (.free 7 (.free 8 (.free 10 (.free 11 (.free 12 (.free 14 (.free 15 (.free 16 (.free 17 (.free 18 (.pure 3 (.free 9 (.pure 13 (.free 19 (.run 20 (.swi [] (.fin))))))))))))))))))))))) [20] (fun w' => w'.cell? ⟨p, 0, none⟩ = some (.slice (some ⟨g, 0, none⟩) A.ws.length A.ws.length)) (by kernel_rfl) (by kernel_rfl) c0 ?_
          first | (refine wpRO_free rfl rfl _ (fun w' => by go_simp; exact Gives.mk _ _) (fun K hK => ?_); go_simp; refine hK _ ?_; clear hK K) | (refine wpRO_skipF rfl rfl (fun K hK => ?_); go_simp; refine hK _ ?_; clear hK K)
          first | (refine wpRO_free rfl rfl _ (fun w' => by go_simp; exact Gives.mk _ _) (fun K hK => ?_); go_simp; refine hK _ ?_; clear hK K) | (refine wpRO_skipF rfl rfl (fun K hK => ?_); go_simp; refine hK _ ?_; clear hK K)
          first | (refine wpRO_free rfl rfl _ (fun w' => by go_simp; exact Gives.mk _ _) (fun K hK => ?_); go_simp; refine hK _ ?_; clear hK K) | (refine wpRO_skipF rfl rfl (fun K hK => ?_); go_simp; refine hK _ ?_; clear hK K)
          first | (refine wpRO_free rfl rfl _ (fun w' => by go_simp; exact Gives.mk _ _) (fun K hK => ?_); go_simp; refine hK _ ?_; clear hK K) | (refine wpRO_skipF rfl rfl (fun K hK => ?_); go_simp; refine hK _ ?_; clear hK K)
          first | (refine wpRO_free rfl rfl _ (fun w' => by go_simp; exact Gives.mk _ _) (fun K hK => ?_); go_simp; refine hK _ ?_; clear hK K) | (refine wpRO_skipF rfl rfl (fun K hK => ?_); go_simp; refine hK _ ?_; clear hK K)
          first | (refine wpRO_free rfl rfl _ (fun w' => by go_simp; exact Gives.mk _ _) (fun K hK => ?_); go_simp; refine hK _ ?_; clear hK K) | (refine wpRO_skipF rfl rfl (fun K hK => ?_); go_simp; refine hK _ ?_; clear hK K)
          first | (refine wpRO_free rfl rfl _ (fun w' => by go_simp; exact Gives.mk _ _) (fun K hK => ?_); go_simp; refine hK _ ?_; clear hK K) | (refine wpRO_skipF rfl rfl (fun K hK => ?_); go_simp; refine hK _ ?_; clear hK K)
          first | (refine wpRO_free rfl rfl _ (fun w' => by go_simp; exact Gives.mk _ _) (fun K hK => ?_); go_simp; refine hK _ ?_; clear hK K) | (refine wpRO_skipF rfl rfl (fun K hK => ?_); go_simp; refine hK _ ?_; clear hK K)
          first | (refine wpRO_free rfl rfl _ (fun w' => by go_simp; exact Gives.mk _ _) (fun K hK => ?_); go_simp; refine hK _ ?_; clear hK K) | (refine wpRO_skipF rfl rfl (fun K hK => ?_); go_simp; refine hK _ ?_; clear hK K)
          first | (refine wpRO_free rfl rfl _ (fun w' => by go_simp; exact Gives.mk _ _) (fun K hK => ?_); go_simp; refine hK _ ?_; clear hK K) | (refine wpRO_skipF rfl rfl (fun K hK => ?_); go_simp; refine hK _ ?_; clear hK K)
          first | (refine wpRO_free rfl rfl _ (fun w' => by go_simp; exact Gives.mk _ _) (fun K hK => ?_); go_simp; refine hK _ ?_; clear hK K) | (refine wpRO_skipF rfl rfl (fun K hK => ?_); go_simp; refine hK _ ?_; clear hK K)
          first | (refine wpRO_free rfl rfl _ (fun w' => by go_simp; exact Gives.mk _ _) (fun K hK => ?_); go_simp; refine hK _ ?_; clear hK K) | (refine wpRO_skipF rfl rfl (fun K hK => ?_); go_simp; refine hK _ ?_; clear hK K)
          first | (refine wpRO_free rfl rfl _ (fun w' => by go_simp; exact Gives.mk _ _) (fun K hK => ?_); go_simp; refine hK _ ?_; clear hK K) | (refine wpRO_skipF rfl rfl (fun K hK => ?_); go_simp; refine hK _ ?_; clear hK K)
          first | (refine wpRO_free rfl rfl _ (fun w' => by go_simp; exact Gives.mk _ _) (fun K hK => ?_); go_simp; refine hK _ ?_; clear hK K) | (refine wpRO_skipF rfl rfl (fun K hK => ?_); go_simp; refine hK _ ?_; clear hK K)
          first | (refine wpRO_free rfl rfl _ (fun w' => by go_simp; exact Gives.mk _ _) (fun K hK => ?_); go_simp; refine hK _ ?_; clear hK K) | (refine wpRO_skipF rfl rfl (fun K hK => ?_); go_simp; refine hK _ ?_; clear hK K)
          first | (refine wpRO_free rfl rfl _ (fun w' => by go_simp; exact Gives.mk _ _) (fun K hK => ?_); go_simp; refine hK _ ?_; clear hK K) | (refine wpRO_skipF rfl rfl (fun K hK => ?_); go_simp; refine hK _ ?_; clear hK K)
          first | (refine wpRO_pure rfl rfl _ (fun w' hG => by obtain g0 := hG; exact gives_agg2 rfl (by decide +kernel) rfl (by assumption) (by assumption)) (fun K hK => ?_); go_simp; refine hK _ ?_; clear hK K) | (refine wpRO_pure rfl rfl _ (fun w' hG => by obtain g0 := hG; go_simp; exact Gives.mk _ _) (fun K hK => ?_); go_simp; refine hK _ ?_; clear hK K) | (refine wpRO_skip rfl rfl (fun K hK => ?_); go_simp; refine hK _ ?_; clear hK K)
          first | (refine wpRO_free rfl rfl _ (fun w' => by go_simp; exact Gives.mk _ _) (fun K hK => ?_); go_simp; refine hK _ ?_; clear hK K) | (refine wpRO_skipF rfl rfl (fun K hK => ?_); go_simp; refine hK _ ?_; clear hK K)
          first | (refine wpRO_pure rfl rfl _ (fun w' hG => by obtain g0 := hG; exact gives_agg2 rfl (by decide +kernel) rfl (by assumption) (by assumption)) (fun K hK => ?_); go_simp; refine hK _ ?_; clear hK K) | (refine wpRO_pure rfl rfl _ (fun w' hG => by obtain g0 := hG; go_simp; exact Gives.mk _ _) (fun K hK => ?_); go_simp; refine hK _ ?_; clear hK K) | (refine wpRO_skip rfl rfl (fun K hK => ?_); go_simp; refine hK _ ?_; clear hK K)
          first | (refine wpRO_free rfl rfl _ (fun w' => by go_simp; exact Gives.mk _ _) (fun K hK => ?_); go_simp; refine hK _ ?_; clear hK K) | (refine wpRO_skipF rfl rfl (fun K hK => ?_); go_simp; refine hK _ ?_; clear hK K)
          clear hw1 hw2 hw3 hw4 b1 b2 b3 b4 b5 b6 b7 b8
          have hcl : (((A.ws.drop m).take (1 + n)).map (Value.int .i64)).length = 1 + n := by simp; omega
          have hfit : A.grn + (1 + n) ≤ A.ws.length := by omega
          have HCL := Lib.hid hcl; clear hcl
          refine wpRO_chg rfl rfl rfl (fun K hK => ?_)
          refine gRun_copy (.tmp 58) (.tmp 68) 22 rfl 2 Try.underlying22 (by kernel_rfl) g A.grn _ _ ⟨g, m, none⟩ _ _ (by rfl) (by rfl) (A.ws.map (Value.int .i64)) HTO.out.at_.hg.drew (((A.ws.drop m).take (1 + n)).map (Value.int .i64)) ?hn ?hsrc ?hfit int_one' ?_
          case hn => rw [HCL.out]; show 1 + n = min _ _; omega
          case hsrc =>
            intro j v hj
            have hlt := (List.getElem?_eq_some_iff.1 hj).1
            rw [HCL.out] at hlt
            have hg := HTO.out.at_.hg.cell (m + j)
            dsimp only at hg
            rw [addr_add]
            show w2.cell? ⟨g, m + j, none⟩ = some v
            rw [hg, ← hj]
            simp only [List.getElem?_map, List.getElem?_take, List.getElem?_drop, if_pos hlt]
          case hfit => rw [HCL.out]; simpa using hfit
          refine hK _ _ ?_
          clear hK K
          have hb5 : Blk (w2.drew.setRow g ((A.ws.map (Value.int .i64)).take A.grn ++ ((A.ws.drop m).take (1 + n)).map (Value.int .i64) ++ (A.ws.map (Value.int .i64)).drop (A.grn + (((A.ws.drop m).take (1 + n)).map (Value.int .i64)).length)).toArray) g ((lay A.ws A.grn ((A.ws.drop m).take (1 + n))).map (Value.int .i64)) 2 := by
            rw [lay_map]; exact Blk.setRow (w := w2.drew) HTO.out.at_.hg.drew _
          have hp5 := HTO.out.at_.hp.drew.setRowOther H.out.ne ((A.ws.map (Value.int .i64)).take A.grn ++ ((A.ws.drop m).take (1 + n)).map (Value.int .i64) ++ (A.ws.map (Value.int .i64)).drop (A.grn + (((A.ws.drop m).take (1 + n)).map (Value.int .i64)).length)).toArray
          have hk5 := (HTO.out.k.drew).setRow (g := g) (.inl (.inr rfl)) ((A.ws.map (Value.int .i64)).take A.grn ++ ((A.ws.drop m).take (1 + n)).map (Value.int .i64) ++ (A.ws.map (Value.int .i64)).drop (A.grn + (((A.ws.drop m).take (1 + n)).map (Value.int .i64)).length)).toArray
          dsimp only at hp5
          generalize w2.drew.setRow g _ = w5 at *
          have HB5 := Lib.hid hb5; have HP5 := Lib.hid hp5; have HK5 := Lib.hid hk5
          clear hb5 hp5 hk5
          refine wpRO_swi (fun _ => True) trivial (wpRO_fin ?_)
          go_wp2_with fail
          go_ret
          have hok := HOK.out
          rw [HE.out] at hok ⊢
          have ho2 : lay A.ws A.grn ((A.ws.drop ((m : Int)).toNat).take (1 + (n : Int)).toNat) = lay A.ws A.grn ((A.ws.drop m).take (1 + n)) := by
            rw [show ((m : Int)).toNat = m by omega, show (1 + (n : Int)).toNat = 1 + n by omega]
          have hl : (lay A.ws A.grn ((A.ws.drop m).take (1 + n))).length = A.ws.length := lay_length (by have := HCL.out; simp only [List.length_map] at this; omega)
          refine ⟨rfl, ⟨?_, ?_, hok⟩, HK5.out⟩
          · dsimp only
            rw [ho2, hl]
            exact HP5.out
          · dsimp only
            rw [ho2]
            exact HB5.out
        · have HE := Lib.hid (HNO.out (fun h => hroom h.2.2))
          have HTK := Lib.hid (show A.takeO (1 + (n : Int)) = (-1, A) from if_neg (fun h => hroom h.2))
          go_wp2_with fail
          refine (takeO_c (1 + (n : Int)) _ H.out (by omega) (by omega)).mono ?_
          rintro e w2 ⟨rfl, hto⟩
          rw [HTK.out] at hto ⊢
          dsimp only at hto ⊢
          go_wp2_with fail
          go_ret
          exact ⟨by rw [HE.out]; rfl, by rw [HE.out]; exact hto⟩
  · have HE := Lib.hid (HNO.out (fun h => hc h.1))
    have hcb : (c != 0) = true := by simpa using hc
    clear hc
    go_wp2_with fail
    go_ret
    exact ⟨by rw [HE.out]; rfl, by rw [HE.out]; exact ArenaTo.refl H.out (Keeps.refl _ _)⟩
end

end Go.Proofs.Ytjifdalflepcoab
