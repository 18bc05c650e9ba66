/-
  The reference's Room in memory: things, Things.
-/
import Derived.Test.YtjifdalflepcoabRoom3
namespace Go.Proofs.Ytjifdalflepcoab
open Go.RowKit
set_option linter.unusedVariables false
set_option linter.unusedSimpArgs false

section
variable {p g : Nat} {A : Ar}

set_option maxHeartbeats 4000000 in
set_option maxRecDepth 100000 in
theorem rthings_c (i j : Int) (w : World) (h : RoomAt w p g A) (hi : 0 ≤ i) (hi2 : i ≤ 1280) (hj : j ≤ 1280) :
    Calls Try.prog 87 #[.pointer (some ⟨p, 0, none⟩), .int .i64 i, .int .i64 j] w fun e w' => NumsRet 3 w e w' (A.list 1300 i j) := by
  have H := Lib.hid h
  obtain ⟨i0, hi0, hz0, hz1, hz2⟩ := info_parts info_int
  have Hi := Lib.hid hi0; have Hz0 := Lib.hid hz0; have Hz1 := Lib.hid hz1; have Hz2 := Lib.hid hz2; clear hi0 hz0 hz1 hz2
  clear h
  go_enter Try.func87, Try.ntmps87
  go_wp2_with fail
  go_loopw [1, 7] (fun k v wr => ∃ (n : Nat) (c : Int) (done : List Int), k = .int .i64 c ∧ 0 ≤ c ∧ c ≤ 1300 ∧ done ++ A.list n c j = A.list 1300 i j ∧ (j - c).toNat < n ∧ done.length + (j - c).toNat ≤ 1300 ∧ Sl wr 3 1 v done.length (done.map (Value.int .i64)) ∧ Keeps (fun _ => False) w wr ∧ ∀ b, ownB v b → w.heap.size ≤ b) (fun k _ _ => (j - intOf k).toNat)
  case atStart =>
    exact ⟨1300, i, [], rfl, hi, by omega, rfl, by omega, by simp; omega, Sl.nil _ _ _, Keeps.refl _ _, fun b hb => (nil_own hb).elim⟩
  case round =>
    obtain ⟨n, c, done, rfl, hc0, hc1, hd, hn, hl, hs, hk, ho⟩ := hrel
    have HD := Lib.hid hd; have HS := Lib.hid hs; have HK := Lib.hid hk; have HO := Lib.hid ho
    clear hd hs hk ho
    obtain ⟨ao, cap, rfl, -, -, -⟩ := HS.out.rd
    by_cases hlt : c < j
    · have hfl := A.thing_fields c
      obtain ⟨⟨k, m, e⟩, hT⟩ : ∃ t, A.thing c = t := ⟨_, rfl⟩
      rw [hT] at hfl
      dsimp only at hfl
      have HT := Lib.hid hT; clear hT
      go_wp2_with fail
      refine (RThing_c c _ (H.out.keep HK.out (fun h => h) (fun h => h)) (by unfold R64; omega)).mono ?_
      rintro e w1 ⟨rfl, hk1⟩
      rw [HT.out]
      dsimp only
      have HKW := Lib.hid (HK.out.trans hk1); have HSW := Lib.hid (HS.out.keep hk1 (fun _ _ h => h))
      have hsz1 := hk1.size
      clear hk1
      by_cases he : e = 0
      · subst he
        obtain ⟨n, rfl⟩ : ∃ q, n = q + 1 := ⟨n - 1, by omega⟩
        have HST := Lib.hid (Ar.list_step (n := n) hlt (by rw [HT.out]))
        go_wp2_with (at_builtin; refine wpList_app rfl (.tmp 23) (.tmp 25) 50 rfl 3 i0 (.int .i64 0) 1 8 Try.underlying50 Hi.out Hz0.out Hz1.out Hz2.out rfl (by decide) _ done.length (done.map (Value.int .i64)) rfl (HSW.out.keep ((Keeps.refl (fun _ => False) w1).alloc _) (fun _ _ h => h)) ⟨w1.heap.size, 0, none⟩ 1 1 [.int .i64 c] rfl rfl (news_at w1 3 #[.int .i64 c]) (by intro u hu; simp at hu; subst hu; rfl) (by unfold maxLen; omega) (by omega) ?_)
        intro v2 w2 hs2 hk2 ho2
        have HK2 := Lib.hid ((HKW.out.alloc (.cells #[.int .i64 c] 3)).then hk2 (fun b hb => .inr (HO.out b hb)))
        have HO2 : Hid (∀ b, ownB v2 b → w.heap.size ≤ b) := fun b hb => by
          rcases ho2 b hb with h | h
          · exact HO.out b h
          · have := HKW.out.size; first | omega | (simp at h; omega)
        have HS2 := Lib.hid hs2
        clear hs2 hk2 ho2
        go_wp2_with fail
        go_roundw
        case rel => exact ⟨n, c + 1 + m, done ++ [c], int_eq (by omega), by omega, by omega, by rw [← HD.out, HST.out, HT.out]; simp, by omega, by simp; omega, by simpa using HS2.out, HK2.out, HO2.out⟩
        case measure => simp [intOf]; omega
      · have heb : (e != 0) = true := by simpa using he
        have HE := Lib.hid (Ar.list_end (n := n) (j := j) (fun h => he (by have := h.2; rw [HT.out] at this; exact this)))
        clear he
        go_wp2_with fail
        go_ret
        have hd := HD.out
        rw [HE.out, List.append_nil] at hd
        rw [← hd]
        exact ⟨ao, cap, rfl, HSW.out, HKW.out, HO.out⟩
    · have HE := Lib.hid (Ar.list_end (A := A) (n := n) (i := c) (j := j) (fun h => hlt h.1))
      go_wp2_with fail
      go_ret
      have hd := HD.out
      rw [HE.out, List.append_nil] at hd
      rw [← hd]
      exact ⟨ao, cap, rfl, HS.out, HK.out, HO.out⟩

set_option maxHeartbeats 4000000 in
set_option maxRecDepth 100000 in
theorem RThings_c (w : World) (h : RoomAt w p g A) :
    Calls Try.prog 35 #[.pointer (some ⟨p, 0, none⟩)] w fun e w' => ThingsRet A w e w' := by
  have o1 := h.ok.h1; have o2 := h.ok.h2; have o3 := h.ok.h3; have o4 := h.ok.h4
  have HLA : Hid (A.things = (A.list 1300 0 A.yng, A.list 1300 A.nur A.grn)) := rfl
  have hw0 : IntKind.i64.wrap ((A.nur : Int) + ((A.grn - A.nur : Nat) : Int)) = (A.grn : Int) := by rw [show (A.nur : Int) + ((A.grn - A.nur : Nat) : Int) = (A.grn : Int) by omega]; exact IntWalk.i64_in _ (by omega)
  have H := Lib.hid h
  obtain ⟨-, c1, c2, c3⟩ := h.cells
  have pl := h.hp.lt
  clear h
  go_enter Try.func35, Try.ntmps35
  go_wp2_with fail
  refine wp_region_ro (.free 0 (.free 1 (.free 2 (.free 3 (.free 6 (.free 7 (.free 8 (.free 9 (.free 11 (.free 12 (.free 13 (.free 15 (.free 16 (.free 17 (.pure 4 (.pure 10 (.pure 14 (.pure 18 (.free 19 (.run 5 (.run 20 (.swi [] (.free 21 (.free 22 (.fin))))))))))))))))))))))))) [20, 21, 22] (fun w' => w'.cell? ⟨p, 1, none⟩ = some (.int .i64 A.nur) ∧ w'.cell? ⟨p, 2, none⟩ = some (.int .i64 A.yng) ∧ w'.cell? ⟨p, 3, none⟩ = some (.int .i64 ((A.grn - A.nur : Nat) : Int))) (by kernel_rfl) (by kernel_rfl) ⟨c1, c2, c3⟩ ?_
  first | (refine wpRO_free rfl rfl _ (fun w' => by go_simp; exact Gives.mk _ _) (fun K hK => ?_); go_simp; refine hK _ ?_; clear hK K) | (refine wpRO_skipF rfl rfl (fun K hK => ?_); go_simp; refine hK _ ?_; clear hK K)
  first | (refine wpRO_free rfl rfl _ (fun w' => by go_simp; exact Gives.mk _ _) (fun K hK => ?_); go_simp; refine hK _ ?_; clear hK K) | (refine wpRO_skipF rfl rfl (fun K hK => ?_); go_simp; refine hK _ ?_; clear hK K)
  first | (refine wpRO_free rfl rfl _ (fun w' => by go_simp; exact Gives.mk _ _) (fun K hK => ?_); go_simp; refine hK _ ?_; clear hK K) | (refine wpRO_skipF rfl rfl (fun K hK => ?_); go_simp; refine hK _ ?_; clear hK K)
  first | (refine wpRO_free rfl rfl _ (fun w' => by go_simp; exact Gives.mk _ _) (fun K hK => ?_); go_simp; refine hK _ ?_; clear hK K) | (refine wpRO_skipF rfl rfl (fun K hK => ?_); go_simp; refine hK _ ?_; clear hK K)
  first | (refine wpRO_free rfl rfl _ (fun w' => by go_simp; exact Gives.mk _ _) (fun K hK => ?_); go_simp; refine hK _ ?_; clear hK K) | (refine wpRO_skipF rfl rfl (fun K hK => ?_); go_simp; refine hK _ ?_; clear hK K)
  first | (refine wpRO_free rfl rfl _ (fun w' => by go_simp; exact Gives.mk _ _) (fun K hK => ?_); go_simp; refine hK _ ?_; clear hK K) | (refine wpRO_skipF rfl rfl (fun K hK => ?_); go_simp; refine hK _ ?_; clear hK K)
  first | (refine wpRO_free rfl rfl _ (fun w' => by go_simp; exact Gives.mk _ _) (fun K hK => ?_); go_simp; refine hK _ ?_; clear hK K) | (refine wpRO_skipF rfl rfl (fun K hK => ?_); go_simp; refine hK _ ?_; clear hK K)
  first | (refine wpRO_free rfl rfl _ (fun w' => by go_simp; exact Gives.mk _ _) (fun K hK => ?_); go_simp; refine hK _ ?_; clear hK K) | (refine wpRO_skipF rfl rfl (fun K hK => ?_); go_simp; refine hK _ ?_; clear hK K)
  first | (refine wpRO_free rfl rfl _ (fun w' => by go_simp; exact Gives.mk _ _) (fun K hK => ?_); go_simp; refine hK _ ?_; clear hK K) | (refine wpRO_skipF rfl rfl (fun K hK => ?_); go_simp; refine hK _ ?_; clear hK K)
  first | (refine wpRO_free rfl rfl _ (fun w' => by go_simp; exact Gives.mk _ _) (fun K hK => ?_); go_simp; refine hK _ ?_; clear hK K) | (refine wpRO_skipF rfl rfl (fun K hK => ?_); go_simp; refine hK _ ?_; clear hK K)
  first | (refine wpRO_free rfl rfl _ (fun w' => by go_simp; exact Gives.mk _ _) (fun K hK => ?_); go_simp; refine hK _ ?_; clear hK K) | (refine wpRO_skipF rfl rfl (fun K hK => ?_); go_simp; refine hK _ ?_; clear hK K)
  first | (refine wpRO_free rfl rfl _ (fun w' => by go_simp; exact Gives.mk _ _) (fun K hK => ?_); go_simp; refine hK _ ?_; clear hK K) | (refine wpRO_skipF rfl rfl (fun K hK => ?_); go_simp; refine hK _ ?_; clear hK K)
  first | (refine wpRO_free rfl rfl _ (fun w' => by go_simp; exact Gives.mk _ _) (fun K hK => ?_); go_simp; refine hK _ ?_; clear hK K) | (refine wpRO_skipF rfl rfl (fun K hK => ?_); go_simp; refine hK _ ?_; clear hK K)
  first | (refine wpRO_free rfl rfl _ (fun w' => by go_simp; exact Gives.mk _ _) (fun K hK => ?_); go_simp; refine hK _ ?_; clear hK K) | (refine wpRO_skipF rfl rfl (fun K hK => ?_); go_simp; refine hK _ ?_; clear hK K)
  first | (refine wpRO_pure rfl rfl _ (fun w' hG => by obtain ⟨g0, g1, g2⟩ := hG; exact gives_agg2 rfl (by decide +kernel) rfl (by assumption) (by assumption)) (fun K hK => ?_); go_simp; refine hK _ ?_; clear hK K) | (refine wpRO_pure rfl rfl _ (fun w' hG => by obtain ⟨g0, g1, g2⟩ := hG; go_simp; exact Gives.mk _ _) (fun K hK => ?_); go_simp; refine hK _ ?_; clear hK K) | (refine wpRO_skip rfl rfl (fun K hK => ?_); go_simp; refine hK _ ?_; clear hK K)
  first | (refine wpRO_pure rfl rfl _ (fun w' hG => by obtain ⟨g0, g1, g2⟩ := hG; exact gives_agg2 rfl (by decide +kernel) rfl (by assumption) (by assumption)) (fun K hK => ?_); go_simp; refine hK _ ?_; clear hK K) | (refine wpRO_pure rfl rfl _ (fun w' hG => by obtain ⟨g0, g1, g2⟩ := hG; go_simp; exact Gives.mk _ _) (fun K hK => ?_); go_simp; refine hK _ ?_; clear hK K) | (refine wpRO_skip rfl rfl (fun K hK => ?_); go_simp; refine hK _ ?_; clear hK K)
  first | (refine wpRO_pure rfl rfl _ (fun w' hG => by obtain ⟨g0, g1, g2⟩ := hG; exact gives_agg2 rfl (by decide +kernel) rfl (by assumption) (by assumption)) (fun K hK => ?_); go_simp; refine hK _ ?_; clear hK K) | (refine wpRO_pure rfl rfl _ (fun w' hG => by obtain ⟨g0, g1, g2⟩ := hG; go_simp; exact Gives.mk _ _) (fun K hK => ?_); go_simp; refine hK _ ?_; clear hK K) | (refine wpRO_skip rfl rfl (fun K hK => ?_); go_simp; refine hK _ ?_; clear hK K)
  first | (refine wpRO_pure rfl rfl _ (fun w' hG => by obtain ⟨g0, g1, g2⟩ := hG; exact gives_agg2 rfl (by decide +kernel) rfl (by assumption) (by assumption)) (fun K hK => ?_); go_simp; refine hK _ ?_; clear hK K) | (refine wpRO_pure rfl rfl _ (fun w' hG => by obtain ⟨g0, g1, g2⟩ := hG; go_simp; exact Gives.mk _ _) (fun K hK => ?_); go_simp; refine hK _ ?_; clear hK K) | (refine wpRO_skip rfl rfl (fun K hK => ?_); go_simp; refine hK _ ?_; clear hK K)
  first | (refine wpRO_free rfl rfl _ (fun w' => by go_simp; exact Gives.mk _ _) (fun K hK => ?_); go_simp; refine hK _ ?_; clear hK K) | (refine wpRO_skipF rfl rfl (fun K hK => ?_); go_simp; refine hK _ ?_; clear hK K)
  have H1 := Lib.hid (H.out.keep (Keeps.refl (fun _ => False) w).drew (fun h => h) (fun h => h)); have HK1 := Lib.hid ((Keeps.refl (fun _ => False) w).drew)
  refine wpRO_run rfl rfl (fun K hK => ?_); unfold gRun; go_simp
  refine (rthings_c 0 A.yng _ H1.out (by omega) (by omega) (by omega)).mono ?_
  rintro e w2 ⟨ao, ac, rfl, hs2, hk2, ho2⟩
  have H2 := Lib.hid (H1.out.keep hk2 (fun h => h) (fun h => h)); have HK2 := Lib.hid (HK1.out.trans hk2)
  have HS2 := Lib.hid hs2
  have HO2 : Hid (∀ k, ownB (.slice ao (A.list 1300 0 A.yng).length ac) k → w.heap.size ≤ k) := fun k hk => ho2 k hk
  refine hK _ _ (fun _ => ⟨H2.out.cells.2.1, H2.out.cells.2.2.1, H2.out.cells.2.2.2⟩) ?_
  clear hK K hs2 hk2 ho2
  refine wpRO_chg rfl rfl rfl (fun K hK => ?_); unfold gRun; go_simp
  refine (rthings_c A.nur A.grn _ H2.out (by omega) (by omega) (by omega)).mono ?_
  rintro e w3 ⟨bo, bc, rfl, hs3, hk3, ho3⟩
  have HS3 := Lib.hid hs3; have HS23 := Lib.hid (HS2.out.keep hk3 (fun _ _ h => h)); have HK3 := Lib.hid (HK2.out.trans hk3)
  have HO3 : Hid (∀ k, ownB (.slice bo (A.list 1300 A.nur A.grn).length bc) k → w.heap.size ≤ k) := fun k hk => Nat.le_trans HK2.out.size (ho3 k hk)
  refine hK _ _ ?_
  clear hK K hs3 hk3 ho3 c1 c2 c3
  refine wpRO_swi (fun _ => True) trivial ?_
  first | (refine wpRO_free rfl rfl _ (fun w' => by go_simp; exact Gives.mk _ _) (fun K hK => ?_); go_simp; refine hK _ ?_; clear hK K) | (refine wpRO_skipF rfl rfl (fun K hK => ?_); go_simp; refine hK _ ?_; clear hK K)
  first | (refine wpRO_free rfl rfl _ (fun w' => by go_simp; exact Gives.mk _ _) (fun K hK => ?_); go_simp; refine hK _ ?_; clear hK K) | (refine wpRO_skipF rfl rfl (fun K hK => ?_); go_simp; refine hK _ ?_; clear hK K)
  refine wpRO_fin ?_
  go_wp2_with fail
  go_ret2
  unfold ThingsRet
  rw [HLA.out]
  exact ⟨ao, ac, bo, bc, rfl, HS23.out, HS3.out, HK3.out, HO2.out, HO3.out⟩
end

end Go.Proofs.Ytjifdalflepcoab
