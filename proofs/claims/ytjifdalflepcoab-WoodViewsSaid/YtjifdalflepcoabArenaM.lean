/-
  arena.Move, Bounds.
-/
import Derived.Test.YtjifdalflepcoabArena3
namespace Go.Proofs.Ytjifdalflepcoab
open Go.RowKit
set_option linter.unusedVariables false
set_option linter.unusedSimpArgs false

def Ar.move (A : Ar) (dst fr n : Nat) : Ar := { A with ws := lay A.ws dst ((A.ws.drop fr).take n) }

theorem Ar.ok.move {A : Ar} (h : A.ok) {dst fr n : Nat} (h1 : dst + n ≤ A.ws.length) (h2 : fr + n ≤ A.ws.length) : (A.move dst fr n).ok := by
  have hl : (lay A.ws dst ((A.ws.drop fr).take n)).length = A.ws.length := lay_length (by simp; omega)
  refine ⟨h.h1, h.h2, ?_, ?_, fun x hx => ?_⟩
  · show A.grn ≤ (lay _ _ _).length; rw [hl]; exact h.h3
  · show (lay _ _ _).length ≤ 1280; rw [hl]; exact h.h4
  · rcases lay_mem hx with h1 | h1
    · exact h.hw x h1
    · exact h.hw x (List.mem_of_mem_drop (List.mem_of_mem_take h1))

section
variable {p g : Nat} {A : Ar}

set_option maxHeartbeats 4000000 in
set_option maxRecDepth 100000 in
theorem Move_c (dst fr n : Nat) (w : World) (h : ArenaAt w p g A) (h1 : dst + n ≤ A.ws.length) (h2 : fr + n ≤ A.ws.length) (h3 : dst < A.ws.length) (h4 : fr < A.ws.length) :
    Calls Try.prog 19 #[.pointer (some ⟨p, 0, none⟩), .int .i64 dst, .int .i64 fr, .int .i64 n] w fun e w' => e = .returned (.tuple #[]) ∧ ArenaTo w p g w' (A.move dst fr n) := by
  have H := Lib.hid h
  have o4 := h.ok.h4
  have HOK := Lib.hid (h.ok.move h1 h2)
  obtain ⟨c0, -, -, -⟩ := h.cells
  have pl := h.hp.lt; have gl := h.hg.lt
  clear h
  have hw1 : IntKind.i64.wrap ((dst : Int) + n) = (dst : Int) + n := IntWalk.i64_in _ (by omega)
  have hw2 : IntKind.i64.wrap ((fr : Int) + n) = (fr : Int) + n := IntWalk.i64_in _ (by omega)
  have b1 : (dst : Int) ≤ (dst : Int) + n := by omega
  have b2 : (dst : Int) + n ≤ (A.ws.length : Int) := by omega
  have b3 : (fr : Int) ≤ (fr : Int) + n := by omega
  have b4 : (fr : Int) + n ≤ (A.ws.length : Int) := by omega
  have b5 : (0 : Int) ≤ (dst : Int) + n := by omega
  have b6 : (0 : Int) ≤ (fr : Int) + n := by omega
  have b7 : ((dst : Int) + n).toNat = dst + n := by omega
  have b8 : ((fr : Int) + n).toNat = fr + n := by omega
  have q1 : ¬ A.ws.length = dst := by omega
  have q2 : ¬ A.ws.length = fr := by omega
  go_enter Try.func19, Try.ntmps19
  refine wp_region_ro (.free 0 (.free 1 (.free 2 (.free 4 (.free 5 (.free 6 (.free 7 (.free 9 (.free 10 (.free 11 (.free 13 (.free 14 (.free 15 (.free 16 (.pure 3 (.free 8 (.pure 12 (.free 17 (.run 18 (.swi [] (.fin))))))))))))))))))))) [18] (fun w' => w'.cell? ⟨p, 0, none⟩ = some (.slice (some ⟨g, 0, none⟩) A.ws.length A.ws.length)) (by kernel_rfl) (by kernel_rfl) c0 ?_
  first | (refine wpRO_free rfl rfl _ (fun w' => by go_simp; exact Gives.mk _ _) (fun K hK => ?_); go_simp; refine hK _ ?_; clear hK K) | (refine wpRO_skipF rfl rfl (fun K hK => ?_); go_simp; refine hK _ ?_; clear hK K)
  first | (refine wpRO_free rfl rfl _ (fun w' => by go_simp; exact Gives.mk _ _) (fun K hK => ?_); go_simp; refine hK _ ?_; clear hK K) | (refine wpRO_skipF rfl rfl (fun K hK => ?_); go_simp; refine hK _ ?_; clear hK K)
  first | (refine wpRO_free rfl rfl _ (fun w' => by go_simp; exact Gives.mk _ _) (fun K hK => ?_); go_simp; refine hK _ ?_; clear hK K) | (refine wpRO_skipF rfl rfl (fun K hK => ?_); go_simp; refine hK _ ?_; clear hK K)
  first | (refine wpRO_free rfl rfl _ (fun w' => by go_simp; exact Gives.mk _ _) (fun K hK => ?_); go_simp; refine hK _ ?_; clear hK K) | (refine wpRO_skipF rfl rfl (fun K hK => ?_); go_simp; refine hK _ ?_; clear hK K)
  first | (refine wpRO_free rfl rfl _ (fun w' => by go_simp; exact Gives.mk _ _) (fun K hK => ?_); go_simp; refine hK _ ?_; clear hK K) | (refine wpRO_skipF rfl rfl (fun K hK => ?_); go_simp; refine hK _ ?_; clear hK K)
  first | (refine wpRO_free rfl rfl _ (fun w' => by go_simp; exact Gives.mk _ _) (fun K hK => ?_); go_simp; refine hK _ ?_; clear hK K) | (refine wpRO_skipF rfl rfl (fun K hK => ?_); go_simp; refine hK _ ?_; clear hK K)
  first | (refine wpRO_free rfl rfl _ (fun w' => by go_simp; exact Gives.mk _ _) (fun K hK => ?_); go_simp; refine hK _ ?_; clear hK K) | (refine wpRO_skipF rfl rfl (fun K hK => ?_); go_simp; refine hK _ ?_; clear hK K)
  first | (refine wpRO_free rfl rfl _ (fun w' => by go_simp; exact Gives.mk _ _) (fun K hK => ?_); go_simp; refine hK _ ?_; clear hK K) | (refine wpRO_skipF rfl rfl (fun K hK => ?_); go_simp; refine hK _ ?_; clear hK K)
  first | (refine wpRO_free rfl rfl _ (fun w' => by go_simp; exact Gives.mk _ _) (fun K hK => ?_); go_simp; refine hK _ ?_; clear hK K) | (refine wpRO_skipF rfl rfl (fun K hK => ?_); go_simp; refine hK _ ?_; clear hK K)
  first | (refine wpRO_free rfl rfl _ (fun w' => by go_simp; exact Gives.mk _ _) (fun K hK => ?_); go_simp; refine hK _ ?_; clear hK K) | (refine wpRO_skipF rfl rfl (fun K hK => ?_); go_simp; refine hK _ ?_; clear hK K)
  first | (refine wpRO_free rfl rfl _ (fun w' => by go_simp; exact Gives.mk _ _) (fun K hK => ?_); go_simp; refine hK _ ?_; clear hK K) | (refine wpRO_skipF rfl rfl (fun K hK => ?_); go_simp; refine hK _ ?_; clear hK K)
  first | (refine wpRO_free rfl rfl _ (fun w' => by go_simp; exact Gives.mk _ _) (fun K hK => ?_); go_simp; refine hK _ ?_; clear hK K) | (refine wpRO_skipF rfl rfl (fun K hK => ?_); go_simp; refine hK _ ?_; clear hK K)
  first | (refine wpRO_free rfl rfl _ (fun w' => by go_simp; exact Gives.mk _ _) (fun K hK => ?_); go_simp; refine hK _ ?_; clear hK K) | (refine wpRO_skipF rfl rfl (fun K hK => ?_); go_simp; refine hK _ ?_; clear hK K)
  first | (refine wpRO_free rfl rfl _ (fun w' => by go_simp; exact Gives.mk _ _) (fun K hK => ?_); go_simp; refine hK _ ?_; clear hK K) | (refine wpRO_skipF rfl rfl (fun K hK => ?_); go_simp; refine hK _ ?_; clear hK K)
  first | (refine wpRO_pure rfl rfl _ (fun w' hG => by obtain g0 := hG; exact gives_agg2 rfl (by decide +kernel) rfl (by assumption) (by assumption)) (fun K hK => ?_); go_simp; refine hK _ ?_; clear hK K) | (refine wpRO_pure rfl rfl _ (fun w' hG => by obtain g0 := hG; go_simp; exact Gives.mk _ _) (fun K hK => ?_); go_simp; refine hK _ ?_; clear hK K) | (refine wpRO_skip rfl rfl (fun K hK => ?_); go_simp; refine hK _ ?_; clear hK K)
  first | (refine wpRO_free rfl rfl _ (fun w' => by go_simp; exact Gives.mk _ _) (fun K hK => ?_); go_simp; refine hK _ ?_; clear hK K) | (refine wpRO_skipF rfl rfl (fun K hK => ?_); go_simp; refine hK _ ?_; clear hK K)
  first | (refine wpRO_pure rfl rfl _ (fun w' hG => by obtain g0 := hG; exact gives_agg2 rfl (by decide +kernel) rfl (by assumption) (by assumption)) (fun K hK => ?_); go_simp; refine hK _ ?_; clear hK K) | (refine wpRO_pure rfl rfl _ (fun w' hG => by obtain g0 := hG; go_simp; exact Gives.mk _ _) (fun K hK => ?_); go_simp; refine hK _ ?_; clear hK K) | (refine wpRO_skip rfl rfl (fun K hK => ?_); go_simp; refine hK _ ?_; clear hK K)
  first | (refine wpRO_free rfl rfl _ (fun w' => by go_simp; exact Gives.mk _ _) (fun K hK => ?_); go_simp; refine hK _ ?_; clear hK K) | (refine wpRO_skipF rfl rfl (fun K hK => ?_); go_simp; refine hK _ ?_; clear hK K)
  clear hw1 hw2 b1 b2 b3 b4 b5 b6 b7 b8
  have hcl : (((A.ws.drop fr).take n).map (Value.int .i64)).length = n := by simp; omega
  have HCL := Lib.hid hcl; clear hcl
  refine wpRO_chg rfl rfl rfl (fun K hK => ?_)
  refine gRun_copy (.tmp 16) (.tmp 25) 22 rfl 2 Try.underlying22 (by kernel_rfl) g dst _ _ ⟨g, fr, none⟩ _ _ (by rfl) (by rfl) (A.ws.map (Value.int .i64)) H.out.hg.drew (((A.ws.drop fr).take n).map (Value.int .i64)) ?hn ?hsrc ?hfit int_one' ?_
  case hn => rw [HCL.out]; show n = min _ _; omega
  case hsrc =>
    intro j v hj
    have hlt := (List.getElem?_eq_some_iff.1 hj).1
    rw [HCL.out] at hlt
    rw [addr_add]
    show w.cell? ⟨g, fr + j, none⟩ = some v
    rw [H.out.hg.cell (fr + j), ← hj]
    simp only [List.getElem?_map, List.getElem?_take, List.getElem?_drop, if_pos hlt]
  case hfit => rw [HCL.out]; simpa using h1
  refine hK _ _ ?_
  clear hK K
  have hb5 : Blk (w.drew.setRow g ((A.ws.map (Value.int .i64)).take dst ++ ((A.ws.drop fr).take n).map (Value.int .i64) ++ (A.ws.map (Value.int .i64)).drop (dst + (((A.ws.drop fr).take n).map (Value.int .i64)).length)).toArray) g ((lay A.ws dst ((A.ws.drop fr).take n)).map (Value.int .i64)) 2 := by
    rw [lay_map]; exact Blk.setRow (w := w.drew) H.out.hg.drew _
  have hp5 := H.out.hp.drew.setRowOther H.out.ne ((A.ws.map (Value.int .i64)).take dst ++ ((A.ws.drop fr).take n).map (Value.int .i64) ++ (A.ws.map (Value.int .i64)).drop (dst + (((A.ws.drop fr).take n).map (Value.int .i64)).length)).toArray
  have hk5 := ((Keeps.refl (fun b => b = p ∨ b = g) w).drew).setRow (g := g) (.inl (.inr rfl)) ((A.ws.map (Value.int .i64)).take dst ++ ((A.ws.drop fr).take n).map (Value.int .i64) ++ (A.ws.map (Value.int .i64)).drop (dst + (((A.ws.drop fr).take n).map (Value.int .i64)).length)).toArray
  generalize w.drew.setRow g _ = w5 at *
  have HB5 := Lib.hid hb5; have HP5 := Lib.hid hp5; have HK5 := Lib.hid hk5
  clear hb5 hp5 hk5
  refine wpRO_swi (fun _ => True) trivial (wpRO_fin ?_)
  go_wp2_with fail
  go_end0
  have hl : (lay A.ws dst ((A.ws.drop fr).take n)).length = A.ws.length := lay_length (by have := HCL.out; simp only [List.length_map] at this; omega)
  refine ⟨rfl, ⟨?_, HB5.out, HOK.out⟩, HK5.out⟩
  show Blk w5 p [.slice (some ⟨g, 0, none⟩) (lay A.ws dst ((A.ws.drop fr).take n)).length (lay A.ws dst ((A.ws.drop fr).take n)).length, _, _, _] _
  rw [hl]
  exact HP5.out

set_option maxHeartbeats 1000000 in
set_option maxRecDepth 100000 in
theorem Bounds_c (w : World) (h : ArenaAt w p g A) :
    Calls Try.prog 31 #[.pointer (some ⟨p, 0, none⟩)] w fun e w' => e = .returned (.tuple #[.int .i64 0, .int .i64 A.nur]) ∧ Keeps (fun _ => False) w w' := by
  obtain ⟨-, c1, -, -⟩ := h.cells
  have pl := h.hp.lt
  go_enter Try.func31, Try.ntmps31
  go_wp2_with fail
  refine wp_region_ro (.free 0 (.free 1 (.free 2 (.free 4 (.pure 3 (.free 5 (.fin))))))) [] (fun w' => w'.cell? ⟨p, 1, none⟩ = some (.int .i64 A.nur)) (by kernel_rfl) (by kernel_rfl) c1 ?_
  first | (refine wpRO_free rfl rfl _ (fun w' => by go_simp; exact Gives.mk _ _) (fun K hK => ?_); go_simp; refine hK _ ?_; clear hK K) | (refine wpRO_skipF rfl rfl (fun K hK => ?_); go_simp; refine hK _ ?_; clear hK K)
  first | (refine wpRO_free rfl rfl _ (fun w' => by go_simp; exact Gives.mk _ _) (fun K hK => ?_); go_simp; refine hK _ ?_; clear hK K) | (refine wpRO_skipF rfl rfl (fun K hK => ?_); go_simp; refine hK _ ?_; clear hK K)
  first | (refine wpRO_free rfl rfl _ (fun w' => by go_simp; exact Gives.mk _ _) (fun K hK => ?_); go_simp; refine hK _ ?_; clear hK K) | (refine wpRO_skipF rfl rfl (fun K hK => ?_); go_simp; refine hK _ ?_; clear hK K)
  first | (refine wpRO_free rfl rfl _ (fun w' => by go_simp; exact Gives.mk _ _) (fun K hK => ?_); go_simp; refine hK _ ?_; clear hK K) | (refine wpRO_skipF rfl rfl (fun K hK => ?_); go_simp; refine hK _ ?_; clear hK K)
  first | (refine wpRO_pure rfl rfl _ (fun w' hG => by obtain g0 := hG; exact gives_agg2 rfl (by decide +kernel) rfl (by assumption) (by assumption)) (fun K hK => ?_); go_simp; refine hK _ ?_; clear hK K) | (refine wpRO_pure rfl rfl _ (fun w' hG => by obtain g0 := hG; go_simp; exact Gives.mk _ _) (fun K hK => ?_); go_simp; refine hK _ ?_; clear hK K) | (refine wpRO_skip rfl rfl (fun K hK => ?_); go_simp; refine hK _ ?_; clear hK K)
  first | (refine wpRO_free rfl rfl _ (fun w' => by go_simp; exact Gives.mk _ _) (fun K hK => ?_); go_simp; refine hK _ ?_; clear hK K) | (refine wpRO_skipF rfl rfl (fun K hK => ?_); go_simp; refine hK _ ?_; clear hK K)
  refine wpRO_fin ?_
  go_wp2_with fail
  go_ret2
  exact ⟨rfl, (Keeps.refl _ _).drew⟩
end

end Go.Proofs.Ytjifdalflepcoab
