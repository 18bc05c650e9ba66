/-
  The reference of word.Parts: each kind and number of fields is tried.
-/
import Derived.Test.YtjifdalflepcoabWordR
namespace Go.Proofs.Ytjifdalflepcoab
open Go.RowKit
set_option linter.unusedVariables false
set_option linter.unusedSimpArgs false

/-- No kind below k, and at k no number below n, has this first word. -/
def NoneW (h : Int) (k n : Nat) : Prop := ∀ (i j : Nat), (i < k ∨ i = k ∧ j < n) → fitsW i j = true → 16 * (j : Int) + i ≠ h

theorem NoneW.all {h : Int} (hn : NoneW h 6 0) : partsW h = (0, 0, 7) := by
  apply partsW_no
  cases hf : fitsW (h % 16) (h / 16)
  · rfl
  · have hb := fitsW_spec hf
    have := hn (h % 16).toNat (h / 16).toNat (.inl (by omega)) (by
      rw [Int.toNat_of_nonneg (by omega), Int.toNat_of_nonneg (by omega)]; exact hf)
    exfalso; apply this
    rw [Int.toNat_of_nonneg (by omega), Int.toNat_of_nonneg (by omega)]; omega

theorem NoneW.next {h : Int} {k n : Nat} (hn : NoneW h k n) (hx : fitsW k n = true → 16 * (n : Int) + k ≠ h) : NoneW h k (n + 1) := by
  intro i j hij hf
  by_cases e : i = k ∧ j = n
  · obtain ⟨rfl, rfl⟩ := e; exact hx hf
  · exact hn i j (by omega) hf

theorem NoneW.row {h : Int} {k : Nat} (hn : NoneW h k 13) : NoneW h (k + 1) 0 := by
  intro i j hij hf
  have := fitsW_spec hf
  exact hn i j (by omega) hf

theorem found {h : Int} {k n : Int} (hf : fitsW k n = true) (e : 16 * n + k = h) : partsW h = (k, n, 0) := by
  have hb := fitsW_spec hf
  have h1 : h % 16 = k := by omega
  have h2 : h / 16 = n := by omega
  rw [partsW_yes (by rw [h1, h2]; exact hf), h1, h2]

set_option maxHeartbeats 2000000 in
theorem PartsOf_c (h : Int) (w : World) :
    Calls Try.prog 85 #[.int .i64 h] w fun e w' => e = .returned (.tuple #[.int .i64 (partsW h).1, .int .i64 (partsW h).2.1, .int .i64 (partsW h).2.2]) ∧ w = w' := by
  go_enter Try.func85, Try.ntmps85
  go_wp2_with fail
  go_loop [5] (fun i => ∃ k : Nat, 1 ≤ k ∧ k ≤ 6 ∧ i = .int .i64 k ∧ NoneW h k 0) (fun i => 6 - (intOf i).toNat)
  case atStart => exact ⟨1, by omega, by omega, rfl, by intro i j hij hf; have := fitsW_spec hf; omega⟩
  case round =>
    obtain ⟨k, hk1, hk, rfl, hnone⟩ := hrel
    have HN := Lib.hid hnone; clear hnone
    by_cases hlt : k ≤ 5
    · go_wp2_with fail
      go_loop [6] (fun i => ∃ n : Nat, n ≤ 13 ∧ i = .int .i64 n ∧ NoneW h k n) (fun i => 13 - (intOf i).toNat)
      case atStart => exact ⟨0, by omega, rfl, HN.out⟩
      case round =>
        obtain ⟨n, hn, rfl, hno⟩ := hrel
        have HO := Lib.hid hno; clear hno
        by_cases hlt2 : n ≤ 12
        · cases hf : fitsW k n
          · have hc := (headW_code hf).2
            have hc' : ((headW k n).2 == 0) = false := by simpa using hc
            clear hc
            have HF := Lib.hid hf; clear hf
            go_wp2_with fail
            refine (HeadOf_c k n _ (by omega) (by omega)).mono ?_
            rintro e w' ⟨rfl, rfl⟩
            go_wp2
            go_round
            case rel => exact ⟨n + 1, by omega, by go_num, HO.out.next (by rw [HF.out]; intro h; cases h)⟩
            case measure => simp [intOf]; omega
          · have HC := Lib.hid (headW_fits hf)
            have HF := Lib.hid hf; clear hf
            by_cases e : 16 * (n : Int) + k = h
            · have he : (16 * (n : Int) + k == h) = true := by simpa using e
              have HE := Lib.hid (found HF.out e); clear e
              go_wp2_with fail
              refine (HeadOf_c k n _ (by omega) (by omega)).mono ?_
              rintro e w' ⟨rfl, rfl⟩
              rw [HC.out]
              go_wp2
              go_ret3
              exact ⟨ret_three HE.out, rfl⟩
            · have he : (16 * (n : Int) + k == h) = false := by simpa using e
              have HE := Lib.hid e; clear e
              go_wp2_with fail
              refine (HeadOf_c k n _ (by omega) (by omega)).mono ?_
              rintro e w' ⟨rfl, rfl⟩
              rw [HC.out]
              go_wp2
              go_round
              case rel => exact ⟨n + 1, by omega, by go_num, HO.out.next (fun _ => HE.out)⟩
              case measure => simp [intOf]; omega
        · obtain rfl : n = 13 := by omega
          go_wp2
          go_round
          case rel => exact ⟨k + 1, by omega, by omega, by go_num, HO.out.row⟩
          case measure => simp [intOf]; omega
    · obtain rfl : k = 6 := by omega
      have HE := Lib.hid HN.out.all
      go_wp2
      go_ret3
      exact ⟨ret_three HE.out, rfl⟩

end Go.Proofs.Ytjifdalflepcoab
