/-
  The walk of WordBack.
-/
import Derived.Test.YtjifdalflepcoaaWordLaw
import Derived.Deep.DeepCutAuto
namespace Go.Proofs.Ytjifdalflepcoaa
open Go.RowKit
set_option linter.unusedVariables false
set_option linter.unusedSimpArgs false

theorem decW_encW {k n : Int} (h : (encW k n).2 = 0) : decW (encW k n).1 = (k, n, 0) := by
  by_cases k3 : k = 3
  · subst k3
    by_cases c : 0 ≤ n ∧ n < 1152921504606846976
    · rw [encW_ref c]; exact decW_of_ref c
    · rw [encW_ref_no c] at h; exact absurd h (by decide)
  by_cases k1 : k = 1
  · subst k1
    by_cases c : -1152921504606846976 ≤ n ∧ n < 1152921504606846976
    · rw [encW_int c]
      have h4 : 4 * n / 4 = n := by omega
      show decW (4 * n) = _
      rw [decW_int (by omega) (by rw [h4]; exact c), h4]
    · rw [encW_int_no c] at h; exact absurd h (by decide)
  by_cases k0 : k = 0
  · subst k0
    by_cases n0 : n = 0
    · subst n0; rfl
    · simp [encW, n0] at h
  by_cases k2 : k = 2
  · subst k2
    by_cases n0 : n = 0
    · subst n0; rfl
    · simp [encW, n0] at h
  rw [encW_other k0 k1 k2 k3] at h; exact absurd h (by decide)

theorem encW_decW {x : Int} (h : (decW x).2.2 = 0) : encW (decW x).1 (decW x).2.1 = (x, 0) := by
  have hx : x = 4 * (x / 4) ∨ x = 4 * (x / 4) + 1 ∨ x = 4 * (x / 4) + 2 ∨ x = 4 * (x / 4) + 3 := by omega
  generalize x / 4 = m at hx
  rcases hx with rfl | rfl | rfl | rfl
  · rw [decW_enc0] at h ⊢
    by_cases c : (encW 1 m).2 = 0
    · rw [if_pos c]
      by_cases d : -1152921504606846976 ≤ m ∧ m < 1152921504606846976
      · exact encW_int d
      · rw [encW_int_no d] at c; exact absurd c (by decide)
    · rw [if_neg c] at h; exact absurd h c
  · rw [decW_enc1] at h ⊢
    by_cases c : (encW 3 m).2 = 0
    · rw [if_pos c]
      by_cases d : 0 ≤ m ∧ m < 1152921504606846976
      · exact encW_ref d
      · rw [encW_ref_no d] at c; exact absurd c (by decide)
    · rw [if_neg c] at h; exact absurd h c
  · rw [decW_enc2] at h ⊢
    by_cases c : (encW 0 m).2 = 0
    · rw [if_pos c]
      by_cases d : m = 0
      · subst d; rfl
      · simp [encW, d] at c
    · rw [if_neg c] at h; exact absurd h c
  · rw [decW_enc3] at h ⊢
    by_cases c : (encW 2 m).2 = 0
    · rw [if_pos c]
      by_cases d : m = 0
      · subst d; rfl
      · simp [encW, d] at c
    · rw [if_neg c] at h; exact absurd h c

theorem encW_inj {k n k' n' : Int} (h : (encW k n).2 = 0) (h' : (encW k' n').2 = 0) : (encW k n).1 = (encW k' n').1 ↔ (k = k' ∧ n = n') := by
  constructor
  · intro e
    have h1 := decW_encW h; have h2 := decW_encW h'
    rw [e, h2] at h1
    simp at h1
    exact ⟨h1.1.symm, h1.2.symm⟩
  · rintro ⟨rfl, rfl⟩; rfl

theorem decW_bounds (x : Int) (h1 : -9223372036854775808 ≤ x) (h2 : x ≤ 9223372036854775807) : -9223372036854775808 ≤ (decW x).2.1 ∧ (decW x).2.1 ≤ 9223372036854775807 := by
  unfold decW
  repeat' split
  all_goals (simp only; omega)

set_option maxHeartbeats 2000000 in
set_option maxRecDepth 100000 in
theorem WordBack_go (k n k' n' x kind fields : Int) (w : World) (n1 : -9223372036854775808 ≤ n) (n2 : n ≤ 9223372036854775807) (m1 : -9223372036854775808 ≤ n') (m2 : n' ≤ 9223372036854775807)
    (x1 : -9223372036854775808 ≤ x) (x2 : x ≤ 9223372036854775807) (f1 : -9223372036854775808 ≤ fields) (f2 : fields ≤ 9223372036854775807) :
    Calls Try.prog 8 #[.agg #[.int .i64 k, .int .i64 n], .agg #[.int .i64 k', .int .i64 n'], .int .i64 x, .int .i64 kind, .int .i64 fields] w fun e w' => e = .returned (.bool true) ∧ Keeps (fun _ => False) w w' := by
  go_enter Try.func8, Try.ntmps8
  go_wp2_with fail
  refine (wordBegun_c _).mono ?_
  rintro e w1 ⟨rfl, hk1⟩
  have hb0 := hk1.blk ((Blk.newAt (w := w) (b := w.heap.size) (T := 54) #[.int .i64 k, .int .i64 n] rfl rfl).alloc _) (fun h => h)
  have hb1 := hk1.blk (Blk.newAt (w := w.alloc (.cells #[.int .i64 k, .int .i64 n] 54)) (b := w.heap.size + 1) (T := 54) #[.int .i64 k', .int .i64 n'] (by simp) rfl) (fun h => h)
  have hk0 : Keeps (fun _ => False) w w1 := (((Keeps.refl (fun _ => False) w).alloc _).alloc _).trans hk1
  have c0 := hb0.cell 0; have c1 := hb0.cell 1; have c2 := hb1.cell 0; have c3 := hb1.cell 1
  simp only [List.getElem?_cons_zero, List.getElem?_cons_succ] at c0 c1 c2 c3
  have HB0 := Lib.hid hb0; have HB1 := Lib.hid hb1; have HK0 := Lib.hid hk0; clear hb0 hb1 hk0 hk1
  go_wp2_with fail
  refine (Encode_c k n _ n1 n2).mono ?_
  rintro e w2 ⟨rfl, hk2⟩
  have HB0' := Lib.hid (hk2.blk HB0.out (fun h => h)); have HB1' := Lib.hid (hk2.blk HB1.out (fun h => h)); have HK2 := Lib.hid (HK0.out.trans hk2)
  clear c0 c1 c2 c3 hk2 HB0 HB1 HK0
  have c0 := HB0'.out.cell 0; have c1 := HB0'.out.cell 1; have c2 := HB1'.out.cell 0; have c3 := HB1'.out.cell 1
  simp only [List.getElem?_cons_zero, List.getElem?_cons_succ] at c0 c1 c2 c3
  go_wp2_with fail
  refine (Encode_c k' n' _ m1 m2).mono ?_
  rintro e w3 ⟨rfl, hk3⟩
  have HB0 := Lib.hid (hk3.blk HB0'.out (fun h => h)); have HB1 := Lib.hid (hk3.blk HB1'.out (fun h => h)); have HK3 := Lib.hid (HK2.out.trans hk3)
  clear c0 c1 c2 c3 hk3 HB0' HB1' HK2
  go_upto_if 42 with fail
  go_cut [15, 16] (fun _ _ wc => Keeps (fun _ => False) w wc)
  case first =>
    cases hc : ((encW k n).2 == 0)
    · go_wp2_with fail
      go_meet
      exact HK3.out
    · have hc0 : (encW k n).2 = 0 := by simpa using hc
      have HD := Lib.hid (decW_encW hc0)
      have hab := encW_bounds k n n1 n2
      obtain ⟨ab1, ab2⟩ := hab
      have HC := Lib.hid hc0; clear hc0
      go_wp2_with fail
      refine (Decode_c (encW k n).1 _ ab1 ab2).mono ?_
      rintro e w4 ⟨rfl, hk4⟩
      rw [HD.out]
      have HB0' := Lib.hid (hk4.blk HB0.out (fun h => h)); have HB1' := Lib.hid (hk4.blk HB1.out (fun h => h)); have HK4 := Lib.hid (HK3.out.trans hk4)
      have c0 := HB0'.out.cell 0; have c1 := HB0'.out.cell 1; have c2 := HB1'.out.cell 0; have c3 := HB1'.out.cell 1
      have l0 := HB0'.out.lt; have l1 := HB1'.out.lt
      simp only [List.getElem?_cons_zero, List.getElem?_cons_succ] at c0 c1 c2 c3
      clear hk4
      cases hd : ((encW k' n').2 == 0)
      · go_wp2_with fail
        go_meet
        exact HK4.out.alloc _
      · have hd0 : (encW k' n').2 = 0 := by simpa using hd
        have HI := Lib.hid (encW_inj HC.out hd0); clear hd0
        by_cases e : k = k' ∧ n = n'
        · obtain ⟨rfl, rfl⟩ := e
          have e1 : ((encW k n).1 == (encW k n).1) = true := by simp
          have e2 : (k == k) = true := by simp
          have e3 : (n == n) = true := by simp
          go_wp2_with fail
          go_meet
          exact HK4.out.alloc _
        · have e1 : ((encW k n).1 == (encW k' n').1) = false := by
            rw [beq_eq_false_iff_ne]; exact fun h => e (HI.out.1 h)
          by_cases q : k = k'
          · have q2 : (n == n') = false := by rw [beq_eq_false_iff_ne]; exact fun r => e ⟨q, r⟩
            have q3 : ¬ n = n' := fun r => e ⟨q, r⟩
            subst q
            clear e
            have q4 : (k == k) = true := by simp
            go_wp2_with fail
            go_meet
            exact HK4.out.alloc _
          · have q2 : (k == k') = false := by rw [beq_eq_false_iff_ne]; exact q
            clear e
            go_wp2_with fail
            go_meet
            exact HK4.out.alloc _
  case rest =>
    clear HB0 HB1 HK3
    have HK := Lib.hid hcut; clear hcut
    go_wp2_with fail
    refine (Decode_c x _ x1 x2).mono ?_
    rintro e w4 ⟨rfl, hk4⟩
    have HK4 := Lib.hid (HK.out.trans hk4); clear hk4 HK
    go_upto_if 74 with fail
    go_cut [19, 20] (fun _ _ wc => Keeps (fun _ => False) w wc)
    case first =>
      have hab := decW_bounds x x1 x2
      obtain ⟨ab1, ab2⟩ := hab
      cases hc : ((decW x).2.2 == 0)
      · go_wp2_with fail
        go_meet
        exact HK4.out.alloc _
      · have hc0 : (decW x).2.2 = 0 := by simpa using hc
        have HE := Lib.hid (encW_decW hc0); clear hc0
        go_wp2_with fail
        refine (Encode_c _ _ _ ab1 ab2).mono ?_
        rintro e w5 ⟨rfl, hk5⟩
        rw [HE.out]
        have HK5 := Lib.hid ((HK4.out.alloc _).trans hk5); clear hk5
        go_wp2_with fail
        go_meet
        exact HK5.out
    case rest =>
      clear HK4
      have HK := Lib.hid hcut; clear hcut
      go_wp2_with fail
      refine (Head_c kind fields _ f1 f2).mono ?_
      rintro e w' ⟨rfl, rfl⟩
      go_upto_if 94 with fail
      go_cut [23, 24, 25] (fun _ _ _ wc => Keeps (fun _ => False) w wc)
      case first =>
        cases hf : fitsW kind fields
        · have hh := headW_code hf
          have hh2 : ((headW kind fields).2 == 0) = false := by simpa using hh.2
          clear hh hf
          go_wp2_with fail
          go_meet
          exact HK.out
        · have hz : ((headW kind fields).2 == 0) = true := by rw [headW_fits hf]; rfl
          have hb := headW_range hf
          have h1 : (headW kind fields).1 = 16 * fields + kind := by rw [headW_fits hf]
          have HP := Lib.hid (show partsW (headW kind fields).1 = (kind, fields, 0) by rw [h1]; exact found hf rfl)
          have b1 : -9223372036854775808 ≤ (headW kind fields).1 := by omega
          have b2 : (headW kind fields).1 ≤ 9223372036854775807 := by omega
          clear hf hb h1
          go_wp2_with fail
          refine (Parts_c (headW kind fields).1 _ b1 b2).mono ?_
          rintro e w' ⟨rfl, rfl⟩
          rw [HP.out]
          go_wp2_with fail
          go_meet
          exact HK.out
      case rest =>
        clear HK
        have HK := Lib.hid hcut; clear hcut
        go_wp2_with fail
        refine (Parts_c x _ x1 x2).mono ?_
        rintro e w' ⟨rfl, rfl⟩
        cases hf : fitsW (x % 16) (x / 16)
        · have HP := Lib.hid (partsW_no hf); clear hf
          rw [HP.out]
          go_wp2_with fail
          go_ret
          exact ⟨rfl, HK.out⟩
        · have HP := Lib.hid (partsW_yes hf)
          have HC := Lib.hid (headW_fits hf)
          have hx : (16 * (x / 16) + x % 16 == x) = true := by simp; omega
          have HF := Lib.hid hf; clear hf
          rw [HP.out]
          go_wp2_with fail
          refine (Head_c (x % 16) (x / 16) _ (by omega) (by omega)).mono ?_
          rintro e w' ⟨rfl, rfl⟩
          rw [HC.out]
          go_wp2_with fail
          go_ret
          exact ⟨rfl, HK.out⟩

theorem WordBack_walk (v u : Int × Int) (x kind fields : Int) (w : World)
    (hv : (-9223372036854775808 ≤ v.1 ∧ v.1 ≤ 9223372036854775807) ∧ -9223372036854775808 ≤ v.2 ∧ v.2 ≤ 9223372036854775807) (hu : (-9223372036854775808 ≤ u.1 ∧ u.1 ≤ 9223372036854775807) ∧ -9223372036854775808 ≤ u.2 ∧ u.2 ≤ 9223372036854775807)
    (hx : -9223372036854775808 ≤ x ∧ x ≤ 9223372036854775807) (_ : -9223372036854775808 ≤ kind ∧ kind ≤ 9223372036854775807) (hf : -9223372036854775808 ≤ fields ∧ fields ≤ 9223372036854775807) :
    Calls Try.prog 8 #[.agg #[.int .i64 v.1, .int .i64 v.2], .agg #[.int .i64 u.1, .int .i64 u.2], .int .i64 x, .int .i64 kind, .int .i64 fields] w fun e w' => e = .returned (.bool true) ∧ Below w.heap.size w w' :=
  (WordBack_go v.1 v.2 u.1 u.2 x kind fields w hv.2.1 hv.2.2 hu.2.1 hu.2.2 hx.1 hx.2 hf.1 hf.2).mono fun e w' ⟨he, hk⟩ => ⟨he, hk.below (fun _ _ h => h)⟩

end Go.Proofs.Ytjifdalflepcoaa
