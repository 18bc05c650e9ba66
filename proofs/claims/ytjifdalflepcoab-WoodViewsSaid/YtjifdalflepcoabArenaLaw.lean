/-
  Laws on arenas, in plain words. No program in sight.
-/
import Derived.Test.YtjifdalflepcoabArenaP
namespace Go.Proofs.Ytjifdalflepcoab
set_option linter.unusedVariables false
set_option linter.unusedSimpArgs false

theorem partsW_head {k f : Int} (h : fitsW k f = true) : partsW (16 * f + k) = (k, f, 0) := by
  have hs := fitsW_spec h
  have e1 : (16 * f + k) % 16 = k := by omega
  have e2 : (16 * f + k) / 16 = f := by omega
  unfold partsW
  rw [e1, e2, if_pos h]

theorem thingW_get {k f : Int} {j : Nat} (h : (j : Int) ≤ f) (hj : 0 < j) : (thingW k f).getD j 0 = 2 := by
  obtain ⟨j, rfl⟩ : ∃ i, j = i + 1 := ⟨j - 1, by omega⟩
  unfold thingW
  rw [List.getD_cons_succ, List.getD_eq_getElem?_getD, List.getElem?_replicate, if_pos (by omega)]
  rfl

section
variable {A : Ar} {k f : Int}

/-- What make has made. -/
theorem Ar.made (hok : A.ok) (h : fitsW k f = true ∧ 1 + f ≤ (A.nur : Int) - A.yng) :
    ((A.make k f).2.thing A.yng = (k, f, 0)) ∧ (∀ j : Nat, 0 < j → (j : Int) ≤ f → (A.make k f).2.load ((A.yng : Int) + j) = 2) := by
  have hs := fitsW_spec h.1
  have h1 := hok.h1; have h2 := hok.h2; have h3 := hok.h3
  have hlen := thingW_length (k := k) hs.2.2.1
  rw [Ar.make_yes h]
  have key : ∀ j : Nat, (j : Int) ≤ f → Ar.load { A with yng := A.yng + (1 + f).toNat, ws := lay A.ws A.yng (thingW k f) } ((A.yng : Int) + j) = (thingW k f).getD j 0 := by
    intro j hj
    have hu : Ar.inUse { A with yng := A.yng + (1 + f).toNat, ws := lay A.ws A.yng (thingW k f) } ((A.yng : Int) + j) = true := by
      simp [Ar.inUse, Ar.young]; omega
    unfold Ar.load
    rw [if_pos hu]
    show (lay A.ws A.yng (thingW k f)).getD _ 0 = _
    rw [show ((A.yng : Int) + j).toNat = A.yng + j by omega, lay_getD (by omega), if_pos (by omega)]
    congr 1; omega
  refine ⟨?_, fun j hj hjf => by rw [key j hjf, thingW_get hjf hj]⟩
  unfold Ar.thing
  have := key 0 (by omega)
  simp only [Int.natCast_zero, Int.add_zero] at this
  rw [this]
  exact partsW_head h.1

theorem Ar.make_lt (h : ¬ (A.make k f).1 < 0) : fitsW k f = true ∧ 1 + f ≤ (A.nur : Int) - A.yng := by
  by_cases hc : fitsW k f = true ∧ 1 + f ≤ (A.nur : Int) - A.yng
  · exact hc
  · rw [Ar.make_no hc] at h; simp at h

theorem Ar.make_nur : (A.make k f).2.nur = A.nur := by
  unfold Ar.make; split <;> rfl
theorem Ar.make_grn : (A.make k f).2.grn = A.grn := by
  unfold Ar.make; split <;> rfl
theorem Ar.make_len (h : A.ok) : (A.make k f).2.ws.length = A.ws.length := by
  unfold Ar.make
  split
  · rename_i hc
    have hs := fitsW_spec hc.1
    have h1 := h.h1; have h2 := h.h2; have h3 := h.h3
    exact lay_length (by rw [thingW_length hs.2.2.1]; omega)
  · rfl

theorem Ar.copy_cases (i : Int) : (A.copy i = (-1, A)) ∨ ((A.thing i).2.2 = 0 ∧ A.whole i (A.thing i).2.1 = true ∧ 1 + (A.thing i).2.1 ≤ (A.ws.length : Int) - A.grn ∧
    A.copy i = ((A.grn : Int), { A with grn := A.grn + (1 + (A.thing i).2.1).toNat, ws := lay A.ws A.grn ((A.ws.drop i.toNat).take (1 + (A.thing i).2.1).toNat) })) := by
  by_cases hc : (A.thing i).2.2 = 0 ∧ A.whole i (A.thing i).2.1 = true ∧ 1 + (A.thing i).2.1 ≤ (A.ws.length : Int) - A.grn
  · exact .inr ⟨hc.1, hc.2.1, hc.2.2, Ar.copy_yes hc⟩
  · exact .inl (Ar.copy_no hc)

theorem Ar.copy_nur (i : Int) : (A.copy i).2.nur = A.nur := by
  rcases A.copy_cases i with h | ⟨_, _, _, h⟩ <;> rw [h]
theorem Ar.copy_yng (i : Int) : (A.copy i).2.yng = A.yng := by
  rcases A.copy_cases i with h | ⟨_, _, _, h⟩ <;> rw [h]
theorem Ar.copy_len (h : A.ok) (i : Int) : (A.copy i).2.ws.length = A.ws.length := by
  rcases A.copy_cases i with hc | ⟨h1, h2, h3, hc⟩
  · rw [hc]
  · have hf := A.thing_fields i
    have hs := Ar.whole_spec h hf.1 h2
    have := h.h1; have := h.h2; have := h.h3
    rw [hc]
    exact lay_length (by simp; omega)

/-- A copy is word for word the same. -/
theorem Ar.copied (hok : A.ok) {i : Int} (h : ¬ (A.copy i).1 < 0) : (A.copy i).1 = A.grn ∧ (A.copy i).2.thing A.grn = A.thing i ∧ ∀ j : Nat, (j : Int) ≤ (A.thing i).2.1 → (A.copy i).2.load ((A.grn : Int) + j) = (A.copy i).2.load (i + j) := by
  rcases A.copy_cases i with hc | ⟨h1, h2, h3, hc⟩
  · rw [hc] at h; simp at h
  have hf := A.thing_fields i
  have hu := A.thing_use h1
  have hs := Ar.whole_spec hok hf.1 h2
  have o1 := hok.h1; have o2 := hok.h2; have o3 := hok.h3
  obtain ⟨m, rfl⟩ : ∃ m : Nat, i = m := ⟨i.toNat, by omega⟩
  obtain ⟨n, hn⟩ : ∃ n : Nat, (A.thing m).2.1 = n := ⟨(A.thing m).2.1.toNat, by omega⟩
  have hl : ((A.ws.drop m).take (1 + n)).length = 1 + n := by simp; omega
  have e1 : ((m : Int)).toNat = m := by omega
  have e2 : (1 + (n : Int)).toNat = 1 + n := by omega
  rw [hn] at hc h2 h3 hs ⊢
  rw [e1, e2] at hc
  have huse : ∀ j : Nat, j ≤ n → A.inUse ((m : Int) + j) = true := by
    intro j hj
    unfold Ar.whole at h2
    simp only [Bool.or_eq_true, Bool.and_eq_true, Ar.young, Ar.old, decide_eq_true_eq] at h2
    simp only [Ar.inUse, Bool.or_eq_true, Bool.and_eq_true, Ar.young, Ar.old, decide_eq_true_eq]
    omega
  have hlt : ∀ j : Nat, j ≤ n → m + j < A.grn := by
    intro j hj
    have := huse j hj
    simp only [Ar.inUse, Bool.or_eq_true, Bool.and_eq_true, Ar.young, Ar.old, decide_eq_true_eq] at this
    omega
  have k1 : ∀ j : Nat, j ≤ n → (A.copy m).2.load ((A.grn : Int) + j) = A.ws.getD (m + j) 0 := by
    intro j hj
    rw [hc]
    have hu2 : Ar.inUse { A with grn := A.grn + (1 + n), ws := lay A.ws A.grn ((A.ws.drop m).take (1 + n)) } ((A.grn : Int) + j) = true := by
      simp [Ar.inUse, Ar.young, Ar.old]; omega
    unfold Ar.load
    rw [if_pos hu2]
    show (lay A.ws A.grn _).getD _ 0 = _
    rw [show ((A.grn : Int) + j).toNat = A.grn + j by omega, lay_getD (by omega), if_pos (by omega)]
    simp only [List.getD_eq_getElem?_getD, List.getElem?_take, List.getElem?_drop]
    rw [if_pos (by omega)]
    congr 2; omega
  have k2 : ∀ j : Nat, j ≤ n → (A.copy m).2.load ((m : Int) + j) = A.ws.getD (m + j) 0 := by
    intro j hj
    have h5 := huse j hj
    have h6 := hlt j hj
    rw [hc]
    have hu2 : Ar.inUse { A with grn := A.grn + (1 + n), ws := lay A.ws A.grn ((A.ws.drop m).take (1 + n)) } ((m : Int) + j) = true := by
      simp only [Ar.inUse, Bool.or_eq_true, Bool.and_eq_true, Ar.young, Ar.old, decide_eq_true_eq] at h5 ⊢
      omega
    unfold Ar.load
    rw [if_pos hu2]
    show (lay A.ws A.grn _).getD _ 0 = _
    rw [show ((m : Int) + j).toNat = m + j by omega, lay_getD (by omega), if_neg (by omega)]
  refine ⟨by rw [hc], ?_, fun j hj => by rw [k1 j (by omega), k2 j (by omega)]⟩
  have k0 := k1 0 (by omega)
  simp only [Int.natCast_zero, Int.add_zero, Nat.add_zero] at k0
  unfold Ar.thing
  rw [k0]
  congr 1
  unfold Ar.load
  rw [hu, if_pos rfl, e1]

/-- A new thing's copy, and what comes behind Clear and Cut. -/
theorem Ar.again (hok : A.ok) {q : Nat} (h : fitsW k q = true ∧ 1 + (q : Int) ≤ (A.nur : Int) - A.yng) (h16 : 16 ≤ A.nur) :
    ((A.make k q).2.copy A.yng).1 = (if 1 + (q : Int) ≤ (A.ws.length : Int) - A.grn then (A.grn : Int) else -1) ∧
    (((((A.make k q).2.copy A.yng).2.clear).cut 0).make k q).1 = 0 ∧ (((((A.make k q).2.copy A.yng).2.clear).cut 0).make k q).2.load (1 + (q : Int)) = 0 := by
  have hm := Ar.made hok h
  have hs := fitsW_spec h.1
  have hlen := Ar.make_len (k := k) (f := q) hok
  have hgrn := Ar.make_grn (A := A) (k := k) (f := q)
  have hnur := Ar.make_nur (A := A) (k := k) (f := q)
  have hy : (A.make k q).2.yng = A.yng + (1 + (q : Int)).toNat := by rw [Ar.make_yes h]
  have hw : (A.make k q).2.whole A.yng q = true := by
    simp [Ar.whole, Ar.young, hy]; omega
  have hfit : fitsW k q = true ∧ 1 + (q : Int) ≤ (((((A.make k q).2.copy A.yng).2.clear).cut 0).nur : Int) - ((((A.make k q).2.copy A.yng).2.clear).cut 0).yng := by
    refine ⟨h.1, ?_⟩
    show 1 + (q : Int) ≤ (((A.make k q).2.copy A.yng).2.nur : Int) - ((0 : Nat) : Int)
    rw [Ar.copy_nur, hnur]
    omega
  refine ⟨?_, ?_, ?_⟩
  · by_cases hr : 1 + (q : Int) ≤ (A.ws.length : Int) - A.grn
    · rw [if_pos hr, Ar.copy_yes ⟨by rw [hm.1], by rw [hm.1]; exact hw, by rw [hm.1, hlen, hgrn]; exact hr⟩, hgrn]
    · rw [if_neg hr, Ar.copy_no]
      rw [hm.1, hlen, hgrn]
      exact fun hh => hr hh.2.2
  · rw [Ar.make_yes hfit]; rfl
  · rw [Ar.make_yes hfit]
    unfold Ar.load
    rw [if_neg]
    simp only [Ar.inUse, Ar.young, Ar.old, Ar.cut, Ar.clear, Ar.copy_nur, hnur, Bool.or_eq_true, Bool.and_eq_true, decide_eq_true_eq]
    omega
end

end Go.Proofs.Ytjifdalflepcoab
