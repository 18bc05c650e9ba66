/-
  The statements on cards: what the laws' Go texts come to.
-/
import Derived.Test.YtjifdalflepcoaaCards
namespace Go.Proofs.Ytjifdalflepcoaa
open Go.RowKit
set_option linter.unusedVariables false
set_option linter.unusedSimpArgs false

theorem mem_at {l : List Int} {k : Nat} {n : Int} (h : k < l.length) (e : l.getD k 0 = n) : n ∈ l := by
  simp [List.getD, h] at e
  exact e ▸ List.getElem_mem h

theorem mem_step {l : List Int} {k : Nat} {n : Int} (h : k < l.length) (hno : n ∉ l.take k) (e : l.getD k 0 ≠ n) : n ∉ l.take (k + 1) := by
  rw [List.take_succ_eq_append_getElem h]
  simp only [List.getD, h, List.getElem?_eq_getElem, Option.getD_some] at e
  simp only [List.mem_append, List.mem_singleton]
  rintro (h1 | h1)
  · exact hno h1
  · exact e h1.symm

set_option maxHeartbeats 1000000 in
theorem In_c (ao : Option Addr) (cap : Nat) (l : List Int) (n : Int) (w : World) (h : Rd w ao (l.map (Value.int .i64))) (hl : l.length ≤ 9223372036854775806) :
    Calls Try.prog 20 #[.slice ao l.length cap, .int .i64 n] w fun e w' => e = .returned (.bool (decide (n ∈ l))) ∧ w = w' := by
  have HR := Lib.hid h; clear h
  go_enter Try.func20, Try.ntmps20
  go_wp2
  go_loop [5] (fun i => ∃ k : Nat, k ≤ l.length ∧ i = .int .i64 k ∧ n ∉ l.take k) (fun i => l.length - (intOf i).toNat)
  case atStart => exact ⟨0, Nat.zero_le _, rfl, by simp⟩
  case round =>
    obtain ⟨k, hk, rfl, hno⟩ := hrel
    have HN := Lib.hid hno; clear hno
    by_cases hlt : k < l.length
    · obtain ⟨g, o, rfl, hc⟩ := HR.out.int k hlt
      generalize hv : l.getD k 0 = v at *
      have HV := Lib.hid hv; clear hv
      by_cases e : v = n
      · have he : (v == n) = true := by simpa using e
        go_wp2
        go_ret
        exact ⟨ret_bool (decide_eq_true (mem_at hlt (by rw [HV.out]; exact e))).symm, rfl⟩
      · have he : (v == n) = false := by simpa using e
        go_wp2
        go_round
        case rel => exact ⟨k + 1, by omega, by go_num, mem_step hlt HN.out (by rw [HV.out]; exact e)⟩
        case measure => simp [intOf]; omega
    · go_wp2
      go_ret
      exact ⟨ret_bool (decide_eq_false (by have h := HN.out; rw [List.take_of_length_le (by omega)] at h; exact h)).symm, rfl⟩

set_option maxHeartbeats 2000000 in
theorem cardsBegun_c (w : World) : Calls Try.prog 14 #[] w fun e w' => e = .returned (.bool true) ∧ Keeps (fun _ => False) w w' := by
  go_enter Try.func14, Try.ntmps14
  go_wp2_with fail
  refine (New_c 10 9 _ (by omega) (by omega)).mono ?_
  rintro e w1 ⟨rfl, hc, hs, hk⟩
  clear hs
  have hc1 : CardsAt w1 (w.heap.size + 1) w.heap.size 10 [false, false] := hc
  clear hc
  generalize hp : w.heap.size + 1 = p at *
  generalize hq : w.heap.size = q at *
  have HQ := Lib.hid hq; have HP := Lib.hid hp; clear hq hp
  go_wp2_with fail
  refine (Mark_c p q 10 17 [false, false] _ hc1 (by omega) (by omega) (by omega) (by omega) (by simp)).mono ?_
  rintro e w2 ⟨rfl, hc, hk2⟩
  have hc2 : CardsAt w2 p q 10 [true, false] := hc
  clear hc
  rw [show decide (0 ≤ cardOf 10 (List.length [false, false]) 17) = true from by decide]
  go_wp2_with fail
  refine (Dirty_c p q 10 10 [true, false] _ hc2 (by omega) (by omega) (by omega) (by omega) (by simp)).mono ?_
  rintro e w' ⟨rfl, rfl⟩
  rw [show dirtyL 10 [true, false] 10 = true from by decide]
  go_wp2_with fail
  refine (Dirty_c p q 10 18 [true, false] _ hc2 (by omega) (by omega) (by omega) (by omega) (by simp)).mono ?_
  rintro e w' ⟨rfl, rfl⟩
  rw [show dirtyL 10 [true, false] 18 = false from by decide]
  go_wp2_with fail
  refine (Mark_c p q 10 18 [true, false] _ hc2 (by omega) (by omega) (by omega) (by omega) (by simp)).mono ?_
  rintro e w3 ⟨rfl, hc, hk3⟩
  have hc3 : CardsAt w3 p q 10 [true, true] := hc
  clear hc
  rw [show decide (0 ≤ cardOf 10 (List.length [true, false]) 18) = true from by decide]
  go_wp2_with fail
  refine (Count_c p q 10 [true, true] _ hc3 (by simp)).mono ?_
  rintro e w' ⟨rfl, rfl⟩
  rw [show countL [true, true] = 2 from rfl]
  go_wp2_with fail
  refine (Mark_c p q 10 9 [true, true] _ hc3 (by omega) (by omega) (by omega) (by omega) (by simp)).mono ?_
  rintro e w4 ⟨rfl, hc, hk4⟩
  have hc4 : CardsAt w4 p q 10 [true, true] := hc
  clear hc
  rw [show decide (0 ≤ cardOf 10 (List.length [true, true]) 9) = false from by decide]
  go_wp2_with fail
  refine (Mark_c p q 10 26 [true, true] _ hc4 (by omega) (by omega) (by omega) (by omega) (by simp)).mono ?_
  rintro e w5 ⟨rfl, hc, hk5⟩
  have hc5 : CardsAt w5 p q 10 [true, true] := hc
  clear hc
  rw [show decide (0 ≤ cardOf 10 (List.length [true, true]) 26) = false from by decide]
  go_wp2_with fail
  go_ret
  have hall : Keeps (fun k => k = q) w1 w5 := ((hk2.trans hk3).trans hk4).trans hk5
  refine ⟨rfl, hk.then hall ?_⟩
  rintro k rfl
  exact .inr (Nat.le_of_eq HQ.out)

/-! The plain law. -/
theorem getD_set_self {l : List Bool} {k : Nat} (h : k < l.length) : (l.set k true).getD k false = true := by simp [List.getD, h]

theorem getD_set_rep {n k j : Nat} (h : k < n) : ((List.replicate n false).set k true).getD j false = decide (j = k) := by
  by_cases e : j = k
  · subst e; simp [List.getD, h]
  · simp [List.getD, List.getElem?_set, Ne.symm e, e, List.getElem?_replicate]
    split <;> simp

theorem count_rep (n : Nat) : countL (List.replicate n false) = 0 := by simp [countL, List.filter_replicate]

theorem count_set_rep {n k : Nat} (h : k < n) : countL ((List.replicate n false).set k true) = 1 := by
  have : (List.replicate n false).set k true = List.replicate k false ++ true :: List.replicate (n - k - 1) false := by
    apply List.ext_getElem?
    intro j
    simp only [List.getElem?_set, List.getElem?_append, List.length_replicate, List.getElem?_replicate, List.getElem?_cons]
    by_cases h1 : k = j
    · subst h1; simp [h]
    · by_cases h2 : j < k
      · simp [h1, h2, show j < n by omega]
      · simp only [h1, if_false, h2, show ¬ j - k = 0 by omega]
        by_cases h3 : j < n
        · rw [if_pos h3, if_pos (by omega)]
        · rw [if_neg h3, if_neg (by omega)]
  rw [this]
  simp [countL, List.filter_append, List.filter_replicate]

/-- After one mark of a on clean cards. -/
theorem apart_plain (base a b : Int) (n : Nat) (h0 : 0 ≤ base) :
    countL (markL base (List.replicate n false) a) = (if 0 ≤ cardOf base n a then 1 else 0) ∧
    dirtyL base (markL base (List.replicate n false) a) b = decide (0 ≤ cardOf base n a ∧ base ≤ b ∧ (b - base) / 8 = (a - base) / 8) := by
  unfold markL dirtyL
  simp only [List.length_replicate]
  by_cases h : 0 ≤ cardOf base n a
  · have hk := cardOf_lt h
    simp only [h, if_true]
    refine ⟨count_set_rep hk, ?_⟩
    rw [List.length_set, List.length_replicate, getD_set_rep hk]
    have ha : cardOf base n a = (a - base) / 8 ∧ base ≤ a ∧ (a - base) / 8 < n := by
      unfold cardOf at *; split at h
      · rename_i c; rw [if_pos c]; exact ⟨rfl, c⟩
      · omega
    rw [ha.1]
    rw [Bool.eq_iff_iff]
    simp only [Bool.and_eq_true, decide_eq_true_eq]
    unfold cardOf
    by_cases c : base ≤ b ∧ (b - base) / 8 < n
    · rw [if_pos c]
      constructor
      · rintro ⟨h1, h2⟩; exact ⟨trivial, c.1, by omega⟩
      · rintro ⟨_, h1, h2⟩; exact ⟨by omega, by omega⟩
    · rw [if_neg c]
      constructor
      · rintro ⟨h1, h2⟩; omega
      · rintro ⟨_, h1, h2⟩; omega
  · simp only [h, if_false]
    refine ⟨count_rep n, ?_⟩
    simp [List.getD, List.getElem?_replicate]
    intro _
    split <;> rfl

set_option maxHeartbeats 2000000 in
theorem apart_out (base words a b : Int) (w : World) (h : base < 0 ∨ 100000 < base ∨ words < 0 ∨ 5000 < words ∨ a < 0 ∨ 1099511627776 < a ∨ b < 0 ∨ 1099511627776 < b) :
    Calls Try.prog 3 #[.int .i64 base, .int .i64 words, .int .i64 a, .int .i64 b] w fun e w' => e = .returned (.bool true) ∧ Keeps (fun _ => False) w w' := by
  by_cases c0 : base < 0
  · clear h
    go_enter Try.func3, Try.ntmps3
    go_wp2_with fail
    refine (cardsBegun_c _).mono ?_
    rintro e w1 ⟨rfl, hk⟩
    go_wp2_with fail
    go_ret
    exact ⟨rfl, hk⟩
  by_cases c1 : 100000 < base
  · clear h
    go_enter Try.func3, Try.ntmps3
    go_wp2_with fail
    refine (cardsBegun_c _).mono ?_
    rintro e w1 ⟨rfl, hk⟩
    go_wp2_with fail
    go_ret
    exact ⟨rfl, hk⟩
  by_cases c2 : words < 0
  · clear h
    go_enter Try.func3, Try.ntmps3
    go_wp2_with fail
    refine (cardsBegun_c _).mono ?_
    rintro e w1 ⟨rfl, hk⟩
    go_wp2_with fail
    go_ret
    exact ⟨rfl, hk⟩
  by_cases c3 : 5000 < words
  · clear h
    go_enter Try.func3, Try.ntmps3
    go_wp2_with fail
    refine (cardsBegun_c _).mono ?_
    rintro e w1 ⟨rfl, hk⟩
    go_wp2_with fail
    go_ret
    exact ⟨rfl, hk⟩
  by_cases c4 : a < 0
  · clear h
    go_enter Try.func3, Try.ntmps3
    go_wp2_with fail
    refine (cardsBegun_c _).mono ?_
    rintro e w1 ⟨rfl, hk⟩
    go_wp2_with fail
    go_ret
    exact ⟨rfl, hk⟩
  by_cases c5 : 1099511627776 < a
  · clear h
    go_enter Try.func3, Try.ntmps3
    go_wp2_with fail
    refine (cardsBegun_c _).mono ?_
    rintro e w1 ⟨rfl, hk⟩
    go_wp2_with fail
    go_ret
    exact ⟨rfl, hk⟩
  by_cases c6 : b < 0
  · clear h
    go_enter Try.func3, Try.ntmps3
    go_wp2_with fail
    refine (cardsBegun_c _).mono ?_
    rintro e w1 ⟨rfl, hk⟩
    go_wp2_with fail
    go_ret
    exact ⟨rfl, hk⟩
  by_cases c7 : 1099511627776 < b
  · clear h
    go_enter Try.func3, Try.ntmps3
    go_wp2_with fail
    refine (cardsBegun_c _).mono ?_
    rintro e w1 ⟨rfl, hk⟩
    go_wp2_with fail
    go_ret
    exact ⟨rfl, hk⟩
  omega

set_option maxHeartbeats 4000000 in
theorem apart_in (base words a b : Int) (w : World) (h0 : 0 ≤ base) (h1 : base ≤ 100000) (h2 : 0 ≤ words) (h3 : words ≤ 5000) (h4 : 0 ≤ a) (h5 : a ≤ 1099511627776) (h6 : 0 ≤ b) (h7 : b ≤ 1099511627776) :
    Calls Try.prog 3 #[.int .i64 base, .int .i64 words, .int .i64 a, .int .i64 b] w fun e w' => e = .returned (.bool true) ∧ Keeps (fun _ => False) w w' := by
  go_enter Try.func3, Try.ntmps3
  go_wp2_with fail
  refine (cardsBegun_c _).mono ?_
  rintro e w1 ⟨rfl, hk1⟩
  go_wp2_with fail
  refine (New_c base words _ (by omega) (by omega)).mono ?_
  rintro e w2 ⟨rfl, hc2, hs2, hk2⟩
  clear hs2
  have hN : cardsN words ≤ 1000 := by unfold cardsN; omega
  have hA := Lib.hid (apart_plain base a a (cardsN words) h0)
  have hB := Lib.hid (fun x => (apart_plain base a x (cardsN words) h0).2)
  have hK := Lib.hid (hk1.then hk2 (fun _ h => h.elim)); clear hk2
  generalize hl0 : List.replicate (cardsN words) false = l0 at *
  have hlen : l0.length = cardsN words := by rw [← hl0]; simp
  generalize hp : w1.heap.size + 1 = p at *
  generalize hq : w1.heap.size = q at *
  have hq' : w.heap.size ≤ q := by rw [← hq]; exact hk1.size
  clear hp hq hl0 hk1
  have HL := Lib.hid hlen; clear hlen
  go_wp2_with fail
  refine (Mark_c p q base a l0 _ hc2 (by omega) (by omega) (by omega) (by omega) (by rw [HL.out]; omega)).mono ?_
  rintro e w3 ⟨rfl, hc3, hk3⟩
  rw [HL.out]
  have hK3 : Keeps (fun _ => False) w w3 := hK.out.then hk3 (by rintro k rfl; exact .inr hq')
  have hlen3 := Lib.hid ((markL_length base l0 a).trans HL.out)
  clear hk3 hK hc2
  generalize markL base l0 a = l1 at *
  by_cases c : 0 ≤ cardOf base (cardsN words) a
  · have ha : base ≤ a := by
      unfold cardOf at c
      split at c
      · rename_i h; exact h.1
      · omega
    rw [decide_eq_true c]
    have hcnt : Hid (countL l1 = 1) := by have := hA.out.1; rw [if_pos c] at this; exact this
    have hdd : ∀ x, Hid (dirtyL base l1 x = decide (base ≤ x ∧ (x - base) / 8 = (a - base) / 8)) := fun x => by
      have := hB.out x; simp only [c, true_and] at this; exact this
    have HD := Lib.hid hdd
    clear hA hB hdd c
    go_wp2_with fail
    refine (Dirty_c p q base a l1 _ hc3 (by omega) (by omega) (by omega) (by omega) (by rw [hlen3.out]; omega)).mono ?_
    rintro e w' ⟨rfl, rfl⟩
    rw [(HD.out a).out, decide_eq_true (⟨ha, rfl⟩ : base ≤ a ∧ (a - base) / 8 = (a - base) / 8)]
    go_wp2_with fail
    refine (Count_c p q base l1 _ hc3 (by rw [hlen3.out]; omega)).mono ?_
    rintro e w' ⟨rfl, rfl⟩
    rw [hcnt.out]
    by_cases c1 : base ≤ b
    · have hdb : Hid (dirtyL base l1 b = ((b - base) / 8 == (a - base) / 8)) := by
        unfold Hid
        rw [(HD.out b).out, Bool.eq_iff_iff]; simp [c1]
      cases hcb : ((b - base) / 8 == (a - base) / 8)
      all_goals
        go_wp2_with fail
        refine (Dirty_c p q base b l1 _ hc3 (by omega) (by omega) (by omega) (by omega) (by rw [hlen3.out]; omega)).mono ?_
        rintro e w' ⟨rfl, rfl⟩
        rw [hdb.out, hcb]
        go_wp2_with fail
        go_loop [12, 13] (fun n i => ∃ k m : Nat, k ≤ 8 ∧ m ≤ k ∧ i = .int .i64 k ∧ n = .int .i64 m) (fun _ i => 8 - (intOf i).toNat)
        case atStart => exact ⟨0, 0, by omega, by omega, rfl, rfl⟩
        case round =>
          obtain ⟨k, m, hk, hm, rfl, rfl⟩ := hrel
          by_cases hlt : k < 8
          · go_wp2_with fail
            refine (Dirty_c p q base (b + k) l1 _ hc3 (by omega) (by omega) (by omega) (by omega) (by rw [hlen3.out]; omega)).mono ?_
            rintro e w' ⟨rfl, rfl⟩
            generalize dirtyL base l1 (b + k) = d
            cases d
            · go_wp2
              go_round
              case rel => exact ⟨k + 1, m, by omega, by omega, by go_num, rfl⟩
              case measure => simp [intOf]; omega
            · go_wp2
              go_round
              case rel => exact ⟨k + 1, m + 1, by omega, by omega, by go_num, by go_num⟩
              case measure => simp [intOf]; omega
          · by_cases hm0 : m = 0
            · subst hm0
              go_wp2
              go_ret
              exact ⟨rfl, hK3⟩
            · go_wp2
              go_ret
              exact ⟨rfl, hK3⟩
    · go_wp2_with fail
      refine (Dirty_c p q base b l1 _ hc3 (by omega) (by omega) (by omega) (by omega) (by rw [hlen3.out]; omega)).mono ?_
      rintro e w' ⟨rfl, rfl⟩
      rw [(HD.out b).out, decide_eq_false (fun h : base ≤ b ∧ (b - base) / 8 = (a - base) / 8 => by omega)]
      go_wp2_with fail
      go_loop [12, 13] (fun n i => ∃ k m : Nat, k ≤ 8 ∧ m ≤ k ∧ i = .int .i64 k ∧ n = .int .i64 m) (fun _ i => 8 - (intOf i).toNat)
      case atStart => exact ⟨0, 0, by omega, by omega, rfl, rfl⟩
      case round =>
        obtain ⟨k, m, hk, hm, rfl, rfl⟩ := hrel
        by_cases hlt : k < 8
        · go_wp2_with fail
          refine (Dirty_c p q base (b + k) l1 _ hc3 (by omega) (by omega) (by omega) (by omega) (by rw [hlen3.out]; omega)).mono ?_
          rintro e w' ⟨rfl, rfl⟩
          generalize dirtyL base l1 (b + k) = d
          cases d
          · go_wp2
            go_round
            case rel => exact ⟨k + 1, m, by omega, by omega, by go_num, rfl⟩
            case measure => simp [intOf]; omega
          · go_wp2
            go_round
            case rel => exact ⟨k + 1, m + 1, by omega, by omega, by go_num, by go_num⟩
            case measure => simp [intOf]; omega
        · by_cases hm0 : m = 0
          · subst hm0
            go_wp2
            go_ret
            exact ⟨rfl, hK3⟩
          · go_wp2
            go_ret
            exact ⟨rfl, hK3⟩
  · rw [decide_eq_false c]
    have hcnt : Hid (countL l1 = 0) := by have := hA.out.1; rw [if_neg c] at this; exact this
    have hdd : ∀ x, Hid (dirtyL base l1 x = false) := fun x => by
      have := hB.out x; simp only [c, false_and, decide_false] at this; exact this
    have HD := Lib.hid hdd
    clear hA hB hdd c
    go_wp2_with fail
    refine (Dirty_c p q base a l1 _ hc3 (by omega) (by omega) (by omega) (by omega) (by rw [hlen3.out]; omega)).mono ?_
    rintro e w' ⟨rfl, rfl⟩
    rw [(HD.out a).out]
    go_wp2_with fail
    refine (Count_c p q base l1 _ hc3 (by rw [hlen3.out]; omega)).mono ?_
    rintro e w' ⟨rfl, rfl⟩
    rw [hcnt.out]
    go_wp2_with fail
    refine (Dirty_c p q base b l1 _ hc3 (by omega) (by omega) (by omega) (by omega) (by rw [hlen3.out]; omega)).mono ?_
    rintro e w' ⟨rfl, rfl⟩
    rw [(HD.out b).out]
    go_wp2_with fail
    go_loop [12, 13] (fun n i => ∃ k : Nat, k ≤ 8 ∧ i = .int .i64 k ∧ n = .int .i64 0) (fun _ i => 8 - (intOf i).toNat)
    case atStart => exact ⟨0, by omega, rfl, rfl⟩
    case round =>
      obtain ⟨k, hk, rfl, rfl⟩ := hrel
      by_cases hlt : k < 8
      · go_wp2_with fail
        refine (Dirty_c p q base (b + k) l1 _ hc3 (by omega) (by omega) (by omega) (by omega) (by rw [hlen3.out]; omega)).mono ?_
        rintro e w' ⟨rfl, rfl⟩
        rw [(HD.out (b + k)).out]
        go_wp2
        go_round
        case rel => exact ⟨k + 1, by omega, by go_num, rfl⟩
        case measure => simp [intOf]; omega
      · go_wp2
        go_ret
        exact ⟨rfl, hK3⟩

/-! CardsDoes. -/
theorem count_set {l : List Bool} : ∀ {k : Nat}, k < l.length → countL (l.set k true) = if l.getD k false then countL l else countL l + 1 := by
  induction l with
  | nil => intro k h; simp at h
  | cons a l ih =>
    intro k h
    cases k with
    | zero => cases a <;> simp [countL]
    | succ k =>
      have := ih (k := k) (by simpa using h)
      cases a <;> simp [countL] at this ⊢ <;> split at this <;> simp_all

/-- The marked cards are those of the list. -/
def MarkInv (lb : List Bool) (mk : List Int) : Prop := countL lb = mk.length ∧ ∀ k : Int, k ∈ mk ↔ 0 ≤ k ∧ lb.getD k.toNat false = true

theorem MarkInv.start (n : Nat) : MarkInv (List.replicate n false) [] := by
  refine ⟨count_rep n, fun k => ?_⟩
  simp [List.getD, List.getElem?_replicate]
  intro _
  split <;> rfl

theorem set_same {lb : List Bool} {k : Nat} (h : lb.getD k false = true) : lb.set k true = lb := by
  apply List.ext_getElem?
  intro j
  rw [List.getElem?_set]
  by_cases e : k = j
  · subst e
    rw [if_pos rfl]
    split
    · rename_i hk; simp [List.getD, hk] at h; simp [hk, h]
    · rename_i hk; simp [List.getD, hk] at h
  · rw [if_neg e]

theorem MarkInv.old {lb : List Bool} {mk : List Int} (h : MarkInv lb mk) {k : Int} (hm : k ∈ mk) : MarkInv (lb.set k.toNat true) mk := by
  rw [set_same ((h.2 k).1 hm).2]; exact h

theorem MarkInv.new {lb : List Bool} {mk : List Int} (h : MarkInv lb mk) {k : Int} (h0 : 0 ≤ k) (hk : k.toNat < lb.length) (hm : k ∉ mk) : MarkInv (lb.set k.toNat true) (mk ++ [k]) := by
  have hg : lb.getD k.toNat false = false := by
    cases hb : lb.getD k.toNat false
    · rfl
    · exact (hm ((h.2 k).2 ⟨h0, hb⟩)).elim
  refine ⟨?_, fun j => ?_⟩
  · rw [count_set hk, hg, h.1]; simp
  · rw [List.mem_append, h.2 j, List.mem_singleton]
    by_cases e : j = k
    · subst e; simp [h0, List.getD, hk]
    · constructor
      · rintro (h1 | h1)
        · refine ⟨h1.1, ?_⟩
          have : ¬ k.toNat = j.toNat := by omega
          simpa [List.getD, List.getElem?_set, this] using h1.2
        · exact (e h1).elim
      · rintro ⟨h1, h2⟩
        have : ¬ k.toNat = j.toNat := by omega
        exact .inl ⟨h1, by simpa [List.getD, List.getElem?_set, this] using h2⟩

theorem info_int : (Try.prog.info? 3).map (fun i => (i.zero, i.size, i.bytes)) = some (some (.int .i64 0), 1, 8) := by kernel_rfl

theorem cardOf_in {base : Int} {n : Nat} {x : Int} (h1 : base ≤ x) (h2 : (x - base) / 8 < n) : cardOf base n x = (x - base) / 8 := by unfold cardOf; rw [if_pos ⟨h1, h2⟩]
theorem cardOf_out {base : Int} {n : Nat} {x : Int} (h : ¬ (base ≤ x ∧ (x - base) / 8 < n)) : cardOf base n x = -1 := by unfold cardOf; rw [if_neg h]

theorem dirty_at {base : Int} {lb : List Bool} {mk : List Int} (h : MarkInv lb mk) (x : Int) (hx : x ≤ 9223372036854775807) (hl : lb.length ≤ 1000) (h0 : 0 ≤ base) (h1 : base ≤ 100000) :
    dirtyL base lb x = decide (base ≤ x ∧ x < 1099511627776 ∧ (x - base) / 8 ∈ mk) := by
  rw [Bool.eq_iff_iff, decide_eq_true_eq, h.2]
  unfold dirtyL
  by_cases c : base ≤ x ∧ (x - base) / 8 < lb.length
  · rw [cardOf_in c.1 c.2]
    simp only [Bool.and_eq_true, decide_eq_true_eq]
    constructor
    · rintro ⟨h2, h3⟩; exact ⟨c.1, by omega, by omega, h3⟩
    · rintro ⟨_, _, h2, h3⟩; exact ⟨h2, h3⟩
  · rw [cardOf_out c]
    simp only [Bool.and_eq_true, decide_eq_true_eq]
    constructor
    · rintro ⟨h2, _⟩; omega
    · rintro ⟨h2, _, h3, h4⟩
      have : ¬ ((x - base) / 8).toNat < lb.length := by omega
      simp [List.getD, this] at h4

end Go.Proofs.Ytjifdalflepcoaa
