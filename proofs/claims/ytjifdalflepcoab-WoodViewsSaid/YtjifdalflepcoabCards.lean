/-
  What the functions of package cards do to a Cards in memory.
-/
import Derived.Test.YtjifdalflepcoabProg
import Derived.Test.YtjifdalflepcoabBase
import Derived.Test.YtjifdalflepcoabMem
import Derived.Test.YtjifdalflepcoabCardsP
namespace Go.Proofs.Ytjifdalflepcoab
open Go.RowKit
set_option linter.unusedVariables false
set_option linter.unusedSimpArgs false

/-- At block p lies a Cards of base 'base', its list 'l' in block q. -/
structure CardsAt (w : World) (p q : Nat) (base : Int) (l : List Bool) : Prop where
  hp : Blk w p [.int .i64 base, .slice (some ⟨q, 0, none⟩) l.length l.length] 140
  hq : Blk w q (l.map Value.bool) 4

theorem CardsAt.ne {w : World} {p q : Nat} {base : Int} {l : List Bool} (h : CardsAt w p q base l) : p ≠ q := h.hp.ne h.hq (by decide)

theorem CardsAt.keep {w w' : World} {p q : Nat} {base : Int} {l : List Bool} {S : Nat → Prop} (h : CardsAt w p q base l) (k : Keeps S w w') (h1 : ¬ S p) (h2 : ¬ S q) : CardsAt w' p q base l :=
  ⟨k.blk h.hp h1, k.blk h.hq h2⟩

set_option maxHeartbeats 1000000 in
theorem card_c (p q : Nat) (base at_ : Int) (l : List Bool) (w : World) (h : CardsAt w p q base l)
    (hb : 0 ≤ base) (hb2 : base ≤ 1000000) (ha : -9223372036854775808 ≤ at_) (ha2 : at_ ≤ 9223372036854775807) (hl : l.length ≤ 1000000) :
    Calls Try.prog 124 #[.pointer (some ⟨p, 0, none⟩), .int .i64 at_] w fun e w' => e = .returned (.int .i64 (cardOf base l.length at_)) ∧ w = w' := by
  have h0 : w.cell? ⟨p, 0, none⟩ = some (.int .i64 base) := h.hp.cell 0
  have h1 : w.cell? ⟨p, 1, none⟩ = some (.slice (some ⟨q, 0, none⟩) l.length l.length) := h.hp.cell 1
  clear h
  generalize hn : l.length = n at *
  clear hn
  by_cases c1 : base ≤ at_
  · by_cases c2 : (at_ - base) / 8 < n
    · have hv : cardOf base n at_ = (at_ - base) / 8 := by simp [cardOf, c1, c2]
      rw [hv]; clear hv
      go_enter Try.func124, Try.ntmps124
      go_wp2
      go_ret
      exact ⟨rfl, rfl⟩
    · have hv : cardOf base n at_ = -1 := by simp [cardOf, c2]
      rw [hv]; clear hv
      go_enter Try.func124, Try.ntmps124
      go_wp2
      go_ret
      exact ⟨rfl, rfl⟩
  · have hv : cardOf base n at_ = -1 := by simp [cardOf, c1]
    rw [hv]; clear hv
    go_enter Try.func124, Try.ntmps124
    go_wp2
    go_ret
    exact ⟨rfl, rfl⟩

set_option maxHeartbeats 1000000 in
theorem Mark_c (p q : Nat) (base at_ : Int) (l : List Bool) (w : World) (h : CardsAt w p q base l)
    (hb : 0 ≤ base) (hb2 : base ≤ 1000000) (ha : -9223372036854775808 ≤ at_) (ha2 : at_ ≤ 9223372036854775807) (hl : l.length ≤ 1000000) :
    Calls Try.prog 90 #[.pointer (some ⟨p, 0, none⟩), .int .i64 at_] w fun e w' => e = .returned (.bool (decide (0 ≤ cardOf base l.length at_))) ∧
      CardsAt w' p q base (markL base l at_) ∧ Keeps (· = q) w w' := by
  have H := card_c p q base at_ l w h hb hb2 ha ha2 hl
  have h1 : w.cell? ⟨p, 1, none⟩ = some (.slice (some ⟨q, 0, none⟩) l.length l.length) := h.hp.cell 1
  have HM : Hid (markL base l at_ = if 0 ≤ cardOf base l.length at_ then l.set (cardOf base l.length at_).toNat true else l) := rfl
  have HL : 0 ≤ cardOf base l.length at_ → (cardOf base l.length at_).toNat < l.length := cardOf_lt
  have hup : cardOf base l.length at_ ≤ 1000000 := by unfold cardOf; split <;> omega
  generalize markL base l at_ = l' at *
  generalize cardOf base l.length at_ = k at *
  have HH := Lib.hid H; clear H
  have HC := Lib.hid h; clear h
  by_cases c : 0 ≤ k
  · obtain ⟨k, rfl⟩ := Int.eq_ofNat_of_zero_le c
    have hk := HL c
    simp only [Int.toNat_natCast] at hk HM
    have hq : w.cell? ⟨q, k, none⟩ = some (.bool (l.getD k false)) := by rw [HC.out.hq.cell]; simp [List.getD, hk]
    have hf : w.frozen? ⟨q, k, none⟩ = false := HC.out.hq.free _
    go_enter Try.func90, Try.ntmps90
    go_wp2_with (go_at_call 124; refine HH.out.mono ?_; rintro e w' ⟨rfl, rfl⟩)
    go_ret
    have hm := HM.out
    simp at hm
    subst hm
    refine ⟨rfl, ⟨?_, ?_⟩, (Keeps.refl (· = q) w).setCell (p := ⟨q, k, none⟩) (.inl rfl) _⟩
    · simpa using HC.out.hp.setOther (a := ⟨q, k, none⟩) HC.out.ne (.bool true)
    · simpa [List.map_set] using HC.out.hq.setSame k (.bool true)
  · have hd : decide (0 ≤ k) = false := by simpa using c
    go_enter Try.func90, Try.ntmps90
    go_wp2_with (go_at_call 124; refine HH.out.mono ?_; rintro e w' ⟨rfl, rfl⟩)
    go_ret
    have hm := HM.out
    rw [if_neg (by omega)] at hm
    subst hm
    exact ⟨ret_of (by show Value.bool false = _; rw [hd]), HC.out, Keeps.refl _ _⟩

set_option maxHeartbeats 1000000 in
theorem Dirty_c (p q : Nat) (base at_ : Int) (l : List Bool) (w : World) (h : CardsAt w p q base l)
    (hb : 0 ≤ base) (hb2 : base ≤ 1000000) (ha : -9223372036854775808 ≤ at_) (ha2 : at_ ≤ 9223372036854775807) (hl : l.length ≤ 1000000) :
    Calls Try.prog 76 #[.pointer (some ⟨p, 0, none⟩), .int .i64 at_] w fun e w' => e = .returned (.bool (dirtyL base l at_)) ∧ w = w' := by
  have H := card_c p q base at_ l w h hb hb2 ha ha2 hl
  have h1 : w.cell? ⟨p, 1, none⟩ = some (.slice (some ⟨q, 0, none⟩) l.length l.length) := h.hp.cell 1
  have HM : Hid (dirtyL base l at_ = (decide (0 ≤ cardOf base l.length at_) && l.getD (cardOf base l.length at_).toNat false)) := rfl
  have HL : 0 ≤ cardOf base l.length at_ → (cardOf base l.length at_).toNat < l.length := cardOf_lt
  have hup : cardOf base l.length at_ ≤ 1000000 := by unfold cardOf; split <;> omega
  generalize dirtyL base l at_ = l' at *
  generalize cardOf base l.length at_ = k at *
  have HH := Lib.hid H; clear H
  have HC := Lib.hid h; clear h
  by_cases c : 0 ≤ k
  · obtain ⟨k, rfl⟩ := Int.eq_ofNat_of_zero_le c
    have hk := HL c
    simp only [Int.toNat_natCast] at hk HM
    have hq : w.cell? ⟨q, k, none⟩ = some (.bool (l.getD k false)) := by rw [HC.out.hq.cell]; simp [List.getD, hk]
    go_enter Try.func76, Try.ntmps76
    go_wp2_with (go_at_call 124; refine HH.out.mono ?_; rintro e w' ⟨rfl, rfl⟩)
    go_ret
    exact ⟨by rw [HM.out]; simp [List.getD, hk], rfl⟩
  · have hd : decide (0 ≤ k) = false := by simpa using c
    go_enter Try.func76, Try.ntmps76
    go_wp2_with (go_at_call 124; refine HH.out.mono ?_; rintro e w' ⟨rfl, rfl⟩)
    go_ret
    exact ⟨by rw [HM.out]; simp [hd], rfl⟩


/-- How many are true. -/
def countL (l : List Bool) : Nat := (l.filter id).length

theorem countL_le (l : List Bool) : countL l ≤ l.length := List.length_filter_le _ _

theorem countL_take (l : List Bool) (k : Nat) (h : k < l.length) : countL (l.take (k + 1)) = countL (l.take k) + if l.getD k false then 1 else 0 := by
  unfold countL
  rw [List.take_succ_eq_append_getElem h, List.filter_append]
  by_cases hb : l[k] <;> simp [hb, List.getD, h]

set_option maxHeartbeats 1000000 in
theorem Count_c (p q : Nat) (base : Int) (l : List Bool) (w : World) (h : CardsAt w p q base l) (hl : l.length ≤ 1000000) :
    Calls Try.prog 54 #[.pointer (some ⟨p, 0, none⟩)] w fun e w' => e = .returned (.int .i64 (countL l)) ∧ w = w' := by
  have h1 : w.cell? ⟨p, 1, none⟩ = some (.slice (some ⟨q, 0, none⟩) l.length l.length) := h.hp.cell 1
  have HC := Lib.hid h; clear h
  go_enter Try.func54, Try.ntmps54
  go_wp2
  go_loop [3, 5, 11] (fun n _ i => ∃ k : Nat, k ≤ l.length ∧ i = .int .i64 k ∧ n = .int .i64 (countL (l.take k))) (fun _ _ i => l.length - (intOf i).toNat)
  case atStart => exact ⟨0, Nat.zero_le _, rfl, rfl⟩
  case round =>
    obtain ⟨k, hk, rfl, rfl⟩ := hrel
    have hc : countL (l.take k) ≤ k := Nat.le_trans (countL_le _) (List.length_take_le _ _)
    by_cases hlt : k < l.length
    · have hq : w.cell? ⟨q, k, none⟩ = some (.bool (l.getD k false)) := by rw [HC.out.hq.cell]; simp [List.getD, hlt]
      have HS := Lib.hid (countL_take l k hlt)
      generalize l.getD k false = b at *
      cases b
      · go_wp2
        go_round
        case rel => exact ⟨k + 1, by omega, by go_num, int_eq (by rw [HS.out]; simp)⟩
        case measure => simp [intOf]; omega
      · go_wp2
        go_round
        case rel => exact ⟨k + 1, by omega, by go_num, int_eq (by rw [HS.out]; simp)⟩
        case measure => simp [intOf]; omega
    · go_wp2
      go_ret
      exact ⟨by rw [List.take_of_length_le (by omega)]; rfl, rfl⟩


theorem info_bool : (Try.prog.info? 4).map (fun i => (i.zero, i.size, i.bytes)) = some (some (.bool false), 1, 1) := by kernel_rfl

set_option maxHeartbeats 1000000 in
theorem New_c (base words : Int) (w : World) (hw : words ≤ 1000000) (hw2 : -9223372036854775808 ≤ words) :
    Calls Try.prog 88 #[.int .i64 base, .int .i64 words] w fun e w' => e = .returned (.pointer (some ⟨w.heap.size + 1, 0, none⟩)) ∧
      CardsAt w' (w.heap.size + 1) w.heap.size base (List.replicate (cardsN words) false) ∧ w'.heap.size = w.heap.size + 2 ∧ Keeps (fun _ => False) w w' := by
  obtain ⟨i0, hi, hz0, hz1, hz2⟩ := info_parts info_bool
  have HN : Hid (cardsN words = ((max words 0 + 7) / 8).toNat) := rfl
  have hmk := fun (wx : World) (n : Nat) (h1 : n ≤ 9223372036854775807) (h2 : n ≤ 281474976710656) => run_make_one (P := Try.prog) wx 76 4 i0 (.bool false) Try.underlying76 hi hz0 rfl hz1 n (by rw [hz2]; omega) h1
  have Hi := Lib.hid hi; clear hi hz0 hz1 hz2
  have HM := Lib.hid hmk; clear hmk
  by_cases c : 0 ≤ words
  · have hm : (cardsN words : Int) = (words + 8 - 1) / 8 := by rw [HN.out]; omega
    have hk := fun (wx : World) => HM.out wx (cardsN words) (by omega) (by omega)
    have h2 : max words 0 = words := by omega
    rw [hm] at hk
    have Hm := Lib.hid hm; clear hm
    generalize hn : cardsN words = n at *
    clear hn
    go_enter Try.func88, Try.ntmps88
    go_wp2
    go_ret
    exact ⟨rfl, ⟨.newAt _ (by simp) (by simp), (Blk.newAt _ rfl (by simp)).alloc _⟩, by simp, ((Keeps.refl _ _).alloc _).alloc _⟩
  · have hm : cardsN words = 0 := by rw [HN.out]; omega
    have hk : ∀ wx : World, (Instr.makeSlice 76 (.int .i64 0) (.int .i64 0)).run Try.prog wx = .ok (.slice (some ⟨wx.heap.size, 0, none⟩) 0 0) (wx.alloc (.cells #[] 4)) := fun wx => by simpa using HM.out wx 0 (by omega) (by omega)
    have h2 : max words 0 = 0 := by omega
    rw [hm]
    have Hm := Lib.hid hm; clear hm
    go_enter Try.func88, Try.ntmps88
    go_wp2
    go_ret
    exact ⟨rfl, ⟨.newAt _ (by simp) (by simp), (Blk.newAt _ rfl (by simp)).alloc _⟩, by simp, ((Keeps.refl _ _).alloc _).alloc _⟩

set_option maxHeartbeats 1000000 in
theorem Clear_c (p q : Nat) (base : Int) (l : List Bool) (w : World) (h : CardsAt w p q base l) :
    Calls Try.prog 123 #[.pointer (some ⟨p, 0, none⟩)] w fun e w' => e = .returned (.tuple #[]) ∧
      CardsAt w' p q base (List.replicate l.length false) ∧ Keeps (· = q) w w' := by
  have h1 : w.cell? ⟨p, 1, none⟩ = some (.slice (some ⟨q, 0, none⟩) l.length l.length) := h.hp.cell 1
  have hk := run_clear_one (P := Try.prog) w 76 0 4 (.bool false) Try.underlying76 (by intro w; kernel_rfl) rfl rfl q l.length l.length _ h.hq (by simp)
  have HC := Lib.hid h; clear h
  go_enter Try.func123, Try.ntmps123
  go_wp2
  go_end0
  refine ⟨rfl, ⟨?_, ?_⟩, ?_⟩
  · simpa using HC.out.hp.setRowOther HC.out.ne _
  · simpa using HC.out.hq.setRow (List.replicate l.length (.bool false))
  · exact (Keeps.refl (· = q) w).setRow (.inl rfl) _

end Go.Proofs.Ytjifdalflepcoab
