/-
  The walk of CardsDoes.
-/
import Derived.Test.YtjifdalflepcoaaCardsLaw
namespace Go.Proofs.Ytjifdalflepcoaa
open Go.RowKit
set_option linter.unusedVariables false
set_option linter.unusedSimpArgs false

def InLoop (w₀ wr : World) (p q : Nat) (base : Int) (N : Nat) (v : Value) : Prop :=
  ∃ (lb : List Bool) (mk : List Int), CardsAt wr p q base lb ∧ lb.length = N ∧ MarkInv lb mk ∧ Sl wr 3 1 v mk.length (mk.map (Value.int .i64)) ∧ Keeps (fun _ => False) w₀ wr ∧ w₀.heap.size ≤ q ∧
    (∀ k, ownB v k → w₀.heap.size ≤ k)

theorem mk_le {lb : List Bool} {mk : List Int} {N : Nat} (h : MarkInv lb mk) (hl : lb.length = N) : mk.length ≤ N := by
  rw [← h.1, ← hl]; exact countL_le lb

set_option maxHeartbeats 4000000 in
set_option maxRecDepth 100000 in
theorem does_c (base words at_ : Int) (ao : Option Addr) (cap : Nat) (l : List Int) (w : World)
    (hb1 : -9223372036854775808 ≤ base) (hb2 : base ≤ 9223372036854775807) (hw1 : -9223372036854775808 ≤ words) (hw2 : words ≤ 9223372036854775807) (ha1 : -9223372036854775808 ≤ at_) (ha2 : at_ ≤ 9223372036854775807)
    (hl : Rd w ao (l.map (Value.int .i64))) (hlb : ∀ i, i < l.length → -9223372036854775808 ≤ l.getD i 0 ∧ l.getD i 0 ≤ 9223372036854775807) (hlm : l.length ≤ 9223372036854775806)
    (g0 : 0 ≤ base) (g1 : base ≤ 100000) (g2 : words ≤ 5000) (g3 : l.length ≤ 300) :
    Calls Try.prog 4 #[.int .i64 base, .int .i64 words, .slice ao l.length cap, .int .i64 at_] w fun e w' => e = .returned (.bool true) ∧ Keeps (fun _ => False) w w' := by
  obtain ⟨i0, hi, hz0, hz1, hz2⟩ := info_parts info_int
  have Hi := Lib.hid hi; have Hz0 := Lib.hid hz0; have Hz1 := Lib.hid hz1; have Hz2 := Lib.hid hz2; clear hi hz0 hz1 hz2
  have HR := Lib.hid hl; clear hl
  have HB := Lib.hid hlb; clear hlb
  have hg3 : ¬ (300 : Int) < (l.length : Int) := by omega
  go_enter Try.func4, Try.ntmps4
  go_wp2_with fail
  refine (cardsBegun_c _).mono ?_
  rintro e w1 ⟨rfl, hk1⟩
  go_wp2_with fail
  refine (New_c base words _ (by omega) (by omega)).mono ?_
  rintro e w2 ⟨rfl, hc2, hs2, hk2⟩
  clear hs2
  have hN : cardsN words ≤ 1000 := by unfold cardsN; omega
  have h8a : words ≤ 8 * (cardsN words : Int) := by unfold cardsN; omega
  have h8b : Hid (∀ j : Nat, j < cardsN words → 8 * (j : Int) < words) := fun j hj => by unfold cardsN at hj; omega
  generalize cardsN words = N at *
  generalize hp : w1.heap.size + 1 = p at *
  generalize hq : w1.heap.size = q at *
  have hq' : w.heap.size ≤ q := by rw [← hq]; exact hk1.size
  clear hp hq
  have HK : Keeps (fun _ => False) w w2 := hk1.then hk2 (fun _ h => h.elim)
  have HI : InLoop w w2 p q base N (.slice none 0 0) :=
    ⟨_, [], hc2, by simp, .start N, by simpa using Sl.nil w2 3 1, HK, hq', by intro k hk; simp [ownB, Value.ownBlock] at hk⟩
  clear hk1 hk2 hc2 HK
  go_wp2_with fail
  go_loop [10] (fun n => ∃ k : Nat, k ≤ N ∧ n = .int .i64 k) (fun n => N - (intOf n).toNat)
  case atStart => exact ⟨0, by omega, rfl⟩
  case round =>
    obtain ⟨k, hk, rfl⟩ := hrel
    by_cases hlt : k < N
    · have hx := h8b.out k hlt
      go_wp2
      go_round
      case rel => exact ⟨k + 1, by omega, by go_num⟩
      case measure => simp [intOf]; omega
    · obtain rfl : k = N := by omega
      clear hlt hk
      go_wp2_with fail
      go_loopw [11, 12] (fun v i wr => ∃ j : Nat, j ≤ l.length ∧ i = .int .i64 j ∧ InLoop w wr p q base k v) (fun _ i _ => l.length - (intOf i).toNat)
      case atStart => exact ⟨0, by omega, rfl, HI⟩
      case round =>
        clear HI
        obtain ⟨j, hj, rfl, lb, mk, hc, hll, hm, hs, hkk, hqq, how⟩ := hrel
        have HLL := Lib.hid hll; clear hll
        have HKK := Lib.hid hkk; clear hkk
        have HHM := Lib.hid hm; clear hm
        have HOW := Lib.hid how; clear how
        obtain ⟨mo, mc, rfl, hmr, hmn, hmc⟩ := hs.rd
        have hmle : mk.length ≤ k := mk_le HHM.out HLL.out
        by_cases hlt : j < l.length
        · obtain ⟨g, o, rfl, _⟩ := HR.out.int j hlt
          have hcell : ∀ wx, Keeps (fun _ => False) w wx → wx.cell? ⟨g, o + j, none⟩ = some (.int .i64 (l.getD j 0)) := fun wx hk => by
            obtain ⟨g', o', e, hc⟩ := (HR.out.keep hk (fun _ _ _ h => h)).int j hlt
            simp at e; obtain ⟨rfl, rfl⟩ := e; exact hc
          have hxb := HB.out j hlt
          generalize l.getD j 0 = x at *
          obtain ⟨hx1, hx2⟩ := hxb
          have HC : ∀ wx, Hid (Keeps (fun _ => False) w wx) → wx.cell? ⟨g, o + j, none⟩ = some (.int .i64 x) := fun wx h => hcell wx h.out
          clear hcell
          by_cases c0 : x < 0
          · have hx0 := HC wr HKK
            go_wp2_with fail
            refine (Clear_c p q base lb _ hc).mono ?_
            rintro e w3 ⟨rfl, hc3, hk3⟩
            have HK3 := Lib.hid (HKK.out.then hk3 (by rintro k rfl; exact .inr hqq))
            clear hk3 hs hx0
            rw [HLL.out] at hc3
            go_wp2
            go_roundw
            case rel => exact ⟨j + 1, by omega, by go_num, _, [], hc3, by simp, .start k, Sl.nil _ _ _, HK3.out, hqq, by intro k hk; simp [ownB, Value.ownBlock] at hk⟩
            case measure => simp [intOf]; omega
          by_cases c1 : base ≤ x
          · by_cases c2 : (x - base) / 8 < (k : Int)
            · have e1 : decide (0 ≤ cardOf base lb.length x) = true := by
                rw [HLL.out, cardOf_in c1 c2]; exact decide_eq_true (by omega)
              have e3 : markL base lb x = lb.set ((x - base) / 8).toNat true := by unfold markL; rw [if_pos (of_decide_eq_true e1), HLL.out, cardOf_in c1 c2]
              have e2 : dirtyL base (lb.set ((x - base) / 8).toNat true) x = true := by
                unfold dirtyL; rw [List.length_set, HLL.out, cardOf_in c1 c2]
                have : ((x - base) / 8).toNat < lb.length := by rw [HLL.out]; omega
                simp [List.getD, this]; omega
              have E1 := Lib.hid e1; have E2 := Lib.hid e2; have E3 := Lib.hid e3; clear e1 e2 e3
              have hx0 := HC wr HKK
              by_cases c3 : (x - base) / 8 ∈ mk
              · have M1 := Lib.hid (HHM.out.old c3)
                go_wp2_with fail
                refine (Mark_c p q base x lb _ hc (by omega) (by omega) (by omega) (by omega) (by rw [HLL.out]; omega)).mono ?_
                rintro e w3 ⟨rfl, hc3, hk3⟩
                rw [E1.out]
                rw [E3.out] at hc3
                have HK3 := Lib.hid (HKK.out.then hk3 (by rintro k rfl; exact .inr hqq))
                have hx1 := HC w3 HK3
                have hs3 := hs.keep hk3 (by rintro g hg rfl; obtain ⟨_, cur, hcur⟩ := hs.own hg; exact (hcur.ne hc.hq (by decide)) rfl)
                have hr3 := hmr.keep hk3 (by rintro a rfl _ rfl; obtain ⟨_, cur, hcur⟩ := hs.own (k := a.block) rfl; exact (hcur.ne hc.hq (by decide)) rfl)
                clear hk3 hmr
                go_wp2_with fail
                refine (In_c mo mc mk _ _ hr3 (by omega)).mono ?_
                rintro e w' ⟨rfl, rfl⟩
                rw [decide_eq_true c3]
                go_wp2_with fail
                refine (Dirty_c p q base x _ _ hc3 (by omega) (by omega) (by omega) (by omega) (by rw [List.length_set, HLL.out]; omega)).mono ?_
                rintro e w' ⟨rfl, rfl⟩
                rw [E2.out]
                go_wp2_with fail
                refine (Count_c p q base _ _ hc3 (by rw [List.length_set, HLL.out]; omega)).mono ?_
                rintro e w' ⟨rfl, rfl⟩
                rw [M1.out.1]
                go_wp2
                go_roundw
                case rel => exact ⟨j + 1, by omega, by go_num, _, mk, hc3, by rw [List.length_set]; exact HLL.out, M1.out, hs3, HK3.out, hqq, HOW.out⟩
                case measure => simp [intOf]; omega
              · have M1 := Lib.hid (HHM.out.new (by omega) (by rw [HLL.out]; omega) c3)
                go_wp2_with fail
                refine (Mark_c p q base x lb _ hc (by omega) (by omega) (by omega) (by omega) (by rw [HLL.out]; omega)).mono ?_
                rintro e w3 ⟨rfl, hc3, hk3⟩
                rw [E1.out]
                rw [E3.out] at hc3
                have HK3 := Lib.hid (HKK.out.then hk3 (by rintro k rfl; exact .inr hqq))
                have hx3 := HC w3 HK3
                have hs3 := hs.keep hk3 (by rintro g hg rfl; obtain ⟨_, cur, hcur⟩ := hs.own hg; exact (hcur.ne hc.hq (by decide)) rfl)
                have hr3 := hmr.keep hk3 (by rintro a rfl _ rfl; obtain ⟨_, cur, hcur⟩ := hs.own (k := a.block) rfl; exact (hcur.ne hc.hq (by decide)) rfl)
                clear hk3 hmr
                go_wp2_with fail
                refine (In_c mo mc mk _ _ hr3 (by omega)).mono ?_
                rintro e w' ⟨rfl, rfl⟩
                rw [decide_eq_false c3]
                go_wp2_with (at_builtin; refine wpList_app rfl (.tmp 94) (.tmp 96) 28 rfl 3 i0 (.int .i64 0) 1 8 Try.underlying28 Hi.out Hz0.out Hz1.out Hz2.out rfl (by decide) _ mk.length (mk.map (Value.int .i64)) rfl ?ha ⟨w3.heap.size, 0, none⟩ 1 1 [.int .i64 ((x - base) / 8)] rfl rfl ?hb ?hc ?hd ?he ?hf)
                case ha => exact hs3.keep ((Keeps.refl (fun _ => False) _).alloc _) (fun _ _ h => h)
                case hb => exact news_at w3 3 _
                case hc => intro u hu; simp at hu; subst hu; rfl
                case hd => unfold maxLen; omega
                case he => omega
                case hf =>
                  intro v4 w4 hs4 hk4 how4
                  have hc4 : CardsAt w4 p q base (lb.set ((x - base) / 8).toNat true) := (hc3.keep ((Keeps.refl (fun _ => False) _).alloc (.cells #[.int .i64 ((x - base) / 8)] 3)) (fun h => h) (fun h => h)).keep hk4 (by intro h; have := HOW.out _ h; obtain ⟨_, cur, hcur⟩ := hs3.own h; exact (hcur.ne hc3.hp (by decide)) rfl) (by intro h; obtain ⟨_, cur, hcur⟩ := hs3.own h; exact (hcur.ne hc3.hq (by decide)) rfl)
                  have HK4 := Lib.hid ((HK3.out.alloc (.cells #[.int .i64 ((x - base) / 8)] 3)).then hk4 (fun k hk => .inr (HOW.out k hk)))
                  have HOW4 : Hid (∀ k, ownB v4 k → w.heap.size ≤ k) := fun k hk => by
                    rcases how4 k hk with h | h
                    · exact HOW.out k h
                    · have := HK3.out.size; first | omega | (simp at h; omega)
                  have hs4 : Sl w4 3 1 v4 (mk ++ [(x - base) / 8]).length ((mk ++ [(x - base) / 8]).map (Value.int .i64)) := by simpa using hs4
                  have hlm : (mk ++ [(x - base) / 8]).length ≤ k := mk_le M1.out (by rw [List.length_set]; exact HLL.out)
                  generalize mk ++ [(x - base) / 8] = mk4 at *
                  obtain ⟨mo4, mc4, rfl, _, _, _⟩ := hs4.rd
                  have hx4 := HC w4 HK4
                  clear hs3 how4 hk4 hc3 hs hr3
                  go_wp2_with fail
                  refine (Dirty_c p q base x _ _ hc4 (by omega) (by omega) (by omega) (by omega) (by rw [List.length_set, HLL.out]; omega)).mono ?_
                  rintro e w' ⟨rfl, rfl⟩
                  rw [E2.out]
                  go_wp2_with fail
                  refine (Count_c p q base _ _ hc4 (by rw [List.length_set, HLL.out]; omega)).mono ?_
                  rintro e w' ⟨rfl, rfl⟩
                  rw [M1.out.1]
                  go_wp2
                  go_roundw
                  case rel => exact ⟨j + 1, by omega, by go_num, _, mk4, hc4, by rw [List.length_set]; exact HLL.out, M1.out, hs4, HK4.out, hqq, HOW4.out⟩
                  case measure => simp [intOf]; omega
            · have e1 : decide (0 ≤ cardOf base lb.length x) = false := by
                rw [HLL.out, cardOf_out (fun h => by omega)]; rfl
              have e2 : dirtyL base lb x = false := by unfold dirtyL; rw [e1]; rfl
              have e3 : markL base lb x = lb := by unfold markL; rw [if_neg (of_decide_eq_false e1)]
              have E1 := Lib.hid e1; have E2 := Lib.hid e2; have E3 := Lib.hid e3; clear e1 e2 e3
              have hx0 := HC wr HKK
              go_wp2_with fail
              refine (Mark_c p q base x lb _ hc (by omega) (by omega) (by omega) (by omega) (by rw [HLL.out]; omega)).mono ?_
              rintro e w3 ⟨rfl, hc3, hk3⟩
              rw [E1.out]
              rw [E3.out] at hc3
              have HK3 := Lib.hid (HKK.out.then hk3 (by rintro k rfl; exact .inr hqq))
              have hx3 := HC w3 HK3
              have hs3 := hs.keep hk3 (by rintro g hg rfl; obtain ⟨_, cur, hcur⟩ := hs.own hg; exact (hcur.ne hc.hq (by decide)) rfl)
              clear hk3 hmr
              go_wp2_with fail
              refine (Dirty_c p q base x lb _ hc3 (by omega) (by omega) (by omega) (by omega) (by rw [HLL.out]; omega)).mono ?_
              rintro e w' ⟨rfl, rfl⟩
              rw [E2.out]
              go_wp2_with fail
              refine (Count_c p q base lb _ hc3 (by rw [HLL.out]; omega)).mono ?_
              rintro e w' ⟨rfl, rfl⟩
              rw [HHM.out.1]
              go_wp2
              go_roundw
              case rel => exact ⟨j + 1, by omega, by go_num, lb, mk, hc3, HLL.out, HHM.out, hs3, HK3.out, hqq, HOW.out⟩
              case measure => simp [intOf]; omega
          · have e1 : decide (0 ≤ cardOf base lb.length x) = false := by
              rw [HLL.out, cardOf_out (fun h => by omega)]; rfl
            have e2 : dirtyL base lb x = false := by unfold dirtyL; rw [e1]; rfl
            have e3 : markL base lb x = lb := by unfold markL; rw [if_neg (of_decide_eq_false e1)]
            have E1 := Lib.hid e1; have E2 := Lib.hid e2; have E3 := Lib.hid e3; clear e1 e2 e3
            have hx0 := HC wr HKK
            go_wp2_with fail
            refine (Mark_c p q base x lb _ hc (by omega) (by omega) (by omega) (by omega) (by rw [HLL.out]; omega)).mono ?_
            rintro e w3 ⟨rfl, hc3, hk3⟩
            rw [E1.out]
            rw [E3.out] at hc3
            have HK3 := Lib.hid (HKK.out.then hk3 (by rintro k rfl; exact .inr hqq))
            have hx3 := HC w3 HK3
            have hs3 := hs.keep hk3 (by rintro g hg rfl; obtain ⟨_, cur, hcur⟩ := hs.own hg; exact (hcur.ne hc.hq (by decide)) rfl)
            clear hk3 hmr
            go_wp2_with fail
            refine (Dirty_c p q base x lb _ hc3 (by omega) (by omega) (by omega) (by omega) (by rw [HLL.out]; omega)).mono ?_
            rintro e w' ⟨rfl, rfl⟩
            rw [E2.out]
            go_wp2_with fail
            refine (Count_c p q base lb _ hc3 (by rw [HLL.out]; omega)).mono ?_
            rintro e w' ⟨rfl, rfl⟩
            rw [HHM.out.1]
            go_wp2
            go_roundw
            case rel => exact ⟨j + 1, by omega, by go_num, lb, mk, hc3, HLL.out, HHM.out, hs3, HK3.out, hqq, HOW.out⟩
            case measure => simp [intOf]; omega
        · have hd := Lib.hid (dirty_at HHM.out at_ ha2 (by rw [HLL.out]; omega) g0 g1)
          have hdl : lb.length ≤ 1000000 := by rw [HLL.out]; omega
          by_cases c1 : base ≤ at_
          · by_cases c2 : at_ < 1099511627776
            · go_wp2_with fail
              refine (In_c mo mc mk _ _ hmr (by omega)).mono ?_
              rintro e w' ⟨rfl, rfl⟩
              have he : dirtyL base lb at_ = decide ((at_ - base) / 8 ∈ mk) := by rw [hd.out]; simp [c1, c2]
              rw [← he]
              clear he
              generalize hdd : dirtyL base lb at_ = d at *
              have HD := Lib.hid hdd; clear hdd
              go_wp2_with fail
              refine (Dirty_c p q base at_ _ _ hc (by omega) (by omega) (by omega) (by omega) hdl).mono ?_
              rintro e w' ⟨rfl, rfl⟩
              rw [HD.out]
              go_wp2
              go_ret
              exact ⟨ret_bool (by simp), HKK.out⟩
            · have he : dirtyL base lb at_ = false := by rw [hd.out]; simp; intro _ h; omega
              have HD := Lib.hid he; clear he
              go_wp2_with fail
              refine (Dirty_c p q base at_ _ _ hc (by omega) (by omega) (by omega) (by omega) hdl).mono ?_
              rintro e w' ⟨rfl, rfl⟩
              rw [HD.out]
              go_wp2
              go_ret
              exact ⟨rfl, HKK.out⟩
          · have he : dirtyL base lb at_ = false := by rw [hd.out]; simp; intro h; omega
            have HD := Lib.hid he; clear he
            go_wp2_with fail
            refine (Dirty_c p q base at_ _ _ hc (by omega) (by omega) (by omega) (by omega) hdl).mono ?_
            rintro e w' ⟨rfl, rfl⟩
            rw [HD.out]
            go_wp2
            go_ret
            exact ⟨rfl, HKK.out⟩

set_option maxHeartbeats 2000000 in
set_option maxRecDepth 100000 in
theorem does_out (base words at_ : Int) (ao : Option Addr) (cap n : Nat) (w : World) (h : 300 < n ∨ 5000 < words ∨ base < 0 ∨ 100000 < base) :
    Calls Try.prog 4 #[.int .i64 base, .int .i64 words, .slice ao n cap, .int .i64 at_] w fun e w' => e = .returned (.bool true) ∧ Keeps (fun _ => False) w w' := by
  by_cases c0 : (300 : Int) < (n : Int)
  · clear h
    go_enter Try.func4, Try.ntmps4
    go_wp2_with fail
    refine (cardsBegun_c _).mono ?_
    rintro e w1 ⟨rfl, hk⟩
    go_wp2_with fail
    go_ret
    exact ⟨rfl, hk⟩
  by_cases c1 : 5000 < words
  · clear h
    go_enter Try.func4, Try.ntmps4
    go_wp2_with fail
    refine (cardsBegun_c _).mono ?_
    rintro e w1 ⟨rfl, hk⟩
    go_wp2_with fail
    go_ret
    exact ⟨rfl, hk⟩
  by_cases c2 : base < 0
  · clear h
    go_enter Try.func4, Try.ntmps4
    go_wp2_with fail
    refine (cardsBegun_c _).mono ?_
    rintro e w1 ⟨rfl, hk⟩
    go_wp2_with fail
    go_ret
    exact ⟨rfl, hk⟩
  by_cases c3 : 100000 < base
  · clear h
    go_enter Try.func4, Try.ntmps4
    go_wp2_with fail
    refine (cardsBegun_c _).mono ?_
    rintro e w1 ⟨rfl, hk⟩
    go_wp2_with fail
    go_ret
    exact ⟨rfl, hk⟩
  omega

theorem CardsDoes_walk (base words : Int) (ao : Option Addr) (cap : Nat) (l : List Int) (at_ : Int) (w : World)
    (hb : -9223372036854775808 ≤ base ∧ base ≤ 9223372036854775807) (hw : -9223372036854775808 ≤ words ∧ words ≤ 9223372036854775807)
    (hl : Rd w ao (l.map (Value.int .i64))) (hlm : l.length ≤ maxLen) (hlb : ∀ x ∈ l, -9223372036854775808 ≤ x ∧ x ≤ 9223372036854775807) (ha : -9223372036854775808 ≤ at_ ∧ at_ ≤ 9223372036854775807) :
    Calls Try.prog 4 #[.int .i64 base, .int .i64 words, .slice ao l.length cap, .int .i64 at_] w fun e w' => e = .returned (.bool true) ∧ Below w.heap.size w w' := by
  by_cases h : 300 < l.length ∨ 5000 < words ∨ base < 0 ∨ 100000 < base
  · exact (does_out base words at_ ao cap l.length w h).mono fun e w' ⟨he, hk⟩ => ⟨he, hk.below (fun _ _ h => h)⟩
  · refine (does_c base words at_ ao cap l w hb.1 hb.2 hw.1 hw.2 ha.1 ha.2 hl ?_ (by omega) (by omega) (by omega) (by omega) (by omega)).mono fun e w' ⟨he, hk⟩ => ⟨he, hk.below (fun _ _ h => h)⟩
    intro i hi
    have : l.getD i 0 ∈ l := by simp [List.getD, hi]
    exact hlb _ this

theorem CardsApart_walk (base words a b : Int) (w : World)
    (_ : -9223372036854775808 ≤ base ∧ base ≤ 9223372036854775807) (_ : -9223372036854775808 ≤ words ∧ words ≤ 9223372036854775807) (_ : -9223372036854775808 ≤ a ∧ a ≤ 9223372036854775807) (_ : -9223372036854775808 ≤ b ∧ b ≤ 9223372036854775807) :
    Calls Try.prog 3 #[.int .i64 base, .int .i64 words, .int .i64 a, .int .i64 b] w fun e w' => e = .returned (.bool true) ∧ Below w.heap.size w w' := by
  by_cases h : base < 0 ∨ 100000 < base ∨ words < 0 ∨ 5000 < words ∨ a < 0 ∨ 1099511627776 < a ∨ b < 0 ∨ 1099511627776 < b
  · exact (apart_out base words a b w h).mono fun e w' ⟨he, hk⟩ => ⟨he, hk.below (fun _ _ h => h)⟩
  · exact (apart_in base words a b w (by omega) (by omega) (by omega) (by omega) (by omega) (by omega) (by omega) (by omega)).mono fun e w' ⟨he, hk⟩ => ⟨he, hk.below (fun _ _ h => h)⟩

end Go.Proofs.Ytjifdalflepcoaa
