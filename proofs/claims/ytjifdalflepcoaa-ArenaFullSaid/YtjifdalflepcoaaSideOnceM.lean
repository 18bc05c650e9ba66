/-
  SideOnce and SideSettles (law04.go): their closures, and what lies in memory.
-/
import Derived.Test.YtjifdalflepcoaaSideWakesM
namespace Go.Proofs.Ytjifdalflepcoaa
open Go.RowKit
set_option linter.unusedVariables false
set_option linter.unusedSimpArgs false

theorem Once1_c (x : Int) (w : World) : Calls Try.prog 30 (#[].push (.int .i64 x) ++ #[]) w fun e w' => e = .returned (.int .i64 x) ∧ w = w' := by
  go_enter Try.func30, Try.ntmps30
  go_wp2
  go_ret
  exact ⟨rfl, rfl⟩

theorem Once2_c (q bv : Nat) (leads : List (Int × Int)) (T : List Int) (hT : ∀ e ∈ leads, e.2 ∈ T) (hl : leads.length ≤ 1000) (w : World) (t : List Int) (av lv : Value) (x : Int) (h : WordsAt w q av lv t leads) (hb : Blk w bv [.pointer (some ⟨q, 0, none⟩)] 42) (hbd : t.length + unT T t ≤ 1000) (hx : x ∈ T) :
    Calls Try.prog 31 (#[].push (.int .i64 x) ++ #[.pointer (some ⟨bv, 0, none⟩)]) w fun e w' => KeptTo q leads t av lv x x w e w' := by
  have c0 := hb.cell 0
  have bl := hb.lt
  simp only [List.getElem?_cons_zero] at c0
  have H := Lib.hid h; have HT := Lib.hid hT; clear h hb hT
  go_enter Try.func31, Try.ntmps31
  go_wp2_with fail
  refine (keep_any q av lv t leads T x _ H.out hx HT.out hl hbd).mono ?_
  rintro e w1 ⟨rfl, a1, h1, k1, o1⟩
  have HE : Hid (∃ av', WordsAt w1 q av' lv (keepW leads 1000 t x) leads ∧ Keeps (fun b => b = q ∨ ownB av b) w w1 ∧ ∀ b, ownB av' b → ownB av b ∨ w.heap.size ≤ b) := ⟨a1, h1, k1, o1⟩
  clear h1 k1 o1
  go_wp2_with fail
  go_ret
  exact ⟨rfl, HE.out⟩

set_option maxHeartbeats 2000000 in
set_option maxRecDepth 100000 in
theorem CountE_c (ao : Option Addr) (cap : Nat) (l : List (Int × Int)) (e1 e2 : Int) (w : World) (h : Rd w ao (entV l)) (hl : l.length ≤ 1000000) :
    Calls Try.prog 32 #[.slice ao l.length cap, .agg #[.int .i64 e1, .int .i64 e2]] w fun e w' => e = .returned (.int .i64 (cntE l (e1, e2))) ∧ Keeps (fun _ => False) w w' := by
  have H := Lib.hid h; clear h
  go_enter Try.func32, Try.ntmps32
  go_wp2_with fail
  have hb := Blk.newAt (w := w) (b := w.heap.size) (T := 40) #[.int .i64 e1, .int .i64 e2] rfl rfl
  have hk0 := (Keeps.refl (fun _ => False) w).alloc (.cells #[.int .i64 e1, .int .i64 e2] 40)
  generalize hw1 : w.alloc (.cells #[.int .i64 e1, .int .i64 e2] 40) = w1 at *
  have HK0 := Lib.hid hk0; have HB := Lib.hid hb
  generalize w.heap.size = be at *
  have hle : ∀ k, cntE (l.take k) (e1, e2) ≤ k := fun k => by
    have h1 : cntE (l.take k) (e1, e2) ≤ (l.take k).length := List.length_filter_le _ _
    have h2 : (l.take k).length ≤ k := List.length_take_le _ _
    omega
  have hst : ∀ k, k < l.length → cntE (l.take (k + 1)) (e1, e2) = cntE (l.take k) (e1, e2) + if (l.getD k (0, 0)) = (e1, e2) then 1 else 0 := fun k hk => by
    rw [List.take_succ_eq_append_getElem hk, cntE_snoc]
    simp [List.getD, hk]
  have HLE := Lib.hid hle; have HST := Lib.hid hst
  have HZ : Hid (cntE (l.take 0) (e1, e2) = 0) := rfl
  have HN : Hid (l.take l.length = l) := List.take_length
  clear hk0 hb hle hst hw1
  go_loopw [5, 6] (fun n i wr => ∃ k : Nat, k ≤ l.length ∧ i = .int .i64 k ∧ n = .int .i64 (cntE (l.take k) (e1, e2)) ∧ Keeps (fun _ => False) w1 wr) (fun _ i _ => l.length - (intOf i).toNat)
  case atStart => exact ⟨0, Nat.zero_le _, rfl, by rw [HZ.out]; rfl, Keeps.refl _ _⟩
  case round =>
    obtain ⟨k, hk, rfl, rfl, hkk⟩ := hrel
    have HK := Lib.hid hkk; clear hkk
    have hnk := HLE.out k
    by_cases hlt : k < l.length
    · obtain ⟨g, o, rfl, hgl, d0, d1⟩ := (H.out.keep (HK0.out.trans HK.out) (fun _ _ _ h => h)).ent k hlt
      have b0 := (HK.out.blk HB.out (fun h => h)).cell 0; have b1 := (HK.out.blk HB.out (fun h => h)).cell 1
      simp only [List.getElem?_cons_zero, List.getElem?_cons_succ] at b0 b1
      have hs := HST.out k hlt
      generalize l.getD k (0, 0) = v at *
      generalize cntE (l.take k) (e1, e2) = n at *
      have HS := Lib.hid hs; clear hs
      by_cases hv : v = (e1, e2)
      · subst hv
        have HS2 := Lib.hid (show cntE (l.take (k + 1)) (e1, e2) = n + 1 by rw [HS.out, if_pos rfl])
        go_wp2_with fail
        refine wp_region_ro (.free 0 (.free 1 (.free 2 (.pure 3 (.pure 4 (.free 5 (.fin))))))) [] (fun w' => w'.cell? ⟨g, o + k * 2, none⟩ = some (.int .i64 e1) ∧ w'.cell? ⟨g, o + k * 2 + 1, none⟩ = some (.int .i64 e2) ∧ w'.cell? ⟨be, 0, none⟩ = some (.int .i64 e1) ∧ w'.cell? ⟨be, 1, none⟩ = some (.int .i64 e2)) (by kernel_rfl) (by kernel_rfl) ⟨d0, d1, b0, b1⟩ ?_
        first | (refine wpRO_free rfl rfl _ (fun w' => by go_simp; exact Gives.mk _ _) (fun K hK => ?_); go_simp; refine hK _ ?_; clear hK K) | (refine wpRO_skipF rfl rfl (fun K hK => ?_); go_simp; refine hK _ ?_; clear hK K)
        first | (refine wpRO_free rfl rfl _ (fun w' => by go_simp; exact Gives.mk _ _) (fun K hK => ?_); go_simp; refine hK _ ?_; clear hK K) | (refine wpRO_skipF rfl rfl (fun K hK => ?_); go_simp; refine hK _ ?_; clear hK K)
        first | (refine wpRO_free rfl rfl _ (fun w' => by go_simp; exact Gives.mk _ _) (fun K hK => ?_); go_simp; refine hK _ ?_; clear hK K) | (refine wpRO_skipF rfl rfl (fun K hK => ?_); go_simp; refine hK _ ?_; clear hK K)
        first | (refine wpRO_pure rfl rfl _ (fun w' hG => by obtain ⟨g0, g1, g2, g3⟩ := hG; exact gives_agg2 rfl (by decide +kernel) rfl (by assumption) (by assumption)) (fun K hK => ?_); go_simp; refine hK _ ?_; clear hK K) | (refine wpRO_pure rfl rfl _ (fun w' hG => by obtain ⟨g0, g1, g2, g3⟩ := hG; go_simp; exact Gives.mk _ _) (fun K hK => ?_); go_simp; refine hK _ ?_; clear hK K) | (refine wpRO_skip rfl rfl (fun K hK => ?_); go_simp; refine hK _ ?_; clear hK K)
        first | (refine wpRO_pure rfl rfl _ (fun w' hG => by obtain ⟨g0, g1, g2, g3⟩ := hG; exact gives_agg2 rfl (by decide +kernel) rfl (by assumption) (by assumption)) (fun K hK => ?_); go_simp; refine hK _ ?_; clear hK K) | (refine wpRO_pure rfl rfl _ (fun w' hG => by obtain ⟨g0, g1, g2, g3⟩ := hG; go_simp; exact Gives.mk _ _) (fun K hK => ?_); go_simp; refine hK _ ?_; clear hK K) | (refine wpRO_skip rfl rfl (fun K hK => ?_); go_simp; refine hK _ ?_; clear hK K)
        first | (refine wpRO_free rfl rfl _ (fun w' => by go_simp; exact Gives.mk _ _) (fun K hK => ?_); go_simp; refine hK _ ?_; clear hK K) | (refine wpRO_skipF rfl rfl (fun K hK => ?_); go_simp; refine hK _ ?_; clear hK K)
        refine wpRO_fin ?_
        go_wp2_with fail
        go_roundw
        case rel => exact ⟨k + 1, by omega, by go_num, by rw [HS2.out]; go_num, HK.out.drew⟩
        case measure => simp [intOf]; omega
      · have HS2 := Lib.hid (show cntE (l.take (k + 1)) (e1, e2) = n by rw [HS.out, if_neg hv, Nat.add_zero])
        obtain ⟨v1, v2⟩ := v
        by_cases h1 : v1 = e1
        · subst h1
          have h2 : ¬ v2 = e2 := fun h => hv (by rw [h])
          clear hv
          go_wp2_with fail
          refine wp_region_ro (.free 0 (.free 1 (.free 2 (.pure 3 (.pure 4 (.free 5 (.fin))))))) [] (fun w' => w'.cell? ⟨g, o + k * 2, none⟩ = some (.int .i64 v1) ∧ w'.cell? ⟨g, o + k * 2 + 1, none⟩ = some (.int .i64 v2) ∧ w'.cell? ⟨be, 0, none⟩ = some (.int .i64 v1) ∧ w'.cell? ⟨be, 1, none⟩ = some (.int .i64 e2)) (by kernel_rfl) (by kernel_rfl) ⟨d0, d1, b0, b1⟩ ?_
          first | (refine wpRO_free rfl rfl _ (fun w' => by go_simp; exact Gives.mk _ _) (fun K hK => ?_); go_simp; refine hK _ ?_; clear hK K) | (refine wpRO_skipF rfl rfl (fun K hK => ?_); go_simp; refine hK _ ?_; clear hK K)
          first | (refine wpRO_free rfl rfl _ (fun w' => by go_simp; exact Gives.mk _ _) (fun K hK => ?_); go_simp; refine hK _ ?_; clear hK K) | (refine wpRO_skipF rfl rfl (fun K hK => ?_); go_simp; refine hK _ ?_; clear hK K)
          first | (refine wpRO_free rfl rfl _ (fun w' => by go_simp; exact Gives.mk _ _) (fun K hK => ?_); go_simp; refine hK _ ?_; clear hK K) | (refine wpRO_skipF rfl rfl (fun K hK => ?_); go_simp; refine hK _ ?_; clear hK K)
          first | (refine wpRO_pure rfl rfl _ (fun w' hG => by obtain ⟨g0, g1, g2, g3⟩ := hG; exact gives_agg2 rfl (by decide +kernel) rfl (by assumption) (by assumption)) (fun K hK => ?_); go_simp; refine hK _ ?_; clear hK K) | (refine wpRO_pure rfl rfl _ (fun w' hG => by obtain ⟨g0, g1, g2, g3⟩ := hG; go_simp; exact Gives.mk _ _) (fun K hK => ?_); go_simp; refine hK _ ?_; clear hK K) | (refine wpRO_skip rfl rfl (fun K hK => ?_); go_simp; refine hK _ ?_; clear hK K)
          first | (refine wpRO_pure rfl rfl _ (fun w' hG => by obtain ⟨g0, g1, g2, g3⟩ := hG; exact gives_agg2 rfl (by decide +kernel) rfl (by assumption) (by assumption)) (fun K hK => ?_); go_simp; refine hK _ ?_; clear hK K) | (refine wpRO_pure rfl rfl _ (fun w' hG => by obtain ⟨g0, g1, g2, g3⟩ := hG; go_simp; exact Gives.mk _ _) (fun K hK => ?_); go_simp; refine hK _ ?_; clear hK K) | (refine wpRO_skip rfl rfl (fun K hK => ?_); go_simp; refine hK _ ?_; clear hK K)
          first | (refine wpRO_free rfl rfl _ (fun w' => by go_simp; exact Gives.mk _ _) (fun K hK => ?_); go_simp; refine hK _ ?_; clear hK K) | (refine wpRO_skipF rfl rfl (fun K hK => ?_); go_simp; refine hK _ ?_; clear hK K)
          refine wpRO_fin ?_
          go_wp2_with fail
          go_roundw
          case rel => exact ⟨k + 1, by omega, by go_num, by rw [HS2.out], HK.out.drew⟩
          case measure => simp [intOf]; omega
        · clear hv
          go_wp2_with fail
          refine wp_region_ro (.free 0 (.free 1 (.free 2 (.pure 3 (.pure 4 (.free 5 (.fin))))))) [] (fun w' => w'.cell? ⟨g, o + k * 2, none⟩ = some (.int .i64 v1) ∧ w'.cell? ⟨g, o + k * 2 + 1, none⟩ = some (.int .i64 v2) ∧ w'.cell? ⟨be, 0, none⟩ = some (.int .i64 e1) ∧ w'.cell? ⟨be, 1, none⟩ = some (.int .i64 e2)) (by kernel_rfl) (by kernel_rfl) ⟨d0, d1, b0, b1⟩ ?_
          first | (refine wpRO_free rfl rfl _ (fun w' => by go_simp; exact Gives.mk _ _) (fun K hK => ?_); go_simp; refine hK _ ?_; clear hK K) | (refine wpRO_skipF rfl rfl (fun K hK => ?_); go_simp; refine hK _ ?_; clear hK K)
          first | (refine wpRO_free rfl rfl _ (fun w' => by go_simp; exact Gives.mk _ _) (fun K hK => ?_); go_simp; refine hK _ ?_; clear hK K) | (refine wpRO_skipF rfl rfl (fun K hK => ?_); go_simp; refine hK _ ?_; clear hK K)
          first | (refine wpRO_free rfl rfl _ (fun w' => by go_simp; exact Gives.mk _ _) (fun K hK => ?_); go_simp; refine hK _ ?_; clear hK K) | (refine wpRO_skipF rfl rfl (fun K hK => ?_); go_simp; refine hK _ ?_; clear hK K)
          first | (refine wpRO_pure rfl rfl _ (fun w' hG => by obtain ⟨g0, g1, g2, g3⟩ := hG; exact gives_agg2 rfl (by decide +kernel) rfl (by assumption) (by assumption)) (fun K hK => ?_); go_simp; refine hK _ ?_; clear hK K) | (refine wpRO_pure rfl rfl _ (fun w' hG => by obtain ⟨g0, g1, g2, g3⟩ := hG; go_simp; exact Gives.mk _ _) (fun K hK => ?_); go_simp; refine hK _ ?_; clear hK K) | (refine wpRO_skip rfl rfl (fun K hK => ?_); go_simp; refine hK _ ?_; clear hK K)
          first | (refine wpRO_pure rfl rfl _ (fun w' hG => by obtain ⟨g0, g1, g2, g3⟩ := hG; exact gives_agg2 rfl (by decide +kernel) rfl (by assumption) (by assumption)) (fun K hK => ?_); go_simp; refine hK _ ?_; clear hK K) | (refine wpRO_pure rfl rfl _ (fun w' hG => by obtain ⟨g0, g1, g2, g3⟩ := hG; go_simp; exact Gives.mk _ _) (fun K hK => ?_); go_simp; refine hK _ ?_; clear hK K) | (refine wpRO_skip rfl rfl (fun K hK => ?_); go_simp; refine hK _ ?_; clear hK K)
          first | (refine wpRO_free rfl rfl _ (fun w' => by go_simp; exact Gives.mk _ _) (fun K hK => ?_); go_simp; refine hK _ ?_; clear hK K) | (refine wpRO_skipF rfl rfl (fun K hK => ?_); go_simp; refine hK _ ?_; clear hK K)
          refine wpRO_fin ?_
          go_wp2_with fail
          go_roundw
          case rel => exact ⟨k + 1, by omega, by go_num, by rw [HS2.out], HK.out.drew⟩
          case measure => simp [intOf]; omega
    · obtain rfl : k = l.length := by omega
      go_wp2_with fail
      go_ret
      exact ⟨rfl, HK0.out.trans HK.out⟩

/-- A Side and a words in memory, pointed to by the variable at bv. -/
structure SW (w0 wr : World) (p q bv : Nat) (rv sv a1 l1 : Value) (t : List Int) (regs wait leads : List (Int × Int)) : Prop where
  hS : SideAt wr p rv sv regs wait
  h1 : WordsAt wr q a1 l1 t leads
  hb : Blk wr bv [.pointer (some ⟨q, 0, none⟩)] 42
  ap : ∀ k, WFp q a1 l1 k ∨ k = bv → ¬ SideFp p rv sv k
  hK : Keeps (fun _ => False) w0 wr
  f1 : ∀ k, WFp q a1 l1 k ∨ k = bv → w0.heap.size ≤ k
  fS : ∀ k, SideFp p rv sv k → w0.heap.size ≤ k

section
variable {w0 wr w2 : World} {p q bv : Nat} {rv sv a1 l1 : Value} {t : List Int} {regs wait leads : List (Int × Int)}

theorem SW.keep (h : SW w0 wr p q bv rv sv a1 l1 t regs wait leads) (k : Keeps (fun _ => False) wr w2) : SW w0 w2 p q bv rv sv a1 l1 t regs wait leads :=
  ⟨h.hS.keep k (fun _ _ h => h), h.h1.keep k (fun _ _ h => h), k.blk h.hb (fun h => h), h.ap, h.hK.trans k, h.f1, h.fS⟩

theorem SW.J (h : SW w0 wr p q bv rv sv a1 l1 t regs wait leads) {T : List Int} (hb : t.length + unT T t ≤ 1000) : WJ q bv leads T wr t (fun k => WFp q a1 l1 k ∨ k = bv) :=
  ⟨a1, l1, h.h1, h.hb, hb, fun k => by show (WFp q a1 l1 k ∨ k = bv) ↔ _; unfold WFp; rw [or_assoc, or_assoc]⟩

/-- Behind Settle. -/
theorem SW.settled {T : List Int} {L : Liv Try.prog p (List Int)} (hL : L.J = WJ q bv leads T) (h : SW w0 wr p q bv rv sv a1 l1 t regs wait leads) {e : Ending} (hs : SettleTo L t (fun k => WFp q a1 l1 k ∨ k = bv) rv sv regs wait wr e w2) :
    ∃ rv' sv' a' l', SW w0 w2 p q bv rv' sv' a' l' (passM L.alive L.keep t regs wait).1 (newRegs L.alive L.now (passM L.alive L.keep t regs wait).1 (passM L.alive L.keep t regs wait).2.2) (newWait L.alive L.now (passM L.alive L.keep t regs wait).1 (passM L.alive L.keep t regs wait).2.1) leads ∧
      (passM L.alive L.keep t regs wait).1.length + unT T (passM L.alive L.keep t regs wait).1 ≤ 1000 := by
  obtain ⟨_, F', rv', sv', hJ, hS, hA, hk, hF, hSf⟩ := hs
  rw [hL] at hJ
  obtain ⟨a', l', hw, hb, hbd, hf⟩ := hJ
  have hin : ∀ k, WFp q a' l' k ∨ k = bv → F' k := fun k hk => (hf k).2 (by
    rcases hk with (h | h | h) | h
    · exact .inl h
    · exact .inr (.inl h)
    · exact .inr (.inr (.inl h))
    · exact .inr (.inr (.inr h)))
  refine ⟨rv', sv', a', l', ⟨hS, hw, hb, fun k h1 h2 => hA k ⟨hin k h1, h2⟩, h.hK.then hk ?_, fun k hk => ?_, fun k hk => ?_⟩, hbd⟩
  · rintro b (h1 | h1)
    · exact .inr (h.f1 b h1)
    · exact .inr (h.fS b h1)
  · rcases hF k (hin k hk) with h1 | h1
    · exact h.f1 k h1
    · exact Nat.le_trans h.hK.size h1
  · rcases hSf k hk with h1 | h1
    · exact h.fS k h1
    · exact Nat.le_trans h.hK.size h1
end

def onceL (p q bv : Nat) (leads : List (Int × Int)) (T : List Int) (hT : ∀ e ∈ leads, e.2 ∈ T) (hl : leads.length ≤ 1000) : Liv Try.prog p (List Int) :=
  wordsL p q bv leads T hT liveR (fun x => x) (fun x => x) 26 31 30 #[.pointer (some ⟨q, 0, none⟩)] #[] #[] #[.pointer (some ⟨bv, 0, none⟩)] #[] #[]
    (fun args w => by kernel_rfl) (fun args w => by kernel_rfl) (fun args w => by kernel_rfl)
    (fun w t av lv x h hb hl => is_c q av lv t leads x w h (by omega)) (fun w x => Once1_c x w) (fun w t av lv x h hb hlt hx => Once2_c q bv leads T hT hl w t av lv x h hb hlt hx) (fun x hx => .inl ⟨hx, rfl⟩)

theorem onceA (args : Array Value) (w : World) : (callFunc 32 args).run Try.prog w = .ok (.enter 32 args) w := by kernel_rfl

end Go.Proofs.Ytjifdalflepcoaa
