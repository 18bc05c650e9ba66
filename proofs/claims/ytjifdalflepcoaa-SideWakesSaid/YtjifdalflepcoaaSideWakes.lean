/-
  SideWakes (law04.go): every Wake is as the document says.
-/
import Derived.Test.YtjifdalflepcoaaSideWakesM
namespace Go.Proofs.Ytjifdalflepcoaa
open Go.RowKit
set_option linter.unusedVariables false
set_option linter.unusedSimpArgs false

theorem Wakes1_c (q bv : Nat) (av lv : Value) (t : List Int) (leads : List (Int × Int)) (x : Int) (w : World) (h : WordsAt w q av lv t leads) (hb : Blk w bv [.pointer (some ⟨q, 0, none⟩)] 42) (hl : t.length ≤ 1000) :
    Calls Try.prog 42 (#[].push (.int .i64 x) ++ #[.pointer (some ⟨bv, 0, none⟩)]) w fun e w' => e = .returned (.bool (liveT t x)) ∧ w = w' := by
  have c0 := hb.cell 0
  have bl := hb.lt
  simp only [List.getElem?_cons_zero] at c0
  have H := Lib.hid h; clear h hb
  have HL : Hid (liveT t x = (decide (1000 ≤ x) || t.contains x)) := rfl
  by_cases hx : 1000 ≤ x
  · have HX := Lib.hid (show liveT t x = true by rw [HL.out]; simp [hx])
    go_enter Try.func42, Try.ntmps42
    go_wp2_with fail
    go_ret
    exact ⟨by rw [HX.out]; rfl, rfl⟩
  · have HX := Lib.hid (show liveT t x = t.contains x by rw [HL.out]; simp [hx])
    go_enter Try.func42, Try.ntmps42
    go_wp2_with fail
    refine (is_c q av lv t leads x _ H.out (by omega)).mono ?_
    rintro e w1 ⟨rfl, rfl⟩
    rw [← HX.out]
    go_wp2_with fail
    go_ret
    exact ⟨rfl, rfl⟩

theorem Wakes2_c (x : Int) (w : World) : Calls Try.prog 43 (#[].push (.int .i64 x) ++ #[]) w fun e w' => e = .returned (.int .i64 x) ∧ w = w' := by
  go_enter Try.func43, Try.ntmps43
  go_wp2
  go_ret
  exact ⟨rfl, rfl⟩

theorem wrapUp_ge {x : Int} (h : smallW x) : 1000 ≤ wrap64 (x + 1000) := by
  rw [wrapUp h]; unfold smallW at h; omega

def wakesL (p q bv : Nat) (leads : List (Int × Int)) (T : List Int) (hT : ∀ e ∈ leads, e.2 ∈ T) (hl : leads.length ≤ 1000) : Liv Try.prog p (List Int) :=
  wordsL p q bv leads T hT liveT (fun x => wrap64 (x + 1000)) (fun x => x) 42 29 43 #[] #[.pointer (some ⟨bv, 0, none⟩)] #[.pointer (some ⟨q, 0, none⟩)] #[] #[] #[]
    (fun args w => by kernel_rfl) (fun args w => by kernel_rfl) (fun args w => by kernel_rfl)
    (fun w t av lv x h hb hl => Wakes1_c q bv av lv t leads x w h hb hl) (fun w x => Wakes2_c x w) (fun w t av lv x h hb hlt hx => keep_any q av lv t leads T x w h hx hT hl hlt) (fun x hx => .inr (wrapUp_ge hx))

theorem wakesA (args : Array Value) (w : World) : (callFunc 42 args).run Try.prog w = .ok (.enter 42 args) w := by kernel_rfl

/-- Ahead of each round of SideWakes. -/
def WkRel (w : World) (p q : Nat) (sv : Value) (T : List Int) (n : Nat) (leads : List (Int × Int)) (k : Nat) (wr : World) : Prop :=
  ∃ t l a1 l1 a2 l2, WkMem w wr p q (q + 1) (q + 1 + 1) sv a1 l1 a2 l2 t t l leads ∧ l.length = n ∧ (∀ e ∈ l, WOk T e) ∧ cntS l + k ≤ n ∧ t.length + unT T t ≤ 1000

/-- In the midst of a round. -/
def WkRnd (w : World) (p q : Nat) (sv a1 l1 : Value) (T t : List Int) (l leads : List (Int × Int)) (j : Nat) (woke : Bool) (wv : Value) (wr : World) : Prop :=
  ∃ ti pre a2 l2, WkMem w wr p q (q + 1) (q + 1 + 1) sv a1 l1 a2 l2 t ti l leads ∧ WkIn leads t l ti pre woke j ∧ WantAt w wr p q (q + 1) (q + 1 + 1) sv a1 l1 a2 l2 wv pre ∧ ti.length + unT T ti ≤ 1000

set_option maxHeartbeats 4000000 in
set_option maxRecDepth 100000 in
theorem SideWakes_raw (ao : Option Addr) (ca : Nat) (wait : List (Int × Int)) (bo : Option Addr) (cb : Nat) (alive : List Int) (co : Option Addr) (cc : Nat) (leads : List (Int × Int)) (w : World)
    (h1 : Rd w ao (entV wait)) (l1 : wait.length ≤ maxLen) (h2 : Rd w bo (alive.map (Value.int .i64))) (l2 : alive.length ≤ maxLen) (h3 : Rd w co (pairV leads)) (l3 : leads.length ≤ maxLen) :
    Calls Try.prog 9 #[.slice ao wait.length ca, .slice bo alive.length cb, .slice co leads.length cc] w fun e w' => e = .returned (.bool true) ∧ Keeps (fun _ => False) w w' := by
  have H1 := Lib.hid h1; have H2 := Lib.hid h2; have H3 := Lib.hid h3; have L1 := Lib.hid l1; have L2 := Lib.hid l2; have L3 := Lib.hid l3
  clear h1 h2 h3 l1 l2 l3
  go_enter Try.func9, Try.ntmps9
  go_wp2_with fail
  refine (sideBegun_c _).mono ?_
  rintro e w1 ⟨rfl, hk1⟩
  have HK1 := Lib.hid hk1; clear hk1
  go_wp2_with fail
  refine (great_c none ao bo co 0 _ _ _ 0 ca cb cc _ (by unfold maxLen; omega) L1.out L2.out L3.out).mono ?_
  rintro e w2 ⟨rfl, rfl⟩
  cases hg : greatB 0 wait.length alive.length leads.length
  · obtain ⟨_, n1, n2, n3⟩ := greatB_no hg
    clear hg
    go_wp2_with fail
    refine (small_c none ao bo co 0 ca cb cc _ _ [] wait _ (Rd.nil _ _) (H1.out.keep HK1.out (fun _ _ _ h => h)) (by simp) (by omega)).mono ?_
    rintro e w2 ⟨rfl, rfl⟩
    cases hs : wait.all smallB
    · simp only [List.all_nil, Bool.true_and]
      go_wp2_with fail
      go_ret
      exact ⟨rfl, HK1.out⟩
    · have HS := Lib.hid hs; clear hs
      simp only [List.all_nil, Bool.true_and]
      obtain ⟨ie, hie, hez0, hez1, hez2⟩ := info_parts info_entry
      have Hi := Lib.hid hie; have Hz0 := Lib.hid hez0; have Hz1 := Lib.hid hez1; have Hz2 := Lib.hid hez2; clear hie hez0 hez1 hez2
      go_wp2_with (at_builtin; refine wpList_appR rfl (.tmp 36) (.tmp 37) 31 rfl 40 ie (.agg #[.int .i64 0, .int .i64 0]) 2 16 Try.underlying31 Hi.out Hz0.out Hz1.out Hz2.out rfl (by decide) _ 0 [] rfl (Sl.nil _ _ _) ao wait.length ca (entV wait) rfl ?hb ?hc ?hd ?he ?hf ?hg)
      case hb => exact entV_length wait
      case hc => exact (H1.out.keep HK1.out (fun _ _ _ h => h)).keep ((Keeps.refl (fun _ => False) w1).alloc _) (fun _ _ _ h => h)
      case hd => exact entV_one wait
      case he => unfold maxLen; omega
      case hf => omega
      case hg =>
        intro v1 w3 hs3 hk3 ho3
        have hka := (Keeps.refl (fun _ => False) w1).alloc (.cells #[.slice none 0 0, .slice none 0 0] 37)
        have hp3 := hk3.blk (Blk.newAt (w := w1) (b := w1.heap.size) (T := 37) #[.slice none 0 0, .slice none 0 0] rfl rfl) (fun h => by simp [ownB, Value.ownBlock] at h)
        have hk31 : Keeps (fun _ => False) w w3 := (HK1.out.trans hka).trans (hk3.mono fun k _ h => by simp [ownB, Value.ownBlock] at h)
        obtain ⟨vo, vc, rfl, -, -, -⟩ := hs3.rd
        have HS4 := Lib.hid (SideAt.setWait (regs := []) hp3 (Sl.nil w3 40 2) hs3 (by rintro k ⟨h, _⟩; simp [ownB, Value.ownBlock] at h))
        have HK4 := Lib.hid (hk31.setCell (p := ⟨w1.heap.size, 1, none⟩) (.inr HK1.out.size) (.slice vo wait.length vc))
        have p0 := hp3.cell 1
        have pf := hp3.free 1
        have pl := hp3.lt
        simp only [List.getElem?_cons_zero, List.getElem?_cons_succ] at p0
        have hS3 : ∀ k, SideFp w1.heap.size nilS (.slice vo wait.length vc) k → w.heap.size ≤ k ∧ k < w3.heap.size := by
          intro k hk
          refine ⟨?_, ?_⟩
          · rcases hk with rfl | hk | hk
            · exact HK1.out.size
            · exact (own_nil hk).elim
            · rcases ho3 k hk with h | h
              · exact (own_nil h).elim
              · have := HK1.out.size; omega
          · have := HS4.out.fp_lt hk; simpa using this
        have HFS := Lib.hid hS3
        clear hka hp3 hk31 hs3 hk3 ho3 hS3
        go_wp2_with fail
        have hw3 : w.heap.size ≤ w3.heap.size := by simpa using HK4.out.size
        generalize hq : w3.heap.size = q at *
        have HQ := Lib.hid hq; clear hq
        generalize hw5 : (((w3.setCell ⟨w1.heap.size, 1, none⟩ (.slice vo wait.length vc)).alloc (.cells #[nilS, nilS] 44)).alloc (.cells #[nilS, nilS] 44)).alloc (.cells #[.pointer (some ⟨q, 0, none⟩)] 42) = w5
        have ka : ∀ (o1 o2 o3 : Obj), Keeps (fun _ => False) (w3.setCell ⟨w1.heap.size, 1, none⟩ (.slice vo wait.length vc)) ((((w3.setCell ⟨w1.heap.size, 1, none⟩ (.slice vo wait.length vc)).alloc o1).alloc o2).alloc o3) := fun o1 o2 o3 => (((Keeps.refl _ _).alloc o1).alloc o2).alloc o3
        have k5 := ka (.cells #[nilS, nilS] 44) (.cells #[nilS, nilS] 44) (.cells #[.pointer (some ⟨q, 0, none⟩)] 42)
        have b1 : Blk w5 q [nilS, nilS] 44 := by rw [← hw5]; exact ((Blk.newAt _ (by simp [HQ.out]) rfl).alloc _).alloc _
        have b2 : Blk w5 (q + 1) [nilS, nilS] 44 := by rw [← hw5]; exact (Blk.newAt _ (by simp [HQ.out]) rfl).alloc _
        have b3 : Blk w5 (q + 1 + 1) [.pointer (some ⟨q, 0, none⟩)] 42 := by rw [← hw5]; exact Blk.newAt _ (by simp [HQ.out]) rfl
        have z5 : w5.heap.size = q + 3 := by rw [← hw5]; simp [HQ.out]
        rw [hw5] at k5
        have HS5 := Lib.hid (HS4.out.keep k5 (fun _ _ h => h))
        have HK5 := Lib.hid (HK4.out.trans k5)
        have B1 := Lib.hid b1; have B2 := Lib.hid b2; have B3 := Lib.hid b3; have Z5 := Lib.hid z5
        clear hw5 ka k5 b1 b2 b3 z5 p0 pf pl
        obtain ⟨ii, hi, hz0, hz1, hz2⟩ := info_parts info_int64'
        have Ii := Lib.hid hi; have Iz0 := Lib.hid hz0; have Iz1 := Lib.hid hz1; have Iz2 := Lib.hid hz2; clear hi hz0 hz1 hz2
        obtain ⟨ip, hi, hz0, hz1, hz2⟩ := info_parts info_pair
        have Pi := Lib.hid hi; have Pz0 := Lib.hid hz0; have Pz1 := Lib.hid hz1; have Pz2 := Lib.hid hz2; clear hi hz0 hz1 hz2
        have g0 := B3.out.cell 0; have g1 := B1.out.cell 0; have g2 := B2.out.cell 0
        simp only [List.getElem?_cons_zero, List.getElem?_cons_succ] at g0 g1 g2
        refine wp_region_ro (.free 1 (.free 6 (.free 8 (.free 9 (.free 10 (.free 12 (.pure 0 (.pure 2 (.free 3 (.free 4 (.pure 5 (.pure 11 (.run 7 (.run 13 (.free 14 (.free 15 (.run 16 (.swi [19] (.free 17 (.free 18 (.run 19 (.swi [] (.fin))))))))))))))))))))))) [16, 17, 18, 19] (fun w' => w'.cell? ⟨q + 1 + 1, 0, none⟩ = some (.pointer (some ⟨q, 0, none⟩)) ∧ w'.cell? ⟨q, 0, none⟩ = some nilS ∧ w'.cell? ⟨q + 1, 0, none⟩ = some nilS) (by kernel_rfl) (by kernel_rfl) ⟨g0, g1, g2⟩ ?_
        first | (refine wpRO_free rfl rfl _ (fun w' => by go_simp; exact Gives.mk _ _) (fun K hK => ?_); go_simp; refine hK _ ?_; clear hK K) | (refine wpRO_skipF rfl rfl (fun K hK => ?_); go_simp; refine hK _ ?_; clear hK K)
        first | (refine wpRO_free rfl rfl _ (fun w' => by go_simp; exact Gives.mk _ _) (fun K hK => ?_); go_simp; refine hK _ ?_; clear hK K) | (refine wpRO_skipF rfl rfl (fun K hK => ?_); go_simp; refine hK _ ?_; clear hK K)
        first | (refine wpRO_free rfl rfl _ (fun w' => by go_simp; exact Gives.mk _ _) (fun K hK => ?_); go_simp; refine hK _ ?_; clear hK K) | (refine wpRO_skipF rfl rfl (fun K hK => ?_); go_simp; refine hK _ ?_; clear hK K)
        first | (refine wpRO_free rfl rfl _ (fun w' => by go_simp; exact Gives.mk _ _) (fun K hK => ?_); go_simp; refine hK _ ?_; clear hK K) | (refine wpRO_skipF rfl rfl (fun K hK => ?_); go_simp; refine hK _ ?_; clear hK K)
        first | (refine wpRO_free rfl rfl _ (fun w' => by go_simp; exact Gives.mk _ _) (fun K hK => ?_); go_simp; refine hK _ ?_; clear hK K) | (refine wpRO_skipF rfl rfl (fun K hK => ?_); go_simp; refine hK _ ?_; clear hK K)
        first | (refine wpRO_free rfl rfl _ (fun w' => by go_simp; exact Gives.mk _ _) (fun K hK => ?_); go_simp; refine hK _ ?_; clear hK K) | (refine wpRO_skipF rfl rfl (fun K hK => ?_); go_simp; refine hK _ ?_; clear hK K)
        first | (refine wpRO_pure rfl rfl _ (fun w' hG => by obtain ⟨g0, g1, g2⟩ := hG; exact gives_agg2 rfl (by kernel_rfl) rfl (by assumption) (by assumption)) (fun K hK => ?_); go_simp; refine hK _ ?_; clear hK K) | (refine wpRO_pure rfl rfl _ (fun w' hG => by obtain ⟨g0, g1, g2⟩ := hG; go_simp; exact Gives.mk _ _) (fun K hK => ?_); go_simp; refine hK _ ?_; clear hK K) | (refine wpRO_skip rfl rfl (fun K hK => ?_); go_simp; refine hK _ ?_; clear hK K)
        first | (refine wpRO_pure rfl rfl _ (fun w' hG => by obtain ⟨g0, g1, g2⟩ := hG; exact gives_agg2 rfl (by kernel_rfl) rfl (by assumption) (by assumption)) (fun K hK => ?_); go_simp; refine hK _ ?_; clear hK K) | (refine wpRO_pure rfl rfl _ (fun w' hG => by obtain ⟨g0, g1, g2⟩ := hG; go_simp; exact Gives.mk _ _) (fun K hK => ?_); go_simp; refine hK _ ?_; clear hK K) | (refine wpRO_skip rfl rfl (fun K hK => ?_); go_simp; refine hK _ ?_; clear hK K)
        first | (refine wpRO_free rfl rfl _ (fun w' => by go_simp; exact Gives.mk _ _) (fun K hK => ?_); go_simp; refine hK _ ?_; clear hK K) | (refine wpRO_skipF rfl rfl (fun K hK => ?_); go_simp; refine hK _ ?_; clear hK K)
        first | (refine wpRO_free rfl rfl _ (fun w' => by go_simp; exact Gives.mk _ _) (fun K hK => ?_); go_simp; refine hK _ ?_; clear hK K) | (refine wpRO_skipF rfl rfl (fun K hK => ?_); go_simp; refine hK _ ?_; clear hK K)
        first | (refine wpRO_pure rfl rfl _ (fun w' hG => by obtain ⟨g0, g1, g2⟩ := hG; exact gives_agg2 rfl (by kernel_rfl) rfl (by assumption) (by assumption)) (fun K hK => ?_); go_simp; refine hK _ ?_; clear hK K) | (refine wpRO_pure rfl rfl _ (fun w' hG => by obtain ⟨g0, g1, g2⟩ := hG; go_simp; exact Gives.mk _ _) (fun K hK => ?_); go_simp; refine hK _ ?_; clear hK K) | (refine wpRO_skip rfl rfl (fun K hK => ?_); go_simp; refine hK _ ?_; clear hK K)
        first | (refine wpRO_pure rfl rfl _ (fun w' hG => by obtain ⟨g0, g1, g2⟩ := hG; exact gives_agg2 rfl (by kernel_rfl) rfl (by assumption) (by assumption)) (fun K hK => ?_); go_simp; refine hK _ ?_; clear hK K) | (refine wpRO_pure rfl rfl _ (fun w' hG => by obtain ⟨g0, g1, g2⟩ := hG; go_simp; exact Gives.mk _ _) (fun K hK => ?_); go_simp; refine hK _ ?_; clear hK K) | (refine wpRO_skip rfl rfl (fun K hK => ?_); go_simp; refine hK _ ?_; clear hK K)
        refine wpRO_run rfl rfl (fun K hK => ?_)
        refine gRun_appR (.tmp 50) (.tmp 51) 32 rfl 2 ii (.int .i64 0) 1 8 Try.underlying32 Ii.out Iz0.out Iz1.out Iz2.out rfl (by decide) _ 0 [] rfl (Sl.nil _ _ _) bo alive.length cb (alive.map (Value.int .i64)) rfl (by simp) (H2.out.keep (HK5.out.drew) (fun _ _ _ h => h)) (ints_one alive) (by unfold maxLen; omega) (by omega) ?_
        intro v6 w6 hs6 hk6 ho6
        rw [Nat.zero_add] at hs6
        refine hK _ _ (fun _ => ?_) ?_
        · have k6 := hk6.mono (T := fun _ => False) fun k _ h => own_nil h
          exact ⟨(k6.blk B3.out (fun h => h)).cell 0, (k6.blk B1.out (fun h => h)).cell 0, (k6.blk B2.out (fun h => h)).cell 0⟩
        clear hK K
        have k6 := hk6.mono (T := fun _ => False) fun k _ h => own_nil h
        have HK6 := Lib.hid k6
        have HS6 := Lib.hid hs6
        have HO6 : Hid (∀ k, ownB v6 k → q + 3 ≤ k) := fun k hk => by
          rcases ho6 k hk with h | h
          · exact (own_nil h).elim
          · rw [← Z5.out]; exact h
        clear k6 hs6 hk6 ho6
        skip
        refine wpRO_run rfl rfl (fun K hK => ?_)
        refine gRun_appR (.tmp 56) (.tmp 57) 32 rfl 2 ii (.int .i64 0) 1 8 Try.underlying32 Ii.out Iz0.out Iz1.out Iz2.out rfl (by decide) _ 0 [] rfl (Sl.nil _ _ _) bo alive.length cb (alive.map (Value.int .i64)) rfl (by simp) (H2.out.keep (HK5.out.drew.trans HK6.out) (fun _ _ _ h => h)) (ints_one alive) (by unfold maxLen; omega) (by omega) ?_
        intro v7 w7 hs7 hk7 ho7
        rw [Nat.zero_add] at hs7
        have k7 := hk7.mono (T := fun _ => False) fun k _ h => own_nil h
        refine hK _ _ (fun _ => ?_) ?_
        · have k := HK6.out.trans k7
          exact ⟨(k.blk B3.out (fun h => h)).cell 0, (k.blk B1.out (fun h => h)).cell 0, (k.blk B2.out (fun h => h)).cell 0⟩
        clear hK K
        have HK7 := Lib.hid (HK6.out.trans k7)
        have HS7 := Lib.hid hs7
        have HS67 := Lib.hid (HS6.out.keep k7 (fun _ _ h => h))
        have HO7 : Hid (∀ k, ownB v7 k → q + 3 ≤ k ∧ ¬ ownB v6 k) := fun k hk => by
          rcases ho7 k hk with h | h
          · exact (own_nil h).elim
          · refine ⟨?_, fun h6 => ?_⟩
            · have := HK6.out.size; rw [← Z5.out]; exact Nat.le_trans this h
            · have := (HS6.out.own h6).1; omega
        have x1 := (HK7.out.blk B1.out (fun h => h)).cell 0
        have x2 := (HK7.out.blk B1.out (fun h => h)).free 0
        have x3 := (HK7.out.blk B1.out (fun h => h)).lt
        have y1 := (HK7.out.blk B2.out (fun h => h)).cell 0
        have y2 := (HK7.out.blk B2.out (fun h => h)).free 0
        have y3 := (HK7.out.blk B2.out (fun h => h)).lt
        simp only [List.getElem?_cons_zero, List.getElem?_cons_succ] at x1 y1
        clear k7 hs7 hk7 ho7
        obtain ⟨vo6, vc6, rfl, -, -, -⟩ := HS6.out.rd
        obtain ⟨vo7, vc7, rfl, -, -, -⟩ := HS7.out.rd
        first | (refine wpRO_free rfl rfl _ (fun w' => by go_simp; exact Gives.mk _ _) (fun K hK => ?_); go_simp; refine hK _ ?_; clear hK K) | (refine wpRO_skipF rfl rfl (fun K hK => ?_); go_simp; refine hK _ ?_; clear hK K)
        first | (refine wpRO_free rfl rfl _ (fun w' => by go_simp; exact Gives.mk _ _) (fun K hK => ?_); go_simp; refine hK _ ?_; clear hK K) | (refine wpRO_skipF rfl rfl (fun K hK => ?_); go_simp; refine hK _ ?_; clear hK K)
        refine wpRO_chg rfl rfl rfl (fun K hK => ?_); unfold gRun; go_simp
        refine hK _ _ ?_
        clear hK K
        refine wpRO_swi (fun _ => True) trivial ?_
        first | (refine wpRO_free rfl rfl _ (fun w' => by go_simp; exact Gives.mk _ _) (fun K hK => ?_); go_simp; refine hK _ ?_; clear hK K) | (refine wpRO_skipF rfl rfl (fun K hK => ?_); go_simp; refine hK _ ?_; clear hK K)
        first | (refine wpRO_free rfl rfl _ (fun w' => by go_simp; exact Gives.mk _ _) (fun K hK => ?_); go_simp; refine hK _ ?_; clear hK K) | (refine wpRO_skipF rfl rfl (fun K hK => ?_); go_simp; refine hK _ ?_; clear hK K)
        refine wpRO_chg rfl rfl rfl (fun K hK => ?_); unfold gRun; go_simp
        refine hK _ _ ?_
        clear hK K
        refine wpRO_swi (fun _ => True) trivial (wpRO_fin ?_)
        have kst := ((Keeps.refl (fun k => k = q ∨ k = q + 1) w7).setCell (p := ⟨q, 0, none⟩) (.inl (.inl rfl)) (.slice vo6 alive.length vc6)).setCell (p := ⟨q + 1, 0, none⟩) (.inl (.inr rfl)) (.slice vo7 alive.length vc7)
        have c1 := ((HK7.out.blk B1.out (fun h => h)).setSame 0 (.slice vo6 alive.length vc6)).setOther (a := ⟨q + 1, 0, none⟩) (by simp) (.slice vo7 alive.length vc7)
        have c2 := ((HK7.out.blk B2.out (fun h => h)).setOther (a := ⟨q, 0, none⟩) (by simp) (.slice vo6 alive.length vc6)).setSame 0 (.slice vo7 alive.length vc7)
        simp only [List.set_cons_zero] at c1 c2
        generalize hw8 : (w7.setCell ⟨q, 0, none⟩ (.slice vo6 alive.length vc6)).setCell ⟨q + 1, 0, none⟩ (.slice vo7 alive.length vc7) = w8 at *
        clear hw8
        have hnq : ∀ k, q + 3 ≤ k → ¬ (k = q ∨ k = q + 1) := by omega
        have S6 := Lib.hid (HS67.out.keep kst (fun k hk => hnq k (HO6.out k hk)))
        have S7 := Lib.hid (HS7.out.keep kst (fun k hk => hnq k (HO7.out k hk).1))
        have C1 := Lib.hid c1; have C2 := Lib.hid c2
        have C3 := Lib.hid (kst.blk (HK7.out.blk B3.out (fun h => h)) (by omega))
        have hsd : ∀ k, SideFp w1.heap.size nilS (.slice vo wait.length vc) k → ¬ (k = q ∨ k = q + 1) := fun k hk => by have := (HFS.out k hk).2; omega
        have k58 : Keeps (fun k => k = q ∨ k = q + 1) w5 w8 := ((Keeps.refl _ w5).drew.trans (HK7.out.mono fun _ _ h => h.elim)).trans kst
        have HS8 := Lib.hid (HS5.out.keep k58 hsd)
        have HK8 := Lib.hid (HK5.out.then k58 (fun k hk => .inr (by omega)))
        have Z8 := Lib.hid (show q + 3 ≤ w8.heap.size by have := k58.size; rw [Z5.out] at this; exact this)
        have HSD := Lib.hid hsd; have HNQ := Lib.hid hnq
        clear kst c1 c2 k58 x1 x2 x3 y1 y2 y3 g0 g1 g2 hsd hnq HS5 HK5 B1 B2 B3 HK6 HS6 HK7 HS7 HS67
        have g0 := C3.out.cell 0; have g1 := C1.out.cell 1; have g2 := C2.out.cell 1
        simp only [List.getElem?_cons_zero, List.getElem?_cons_succ] at g0 g1 g2
        go_wp2_with fail
        refine wp_region_ro (.free 1 (.free 6 (.free 8 (.free 9 (.free 10 (.free 12 (.pure 0 (.pure 2 (.free 3 (.free 4 (.pure 5 (.pure 11 (.run 7 (.run 13 (.free 14 (.free 15 (.run 16 (.swi [19] (.free 17 (.free 18 (.run 19 (.swi [] (.fin))))))))))))))))))))))) [16, 17, 18, 19] (fun w' => w'.cell? ⟨q + 1 + 1, 0, none⟩ = some (.pointer (some ⟨q, 0, none⟩)) ∧ w'.cell? ⟨q, 1, none⟩ = some nilS ∧ w'.cell? ⟨q + 1, 1, none⟩ = some nilS) (by kernel_rfl) (by kernel_rfl) ⟨g0, g1, g2⟩ ?_
        first | (refine wpRO_free rfl rfl _ (fun w' => by go_simp; exact Gives.mk _ _) (fun K hK => ?_); go_simp; refine hK _ ?_; clear hK K) | (refine wpRO_skipF rfl rfl (fun K hK => ?_); go_simp; refine hK _ ?_; clear hK K)
        first | (refine wpRO_free rfl rfl _ (fun w' => by go_simp; exact Gives.mk _ _) (fun K hK => ?_); go_simp; refine hK _ ?_; clear hK K) | (refine wpRO_skipF rfl rfl (fun K hK => ?_); go_simp; refine hK _ ?_; clear hK K)
        first | (refine wpRO_free rfl rfl _ (fun w' => by go_simp; exact Gives.mk _ _) (fun K hK => ?_); go_simp; refine hK _ ?_; clear hK K) | (refine wpRO_skipF rfl rfl (fun K hK => ?_); go_simp; refine hK _ ?_; clear hK K)
        first | (refine wpRO_free rfl rfl _ (fun w' => by go_simp; exact Gives.mk _ _) (fun K hK => ?_); go_simp; refine hK _ ?_; clear hK K) | (refine wpRO_skipF rfl rfl (fun K hK => ?_); go_simp; refine hK _ ?_; clear hK K)
        first | (refine wpRO_free rfl rfl _ (fun w' => by go_simp; exact Gives.mk _ _) (fun K hK => ?_); go_simp; refine hK _ ?_; clear hK K) | (refine wpRO_skipF rfl rfl (fun K hK => ?_); go_simp; refine hK _ ?_; clear hK K)
        first | (refine wpRO_free rfl rfl _ (fun w' => by go_simp; exact Gives.mk _ _) (fun K hK => ?_); go_simp; refine hK _ ?_; clear hK K) | (refine wpRO_skipF rfl rfl (fun K hK => ?_); go_simp; refine hK _ ?_; clear hK K)
        first | (refine wpRO_pure rfl rfl _ (fun w' hG => by obtain ⟨g0, g1, g2⟩ := hG; exact gives_agg2 rfl (by kernel_rfl) rfl (by assumption) (by assumption)) (fun K hK => ?_); go_simp; refine hK _ ?_; clear hK K) | (refine wpRO_pure rfl rfl _ (fun w' hG => by obtain ⟨g0, g1, g2⟩ := hG; go_simp; exact Gives.mk _ _) (fun K hK => ?_); go_simp; refine hK _ ?_; clear hK K) | (refine wpRO_skip rfl rfl (fun K hK => ?_); go_simp; refine hK _ ?_; clear hK K)
        first | (refine wpRO_pure rfl rfl _ (fun w' hG => by obtain ⟨g0, g1, g2⟩ := hG; exact gives_agg2 rfl (by kernel_rfl) rfl (by assumption) (by assumption)) (fun K hK => ?_); go_simp; refine hK _ ?_; clear hK K) | (refine wpRO_pure rfl rfl _ (fun w' hG => by obtain ⟨g0, g1, g2⟩ := hG; go_simp; exact Gives.mk _ _) (fun K hK => ?_); go_simp; refine hK _ ?_; clear hK K) | (refine wpRO_skip rfl rfl (fun K hK => ?_); go_simp; refine hK _ ?_; clear hK K)
        first | (refine wpRO_free rfl rfl _ (fun w' => by go_simp; exact Gives.mk _ _) (fun K hK => ?_); go_simp; refine hK _ ?_; clear hK K) | (refine wpRO_skipF rfl rfl (fun K hK => ?_); go_simp; refine hK _ ?_; clear hK K)
        first | (refine wpRO_free rfl rfl _ (fun w' => by go_simp; exact Gives.mk _ _) (fun K hK => ?_); go_simp; refine hK _ ?_; clear hK K) | (refine wpRO_skipF rfl rfl (fun K hK => ?_); go_simp; refine hK _ ?_; clear hK K)
        first | (refine wpRO_pure rfl rfl _ (fun w' hG => by obtain ⟨g0, g1, g2⟩ := hG; exact gives_agg2 rfl (by kernel_rfl) rfl (by assumption) (by assumption)) (fun K hK => ?_); go_simp; refine hK _ ?_; clear hK K) | (refine wpRO_pure rfl rfl _ (fun w' hG => by obtain ⟨g0, g1, g2⟩ := hG; go_simp; exact Gives.mk _ _) (fun K hK => ?_); go_simp; refine hK _ ?_; clear hK K) | (refine wpRO_skip rfl rfl (fun K hK => ?_); go_simp; refine hK _ ?_; clear hK K)
        first | (refine wpRO_pure rfl rfl _ (fun w' hG => by obtain ⟨g0, g1, g2⟩ := hG; exact gives_agg2 rfl (by kernel_rfl) rfl (by assumption) (by assumption)) (fun K hK => ?_); go_simp; refine hK _ ?_; clear hK K) | (refine wpRO_pure rfl rfl _ (fun w' hG => by obtain ⟨g0, g1, g2⟩ := hG; go_simp; exact Gives.mk _ _) (fun K hK => ?_); go_simp; refine hK _ ?_; clear hK K) | (refine wpRO_skip rfl rfl (fun K hK => ?_); go_simp; refine hK _ ?_; clear hK K)
        refine wpRO_run rfl rfl (fun K hK => ?_)
        refine gRun_appR (.tmp 68) (.tmp 69) 33 rfl 103 ip (.agg #[.int .i64 0, .int .i64 0]) 2 16 Try.underlying33 Pi.out Pz0.out Pz1.out Pz2.out rfl (by decide) _ 0 [] rfl (Sl.nil _ _ _) co leads.length cc (entV leads) rfl (entV_length leads) (H3.out.keep (HK8.out.drew) (fun _ _ _ h => h)) (entV_one leads) (by unfold maxLen; omega) (by omega) ?_
        intro v9 w9 hs9 hk9 ho9
        rw [Nat.zero_add] at hs9
        have k9 := hk9.mono (T := fun _ => False) fun k _ h => own_nil h
        refine hK _ _ (fun _ => ?_) ?_
        · exact ⟨(k9.blk C3.out (fun h => h)).cell 0, (k9.blk C1.out (fun h => h)).cell 1, (k9.blk C2.out (fun h => h)).cell 1⟩
        clear hK K
        have HK9 := Lib.hid k9
        have HS9 := Lib.hid hs9
        have HO9 : Hid (∀ k, ownB v9 k → w8.heap.size ≤ k) := fun k hk => by
          rcases ho9 k hk with h | h
          · exact (own_nil h).elim
          · exact h
        clear k9 hs9 hk9 ho9
        skip
        refine wpRO_run rfl rfl (fun K hK => ?_)
        refine gRun_appR (.tmp 74) (.tmp 75) 33 rfl 103 ip (.agg #[.int .i64 0, .int .i64 0]) 2 16 Try.underlying33 Pi.out Pz0.out Pz1.out Pz2.out rfl (by decide) _ 0 [] rfl (Sl.nil _ _ _) co leads.length cc (entV leads) rfl (entV_length leads) (H3.out.keep (HK8.out.drew.trans HK9.out) (fun _ _ _ h => h)) (entV_one leads) (by unfold maxLen; omega) (by omega) ?_
        intro v10 w10 hs10 hk10 ho10
        rw [Nat.zero_add] at hs10
        have k10 := hk10.mono (T := fun _ => False) fun k _ h => own_nil h
        refine hK _ _ (fun _ => ?_) ?_
        · have k := HK9.out.trans k10
          exact ⟨(k.blk C3.out (fun h => h)).cell 0, (k.blk C1.out (fun h => h)).cell 1, (k.blk C2.out (fun h => h)).cell 1⟩
        clear hK K
        have HK10 := Lib.hid (HK9.out.trans k10)
        have HS10 := Lib.hid hs10
        have HS910 := Lib.hid (HS9.out.keep k10 (fun _ _ h => h))
        have HO10 : Hid (∀ k, ownB v10 k → w8.heap.size ≤ k ∧ ¬ ownB v9 k) := fun k hk => by
          rcases ho10 k hk with h | h
          · exact (own_nil h).elim
          · refine ⟨?_, fun h6 => ?_⟩
            · have := HK9.out.size; exact Nat.le_trans this h
            · have := (HS9.out.own h6).1; omega
        have x1 := (HK10.out.blk C1.out (fun h => h)).cell 1
        have x2 := (HK10.out.blk C1.out (fun h => h)).free 1
        have x3 := (HK10.out.blk C1.out (fun h => h)).lt
        have y1 := (HK10.out.blk C2.out (fun h => h)).cell 1
        have y2 := (HK10.out.blk C2.out (fun h => h)).free 1
        have y3 := (HK10.out.blk C2.out (fun h => h)).lt
        simp only [List.getElem?_cons_zero, List.getElem?_cons_succ] at x1 y1
        clear k10 hs10 hk10 ho10
        obtain ⟨vo9, vc9, rfl, -, -, -⟩ := HS9.out.rd
        obtain ⟨vo10, vc10, rfl, -, -, -⟩ := HS10.out.rd
        first | (refine wpRO_free rfl rfl _ (fun w' => by go_simp; exact Gives.mk _ _) (fun K hK => ?_); go_simp; refine hK _ ?_; clear hK K) | (refine wpRO_skipF rfl rfl (fun K hK => ?_); go_simp; refine hK _ ?_; clear hK K)
        first | (refine wpRO_free rfl rfl _ (fun w' => by go_simp; exact Gives.mk _ _) (fun K hK => ?_); go_simp; refine hK _ ?_; clear hK K) | (refine wpRO_skipF rfl rfl (fun K hK => ?_); go_simp; refine hK _ ?_; clear hK K)
        refine wpRO_chg rfl rfl rfl (fun K hK => ?_); unfold gRun; go_simp
        refine hK _ _ ?_
        clear hK K
        refine wpRO_swi (fun _ => True) trivial ?_
        first | (refine wpRO_free rfl rfl _ (fun w' => by go_simp; exact Gives.mk _ _) (fun K hK => ?_); go_simp; refine hK _ ?_; clear hK K) | (refine wpRO_skipF rfl rfl (fun K hK => ?_); go_simp; refine hK _ ?_; clear hK K)
        first | (refine wpRO_free rfl rfl _ (fun w' => by go_simp; exact Gives.mk _ _) (fun K hK => ?_); go_simp; refine hK _ ?_; clear hK K) | (refine wpRO_skipF rfl rfl (fun K hK => ?_); go_simp; refine hK _ ?_; clear hK K)
        refine wpRO_chg rfl rfl rfl (fun K hK => ?_); unfold gRun; go_simp
        refine hK _ _ ?_
        clear hK K
        refine wpRO_swi (fun _ => True) trivial (wpRO_fin ?_)
        have kst := ((Keeps.refl (fun k => k = q ∨ k = q + 1) w10).setCell (p := ⟨q, 1, none⟩) (.inl (.inl rfl)) (.slice vo9 leads.length vc9)).setCell (p := ⟨q + 1, 1, none⟩) (.inl (.inr rfl)) (.slice vo10 leads.length vc10)
        have c1 := ((HK10.out.blk C1.out (fun h => h)).setSame 1 (.slice vo9 leads.length vc9)).setOther (a := ⟨q + 1, 1, none⟩) (by simp) (.slice vo10 leads.length vc10)
        have c2 := ((HK10.out.blk C2.out (fun h => h)).setOther (a := ⟨q, 1, none⟩) (by simp) (.slice vo9 leads.length vc9)).setSame 1 (.slice vo10 leads.length vc10)
        simp only [List.set_cons_zero, List.set_cons_succ] at c1 c2
        generalize hw11 : (w10.setCell ⟨q, 1, none⟩ (.slice vo9 leads.length vc9)).setCell ⟨q + 1, 1, none⟩ (.slice vo10 leads.length vc10) = w11 at *
        clear hw11
        have k8 : Keeps (fun k => k = q ∨ k = q + 1) w8 w11 := ((Keeps.refl _ w8).drew.trans (HK10.out.mono fun _ _ h => h.elim)).trans kst
        have z8 := Z8.out
        have o6 : ∀ k, ownB (.slice vo6 alive.length vc6) k → q + 3 ≤ k ∧ k < w8.heap.size := fun k hk => ⟨HO6.out k hk, (S6.out.own hk).1⟩
        have o7 : ∀ k, ownB (.slice vo7 alive.length vc7) k → q + 3 ≤ k ∧ k < w8.heap.size ∧ ¬ ownB (.slice vo6 alive.length vc6) k := fun k hk => ⟨(HO7.out k hk).1, (S7.out.own hk).1, (HO7.out k hk).2⟩
        have o9 := HO9.out; have o10 := HO10.out
        have hM : WkMem w w11 w1.heap.size q (q + 1) (q + 1 + 1) (.slice vo wait.length vc) (.slice vo6 alive.length vc6) (.slice vo9 leads.length vc9) (.slice vo7 alive.length vc7) (.slice vo10 leads.length vc10) alive alive wait leads := by
          have hws := HFS.out
          refine ⟨HS8.out.keep k8 HSD.out, ⟨c1, S6.out.keep k8 (fun k hk => HNQ.out k (o6 k hk).1), HS910.out.keep kst (fun k hk => HNQ.out k (by have := o9 k hk; omega))⟩, ⟨c2, S7.out.keep k8 (fun k hk => HNQ.out k (o7 k hk).1), HS10.out.keep kst (fun k hk => HNQ.out k (by have := (o10 k hk).1; omega))⟩, k8.blk C3.out (by omega), ?_, ?_, ?_, HK8.out.then k8 (fun k hk => .inr (by omega)), ?_, ?_, ?_⟩
          · rintro k ((rfl | h1 | h1) | rfl) (h2 | h2 | h2)
            · omega
            · have := (o7 _ h2).1; omega
            · have := (o10 _ h2).1; omega
            · have := (o6 _ h1).1; omega
            · exact (o7 _ h2).2.2 h1
            · have := (o6 _ h1).2; have := (o10 _ h2).1; omega
            · have := o9 _ h1; omega
            · have := o9 _ h1; have := (o7 _ h2).2.1; omega
            · exact (o10 _ h2).2 h1
            · omega
            · have := (o7 _ h2).1; omega
            · have := (o10 _ h2).1; omega
          · rintro k ((rfl | h1 | h1) | rfl) h2
            · have := (hws _ h2).2; omega
            · have := (hws _ h2).2; have := (o6 _ h1).1; omega
            · have := (hws _ h2).2; have := o9 _ h1; omega
            · have := (hws _ h2).2; omega
          · rintro k (rfl | h1 | h1) h2
            · have := (hws _ h2).2; omega
            · have := (hws _ h2).2; have := (o7 _ h1).1; omega
            · have := (hws _ h2).2; have := (o10 _ h1).1; omega
          · rintro k ((rfl | h1 | h1) | rfl)
            · omega
            · have := (o6 _ h1).1; omega
            · have := o9 _ h1; omega
            · omega
          · rintro k (rfl | h1 | h1)
            · omega
            · have := (o7 _ h1).1; omega
            · have := (o10 _ h1).1; omega
          · exact fun k hk => (hws k hk).1
        obtain ⟨T, hT⟩ : ∃ T, T = wait.map (·.1) ++ (wait.map (·.2) ++ leads.map (·.2)) := ⟨_, rfl⟩
        have hTl : ∀ e ∈ leads, e.2 ∈ T := fun e he => by rw [hT]; simp only [List.mem_append, List.mem_map]; exact .inr (.inr ⟨e, he, rfl⟩)
        have hTw : ∀ e ∈ wait, WOk T e := fun e he => by
          have h := smallB_iff.1 (List.all_eq_true.1 HS.out e he)
          refine ⟨h.1, ?_, .inl ⟨?_, h.2⟩⟩
          · rw [hT]; simp only [List.mem_append, List.mem_map]; exact .inl ⟨e, he, rfl⟩
          · rw [hT]; simp only [List.mem_append, List.mem_map]; exact .inr (.inl ⟨e, he, rfl⟩)
        have hTn : alive.length + unT T alive ≤ 1000 := by
          have h1 : unT T alive ≤ T.length := List.length_filter_le _ _
          have h2 : T.length = wait.length + (wait.length + leads.length) := by rw [hT]; simp
          omega
        have HR : Hid (WkRel w w1.heap.size q (.slice vo wait.length vc) T wait.length leads 0 w11) := ⟨alive, wait, _, _, _, _, hM, rfl, hTw, by have := cntS_le wait; omega, hTn⟩
        have HTL := Lib.hid hTl
        clear hT hTl hTw hTn
        clear hM o6 o7 o9 o10 z8 k8 c1 c2 kst x1 x2 x3 y1 y2 y3 g0 g1 g2 HK10 HS10 HS910 HK9 HS9 HO9 HO10 HS8 HK8 Z8 S6 S7 C1 C2 C3 HSD HNQ HFS HO6 HO7 HS4 HK4 HQ Z5 hw3
        generalize w1.heap.size = p at *
        have ea := wakesA
        go_wp2_with fail
        go_loopw [12] (fun n wr => ∃ k : Nat, k ≤ wait.length ∧ n = .int .i64 k ∧ WkRel w p q (.slice vo wait.length vc) T wait.length leads k wr) (fun n _ => wait.length + 1 - (intOf n).toNat)
        case atStart => exact ⟨0, Nat.zero_le _, rfl, HR.out⟩
        case round =>
          obtain ⟨k, hk, rfl, t, l, a1, lv1, a2, lv2, hm, hln, hok, hcn, hbd⟩ := hrel
          have GM := Lib.hid hm; have GL := Lib.hid hln; have GO := Lib.hid hok; have GC := Lib.hid hcn; have GB := Lib.hid hbd
          clear hm hln hok hcn hbd HR
          go_wp2_with fail
          go_loopw [13, 14, 15] (fun v wv i wr => ∃ (j : Nat) (woke : Bool), j ≤ wait.length ∧ i = .int .i64 j ∧ v = .bool woke ∧ WkRnd w p q (.slice vo wait.length vc) a1 lv1 T t l leads j woke wv wr) (fun _ _ i _ => wait.length - (intOf i).toNat)
          case atStart => exact ⟨0, false, Nat.zero_le _, rfl, rfl, t, [], a2, lv2, GM.out, WkIn.start _ _ _, WantAt.nil _ _ _ _ _ _ _ _ _ _ _, GB.out⟩
          case round =>
            obtain ⟨j, woke, hj, rfl, rfl, ti, pre, a2, lv2, hm, hin, hwant, hbd⟩ := hrel
            have c1 := hm.hS.hp.cell 1
            have pl := hm.hS.hp.lt
            simp only [List.getElem?_cons_zero, List.getElem?_cons_succ] at c1
            have JM := Lib.hid hm; have JI := Lib.hid hin; have JW := Lib.hid hwant; have JB := Lib.hid hbd
            obtain ⟨wo, wc, rfl, -, -, -⟩ := hwant.hs.rd
            by_cases hlt : j < wait.length
            · have hjl : j < l.length := by rw [GL.out]; exact hlt
              obtain ⟨_, _, e', hrd, -, -⟩ := hm.hS.hw.rd
              rw [GL.out] at e'
              cases e'
              obtain ⟨g, o, rfl, hgl, d0, d1⟩ := hrd.ent j hjl
              have hv := GO.out (l.getD j (0, 0)) (by simp [List.getD, hjl])
              have SK := Lib.hid (hin.skip hjl); have SC := Lib.hid (hin.kept hjl)
              have hpl : pre.length = j := hin.1
              generalize l.getD j (0, 0) = v at *
              have HV := Lib.hid hv
              have HPL := Lib.hid hpl
              clear hm hin hwant hbd hrd hv hpl
              go_wp2_with fail
              have ka := (Keeps.refl (fun _ => False) wr).alloc (.cells #[.int .i64 v.1, .int .i64 v.2] 40)
              have hE1 := Blk.newAt (w := wr) (b := wr.heap.size) (T := 40) #[.int .i64 v.1, .int .i64 v.2] rfl rfl
              have hbe := Nat.le_refl wr.heap.size
              generalize hw12 : wr.alloc (.cells #[.int .i64 v.1, .int .i64 v.2] 40) = w12 at *
              clear hw12
              have JM1 := Lib.hid (JM.out.keep ka); have JW1 := Lib.hid (JW.out.keep ka); have HE1 := Lib.hid hE1
              have JL : Hid (∀ k, (SideFp p nilS (.slice (some ⟨g, o, none⟩) wait.length vc) k ∨ (WFp q a1 lv1 k ∨ k = q + 1 + 1) ∨ WFp (q + 1) a2 lv2 k ∨ ownB (.slice wo pre.length wc) k) → k ≠ wr.heap.size) := by
                rintro k (h | h | h | h) rfl
                · have := JM.out.hS.fp_lt h; omega
                · have := JM.out.lt1 h; omega
                · have := JM.out.lt2 h; omega
                · have := (JW.out.hs.own h).1; omega
              have JF : Hid (w.heap.size ≤ wr.heap.size) := JM.out.hK.size
              generalize wr.heap.size = be at *
              clear ka hE1 JM JW hbe
              refine (is_c (q + 1) a2 lv2 ti leads v.1 _ JM1.out.h2 (by have := JB.out; omega)).mono ?_
              rintro e w13 ⟨rfl, rfl⟩
              have hpm : pre.length ≤ 1000 := by have := HPL.out; omega
              have e0 := HE1.out.cell 0; have e1 := HE1.out.cell 1; have el := HE1.out.lt
              simp only [List.getElem?_cons_zero, List.getElem?_cons_succ] at e0 e1
              cases hA : ti.contains v.1
              · have KC := Lib.hid (SK.out (by unfold liveT; rw [hA, decide_eq_false (by have := HV.out.1; unfold smallW at this; omega)]; rfl))
                go_wp2_with (at_builtin; refine wpList_app rfl (.tmp 125) (.tmp 127) 31 rfl 40 ie (.agg #[.int .i64 0, .int .i64 0]) 2 16 Try.underlying31 Hi.out Hz0.out Hz1.out Hz2.out rfl (by decide) _ pre.length (entV pre) rfl (JW1.out.keep ((Keeps.refl (fun _ => False) _).alloc _)).hs ⟨w12.heap.size, 0, none⟩ 1 1 [.int .i64 v.1, .int .i64 v.2] rfl rfl (news_at w12 40 #[.int .i64 v.1, .int .i64 v.2]) ent_one (by unfold maxLen; omega) (by omega) ?_)
                intro v20 w20 hs20 hk20 ho20
                have hm20 := (JM1.out.keep ((Keeps.refl (fun _ => False) _).alloc _)).keepOut hk20 (JW1.out.ap)
                have hw20 := WantAt.app (pre' := pre ++ [(v.1, v.2)]) JW1.out JM1.out (by simpa [entV] using hs20) (fun b hb => (ho20 b hb).imp id (by omega))
                have HR20 : Hid (WkRnd w p q (.slice (some ⟨g, o, none⟩) wait.length vc) a1 lv1 T t l leads (j + 1) woke v20 w20) := ⟨ti, pre ++ [(v.1, v.2)], a2, lv2, hm20, KC.out, hw20, JB.out⟩
                clear hs20 hk20 ho20 hm20 hw20
                go_wp2_with fail
                go_roundw
                case rel => exact ⟨j + 1, woke, by omega, by go_num, rfl, HR20.out⟩
                case measure => simp [intOf]; omega
              · by_cases hb : v.2 < 1000
                · have HGE := Lib.hid hb
                  go_wp2_with fail
                  refine (is_c (q + 1) a2 lv2 ti leads v.2 _ JM1.out.h2 (by have := JB.out; omega)).mono ?_
                  rintro e w13 ⟨rfl, rfl⟩
                  cases hB : ti.contains v.2
                  · have KC := Lib.hid (SC.out (by unfold liveT; rw [hA, hB, decide_eq_false (show ¬ 1000 ≤ v.2 by have := HGE.out; omega)]; simp))
                    have hvT : v.2 ∈ T := by
                      rcases HV.out.2.2 with h | h
                      · exact h.1
                      · have := HGE.out; omega
                    go_wp2_with fail
                    refine (keep_any (q + 1) a2 lv2 ti leads T v.2 _ JM1.out.h2 hvT HTL.out (by omega) JB.out).mono ?_
                    rintro e w14 ⟨rfl, a3, h14, k14, o14⟩
                    have hx : ∀ b, b = be → ¬ (b = q + 1 ∨ ownB a2 b) := by
                      rintro b rfl (h | h)
                      · exact JL.out b (.inr (.inr (.inl (.inl h)))) rfl
                      · exact JL.out b (.inr (.inr (.inl (.inr (.inl h))))) rfl
                    have jm2 := JM1.out.two h14 k14 o14
                    have jw2 := JW1.out.two k14 o14
                    have he2 := k14.blk HE1.out (hx be rfl)
                    have jb2 : (keepW leads 1000 ti v.2).length + unT T (keepW leads 1000 ti v.2) ≤ 1000 := Nat.le_trans (keepW_un HTL.out 1000 ti v.2 hvT).1 JB.out
                    have kst := (Keeps.refl (· = be) w14).setCell (p := ⟨be, 1, none⟩) (.inl rfl) (.int .i64 (wrap64 (v.2 + 1000)))
                    have hbl := HE1.out.lt
                    have hap : ∀ b, b = be → w.heap.size ≤ b ∧ ¬ SideFp p nilS (.slice (some ⟨g, o, none⟩) wait.length vc) b ∧ ¬ (WFp q a1 lv1 b ∨ b = q + 1 + 1) ∧ ¬ WFp (q + 1) a3 lv2 b := by
                      rintro b rfl
                      refine ⟨JF.out, fun h => JL.out b (.inl h) rfl, fun h => JL.out b (.inr (.inl h)) rfl, ?_⟩
                      rintro (h | h | h)
                      · exact JL.out b (.inr (.inr (.inl (.inl h)))) rfl
                      · rcases o14 b h with h | h
                        · exact JL.out b (.inr (.inr (.inl (.inr (.inl h))))) rfl
                        · omega
                      · exact JL.out b (.inr (.inr (.inl (.inr (.inr h))))) rfl
                    have jm3 := jm2.keepOut kst hap
                    have jw3 := WantAt.keepB jw2 kst (fun b hb h => JL.out b (.inr (.inr (.inr hb))) h)
                    have he3 := he2.setSame 1 (.int .i64 (wrap64 (v.2 + 1000)))
                    simp only [List.set_cons_zero, List.set_cons_succ] at he3
                    have e0 := he2.cell 0; have e1 := he2.cell 1; have el := he2.lt; have ef := he2.free 1
                    simp only [List.getElem?_cons_zero, List.getElem?_cons_succ] at e0 e1
                    have JM3 := Lib.hid jm3; have JW3 := Lib.hid jw3; have HE3 := Lib.hid he3; have JB3 := Lib.hid jb2
                    clear h14 k14 o14 hx jm2 jw2 he2 jb2 kst hbl hap jm3 jw3 he3
                    generalize wrap64 (v.2 + 1000) = y at *
                    generalize hw15 : w14.setCell ⟨be, 1, none⟩ (.int .i64 y) = w15 at *
                    have f0 := HE3.out.cell 0; have f1 := HE3.out.cell 1; have fl := HE3.out.lt
                    simp only [List.getElem?_cons_zero, List.getElem?_cons_succ] at f0 f1
                    have HW15 := Lib.hid hw15
                    go_wp2_with (at_builtin; refine wpList_app rfl (.tmp 125) (.tmp 127) 31 rfl 40 ie (.agg #[.int .i64 0, .int .i64 0]) 2 16 Try.underlying31 Hi.out Hz0.out Hz1.out Hz2.out rfl (by decide) _ pre.length (entV pre) rfl (JW3.out.keep ((Keeps.refl (fun _ => False) _).alloc _)).hs ⟨w15.heap.size, 0, none⟩ 1 1 [.int .i64 v.1, .int .i64 y] rfl rfl (news_at w15 40 #[.int .i64 v.1, .int .i64 y]) ent_one (by unfold maxLen; omega) (by omega) ?_)
                    intro v20 w20 hs20 hk20 ho20
                    have hm20 := (JM3.out.keep ((Keeps.refl (fun _ => False) _).alloc _)).keepOut hk20 (JW3.out.ap)
                    have hw20 := WantAt.app (pre' := pre ++ [(v.1, y)]) JW3.out JM3.out (by simpa [entV] using hs20) (fun b hb => (ho20 b hb).imp id (by omega))
                    have HR20 : Hid (WkRnd w p q (.slice (some ⟨g, o, none⟩) wait.length vc) a1 lv1 T t l leads (j + 1) true v20 w20) := ⟨keepW leads 1000 ti v.2, pre ++ [(v.1, y)], a3, lv2, hm20, KC.out, hw20, JB3.out⟩
                    clear hs20 hk20 ho20 hm20 hw20
                    go_wp2_with fail
                    go_roundw
                    case rel => exact ⟨j + 1, true, by omega, by go_num, rfl, HR20.out⟩
                    case measure => simp [intOf]; omega
                  · have KC := Lib.hid (SK.out (by unfold liveT; rw [hB]; simp))
                    go_wp2_with (at_builtin; refine wpList_app rfl (.tmp 125) (.tmp 127) 31 rfl 40 ie (.agg #[.int .i64 0, .int .i64 0]) 2 16 Try.underlying31 Hi.out Hz0.out Hz1.out Hz2.out rfl (by decide) _ pre.length (entV pre) rfl (JW1.out.keep ((Keeps.refl (fun _ => False) _).alloc _)).hs ⟨w12.heap.size, 0, none⟩ 1 1 [.int .i64 v.1, .int .i64 v.2] rfl rfl (news_at w12 40 #[.int .i64 v.1, .int .i64 v.2]) ent_one (by unfold maxLen; omega) (by omega) ?_)
                    intro v20 w20 hs20 hk20 ho20
                    have hm20 := (JM1.out.keep ((Keeps.refl (fun _ => False) _).alloc _)).keepOut hk20 (JW1.out.ap)
                    have hw20 := WantAt.app (pre' := pre ++ [(v.1, v.2)]) JW1.out JM1.out (by simpa [entV] using hs20) (fun b hb => (ho20 b hb).imp id (by omega))
                    have HR20 : Hid (WkRnd w p q (.slice (some ⟨g, o, none⟩) wait.length vc) a1 lv1 T t l leads (j + 1) woke v20 w20) := ⟨ti, pre ++ [(v.1, v.2)], a2, lv2, hm20, KC.out, hw20, JB.out⟩
                    clear hs20 hk20 ho20 hm20 hw20
                    go_wp2_with fail
                    go_roundw
                    case rel => exact ⟨j + 1, woke, by omega, by go_num, rfl, HR20.out⟩
                    case measure => simp [intOf]; omega
                · have KC := Lib.hid (SK.out (by unfold liveT; rw [decide_eq_true (show 1000 ≤ v.2 by omega)]; simp))
                  go_wp2_with (at_builtin; refine wpList_app rfl (.tmp 125) (.tmp 127) 31 rfl 40 ie (.agg #[.int .i64 0, .int .i64 0]) 2 16 Try.underlying31 Hi.out Hz0.out Hz1.out Hz2.out rfl (by decide) _ pre.length (entV pre) rfl (JW1.out.keep ((Keeps.refl (fun _ => False) _).alloc _)).hs ⟨w12.heap.size, 0, none⟩ 1 1 [.int .i64 v.1, .int .i64 v.2] rfl rfl (news_at w12 40 #[.int .i64 v.1, .int .i64 v.2]) ent_one (by unfold maxLen; omega) (by omega) ?_)
                  intro v20 w20 hs20 hk20 ho20
                  have hm20 := (JM1.out.keep ((Keeps.refl (fun _ => False) _).alloc _)).keepOut hk20 (JW1.out.ap)
                  have hw20 := WantAt.app (pre' := pre ++ [(v.1, v.2)]) JW1.out JM1.out (by simpa [entV] using hs20) (fun b hb => (ho20 b hb).imp id (by omega))
                  have HR20 : Hid (WkRnd w p q (.slice (some ⟨g, o, none⟩) wait.length vc) a1 lv1 T t l leads (j + 1) woke v20 w20) := ⟨ti, pre ++ [(v.1, v.2)], a2, lv2, hm20, KC.out, hw20, JB.out⟩
                  clear hs20 hk20 ho20 hm20 hw20
                  go_wp2_with fail
                  go_roundw
                  case rel => exact ⟨j + 1, woke, by omega, by go_num, rfl, HR20.out⟩
                  case measure => simp [intOf]; omega
            · obtain rfl : j = wait.length := by omega
              have hdone : wakeW leads t l = (ti, pre, woke) := by
                have h := hin
                rw [← GL.out] at h
                exact h.done
              have hspec := wakeW_spec (leads := leads) (T := T) l t GO.out
              have hpl : pre.length = wait.length := hin.1
              have hwv : ∃ wo wc, (.slice wo pre.length wc : Value) = .slice wo wait.length wc ∧ True := ⟨wo, wc, by rw [hpl], trivial⟩
              have e1 : wakeM liveT (kpW leads) t l = (ti, pre, woke) := hdone
              rw [e1] at hspec
              have g0 := hm.hb.cell 0
              have gl := hm.hb.lt
              simp only [List.getElem?_cons_zero] at g0
              have HD := Lib.hid hdone; have HSP := Lib.hid hspec; have HPL := Lib.hid hpl
              rw [hpl] at JW
              clear hm hin hwant hbd hdone hspec hpl hwv e1
              rw [HPL.out]
              go_wp2_with fail
              refine wp_region_ro (.free 0 (.free 1 (.free 4 (.free 7 (.pure 2 (.free 3 (.free 5 (.run 6 (.swi [15, 16, 17, 18, 19, 20, 21, 22, 23, 24, 25, 26, 27, 28, 29, 30] (.free 8 (.free 9 (.free 10 (.free 11 (.free 12 (.free 14 (.pure 13 (.run 15 (.swi [] (.free 16 (.free 17 (.free 18 (.free 24 (.free 25 (.free 26 (.pure 19 (.free 20 (.free 21 (.pure 22 (.free 23 (.pure 27 (.free 28 (.free 29 (.free 30 (.fin)))))))))))))))))))))))))))))))))) [6, 8, 9, 10, 11, 12, 13, 14, 15, 16, 17, 18, 19, 20, 21, 22, 23, 24, 25, 26, 27, 28, 29, 30] (fun w' => w'.cell? ⟨q + 1 + 1, 0, none⟩ = some (.pointer (some ⟨q, 0, none⟩))) (by kernel_rfl) (by kernel_rfl) g0 ?_
              first | (refine wpRO_free rfl rfl _ (fun w' => by go_simp; exact Gives.mk _ _) (fun K hK => ?_); go_simp; refine hK _ ?_; clear hK K) | (refine wpRO_skipF rfl rfl (fun K hK => ?_); go_simp; refine hK _ ?_; clear hK K)
              first | (refine wpRO_free rfl rfl _ (fun w' => by go_simp; exact Gives.mk _ _) (fun K hK => ?_); go_simp; refine hK _ ?_; clear hK K) | (refine wpRO_skipF rfl rfl (fun K hK => ?_); go_simp; refine hK _ ?_; clear hK K)
              first | (refine wpRO_free rfl rfl _ (fun w' => by go_simp; exact Gives.mk _ _) (fun K hK => ?_); go_simp; refine hK _ ?_; clear hK K) | (refine wpRO_skipF rfl rfl (fun K hK => ?_); go_simp; refine hK _ ?_; clear hK K)
              first | (refine wpRO_free rfl rfl _ (fun w' => by go_simp; exact Gives.mk _ _) (fun K hK => ?_); go_simp; refine hK _ ?_; clear hK K) | (refine wpRO_skipF rfl rfl (fun K hK => ?_); go_simp; refine hK _ ?_; clear hK K)
              first | (refine wpRO_pure rfl rfl _ (fun w' hG => by obtain g0 := hG; exact gives_agg2 rfl (by kernel_rfl) rfl (by assumption) (by assumption)) (fun K hK => ?_); go_simp; refine hK _ ?_; clear hK K) | (refine wpRO_pure rfl rfl _ (fun w' hG => by obtain g0 := hG; go_simp; exact Gives.mk _ _) (fun K hK => ?_); go_simp; refine hK _ ?_; clear hK K) | (refine wpRO_skip rfl rfl (fun K hK => ?_); go_simp; refine hK _ ?_; clear hK K)
              first | (refine wpRO_free rfl rfl _ (fun w' => by go_simp; exact Gives.mk _ _) (fun K hK => ?_); go_simp; refine hK _ ?_; clear hK K) | (refine wpRO_skipF rfl rfl (fun K hK => ?_); go_simp; refine hK _ ?_; clear hK K)
              first | (refine wpRO_free rfl rfl _ (fun w' => by go_simp; exact Gives.mk _ _) (fun K hK => ?_); go_simp; refine hK _ ?_; clear hK K) | (refine wpRO_skipF rfl rfl (fun K hK => ?_); go_simp; refine hK _ ?_; clear hK K)
              refine wpRO_chg rfl rfl rfl (fun K hK => ?_); unfold gRun; go_simp
              have LD : ∀ e ∈ l, (wakesL p q (q + 1 + 1) leads T HTL.out (by omega)).D t e.1 ∧ (wakesL p q (q + 1 + 1) leads T HTL.out (by omega)).D t e.2 := fun e he => ⟨.inl ⟨(GO.out e he).2.1, (GO.out e he).1⟩, (GO.out e he).2.2⟩
              refine (Wake_c p (wakesL p q (q + 1 + 1) leads T HTL.out (by omega)) (kpW leads) (fun _ _ _ => rfl) t (fun k => WFp q a1 lv1 k ∨ k = q + 1 + 1) nilS (.slice vo wait.length vc) [] l _ ?hd ⟨a1, lv1, (JM.out.keep ((Keeps.refl _ _).drew)).h1, (JM.out.keep ((Keeps.refl _ _).drew)).hb, GB.out, fun k => ?hJ⟩ (JM.out.keep ((Keeps.refl _ _).drew)).hS (fun k h => JM.out.apS1 k h.1 h.2) (by rw [GL.out]; omega) LD).mono ?_
              case hd =>
                intro t x h1 h2
                rcases h1 with h1 | h1
                · exact h1
                · exfalso
                  have h2 : liveT t x = false := h2
                  unfold liveT at h2; rw [decide_eq_true h1] at h2; cases h2
              case hJ => show (WFp q a1 lv1 k ∨ k = q + 1 + 1) ↔ _; unfold WFp; rw [or_assoc, or_assoc]
              rintro e w30 ⟨rfl, F', hJ', hS', hA', hK', hF', hD'⟩
              have e1 : wakeM (wakesL p q (q + 1 + 1) leads T HTL.out (by omega)).alive (kpW leads) t l = (ti, pre, woke) := HD.out
              rw [e1] at hJ' hS'
              rw [e1]
              obtain ⟨a1', lv1', hw1, hb1, hbd, hfp⟩ := hJ'
              have hm2 := ((JM.out.keep ((Keeps.refl _ _).drew)).one (F := fun k => WFp q a1 lv1 k ∨ k = q + 1 + 1) (F' := F') (fun k h => h) hw1 hb1 hS' (fun k h => (hfp k).2 (by rcases h with (h | h | h) | h; exact .inl h; exact .inr (.inl h); exact .inr (.inr (.inl h)); exact .inr (.inr (.inr h)))) hA' hK' hF')
              have hsw := (JW.out.keep ((Keeps.refl _ _).drew)).hs.keep hK' (fun b hb h => by
                rcases h with h | h
                · exact (JW.out.ap b hb).2.2.1 h
                · exact (JW.out.ap b hb).2.1 h)
              refine hK _ _ ?_
              clear hK K
              have KM := Lib.hid hm2; have KW := Lib.hid hsw; have KB := Lib.hid hbd
              clear hD' hS' hw1 hb1 hbd hfp hm2 hsw hK' hF' hA' LD g0 gl e1 c1 pl
              obtain ⟨_, _, e', hrd1, -, -⟩ := KM.out.hS.hw.rd
              rw [HPL.out] at e'
              cases e'
              have hrd1 := Lib.hid hrd1
              obtain ⟨_, _, e', hrd2, -, -⟩ := KW.out.rd
              rw [HPL.out] at e'
              cases e'
              have hrd2 := Lib.hid hrd2
              have g0 := KM.out.hS.hp.cell 1
              simp only [List.getElem?_cons_zero, List.getElem?_cons_succ] at g0
              refine wpRO_swi (fun w' => w'.cell? ⟨p, 1, none⟩ = some (.slice vo wait.length vc)) g0 ?_
              first | (refine wpRO_free rfl rfl _ (fun w' => by go_simp; exact Gives.mk _ _) (fun K hK => ?_); go_simp; refine hK _ ?_; clear hK K) | (refine wpRO_skipF rfl rfl (fun K hK => ?_); go_simp; refine hK _ ?_; clear hK K)
              first | (refine wpRO_free rfl rfl _ (fun w' => by go_simp; exact Gives.mk _ _) (fun K hK => ?_); go_simp; refine hK _ ?_; clear hK K) | (refine wpRO_skipF rfl rfl (fun K hK => ?_); go_simp; refine hK _ ?_; clear hK K)
              first | (refine wpRO_free rfl rfl _ (fun w' => by go_simp; exact Gives.mk _ _) (fun K hK => ?_); go_simp; refine hK _ ?_; clear hK K) | (refine wpRO_skipF rfl rfl (fun K hK => ?_); go_simp; refine hK _ ?_; clear hK K)
              first | (refine wpRO_free rfl rfl _ (fun w' => by go_simp; exact Gives.mk _ _) (fun K hK => ?_); go_simp; refine hK _ ?_; clear hK K) | (refine wpRO_skipF rfl rfl (fun K hK => ?_); go_simp; refine hK _ ?_; clear hK K)
              first | (refine wpRO_free rfl rfl _ (fun w' => by go_simp; exact Gives.mk _ _) (fun K hK => ?_); go_simp; refine hK _ ?_; clear hK K) | (refine wpRO_skipF rfl rfl (fun K hK => ?_); go_simp; refine hK _ ?_; clear hK K)
              first | (refine wpRO_free rfl rfl _ (fun w' => by go_simp; exact Gives.mk _ _) (fun K hK => ?_); go_simp; refine hK _ ?_; clear hK K) | (refine wpRO_skipF rfl rfl (fun K hK => ?_); go_simp; refine hK _ ?_; clear hK K)
              first | (refine wpRO_pure rfl rfl _ (fun w' hG => by obtain g0 := hG; exact gives_agg2 rfl (by kernel_rfl) rfl (by assumption) (by assumption)) (fun K hK => ?_); go_simp; refine hK _ ?_; clear hK K) | (refine wpRO_pure rfl rfl _ (fun w' hG => by obtain g0 := hG; go_simp; exact Gives.mk _ _) (fun K hK => ?_); go_simp; refine hK _ ?_; clear hK K) | (refine wpRO_skip rfl rfl (fun K hK => ?_); go_simp; refine hK _ ?_; clear hK K)
              refine wpRO_chg rfl rfl rfl (fun K hK => ?_); unfold gRun; go_simp
              have hse := sameEntries_yes _ _ vc wc pre w30 hrd1.out hrd2.out (by rw [HPL.out]; omega)
              rw [HPL.out] at hse
              refine hse.mono ?_
              rintro e w31 ⟨rfl, k31⟩
              refine hK _ _ ?_
              clear hK K hse
              have KM2 := Lib.hid (KM.out.keep k31)
              have g0 := KM2.out.hb.cell 0; have g1 := KM2.out.h1.hq.cell 0; have g2 := KM2.out.h2.hq.cell 0
              obtain ⟨xo1, xc1, rfl, -, -, -⟩ := KM2.out.h1.ha.rd
              obtain ⟨xo2, xc2, rfl, -, -, -⟩ := KM2.out.h2.ha.rd
              simp only [List.getElem?_cons_zero, List.getElem?_cons_succ] at g0 g1 g2
              clear k31
              refine wpRO_swi (fun w' => w'.cell? ⟨q + 1 + 1, 0, none⟩ = some (.pointer (some ⟨q, 0, none⟩)) ∧ w'.cell? ⟨q, 0, none⟩ = some (.slice xo1 ti.length xc1) ∧ w'.cell? ⟨q + 1, 0, none⟩ = some (.slice xo2 ti.length xc2)) ⟨g0, g1, g2⟩ ?_
              first | (refine wpRO_free rfl rfl _ (fun w' => by go_simp; exact Gives.mk _ _) (fun K hK => ?_); go_simp; refine hK _ ?_; clear hK K) | (refine wpRO_skipF rfl rfl (fun K hK => ?_); go_simp; refine hK _ ?_; clear hK K)
              first | (refine wpRO_free rfl rfl _ (fun w' => by go_simp; exact Gives.mk _ _) (fun K hK => ?_); go_simp; refine hK _ ?_; clear hK K) | (refine wpRO_skipF rfl rfl (fun K hK => ?_); go_simp; refine hK _ ?_; clear hK K)
              first | (refine wpRO_free rfl rfl _ (fun w' => by go_simp; exact Gives.mk _ _) (fun K hK => ?_); go_simp; refine hK _ ?_; clear hK K) | (refine wpRO_skipF rfl rfl (fun K hK => ?_); go_simp; refine hK _ ?_; clear hK K)
              first | (refine wpRO_free rfl rfl _ (fun w' => by go_simp; exact Gives.mk _ _) (fun K hK => ?_); go_simp; refine hK _ ?_; clear hK K) | (refine wpRO_skipF rfl rfl (fun K hK => ?_); go_simp; refine hK _ ?_; clear hK K)
              first | (refine wpRO_free rfl rfl _ (fun w' => by go_simp; exact Gives.mk _ _) (fun K hK => ?_); go_simp; refine hK _ ?_; clear hK K) | (refine wpRO_skipF rfl rfl (fun K hK => ?_); go_simp; refine hK _ ?_; clear hK K)
              first | (refine wpRO_free rfl rfl _ (fun w' => by go_simp; exact Gives.mk _ _) (fun K hK => ?_); go_simp; refine hK _ ?_; clear hK K) | (refine wpRO_skipF rfl rfl (fun K hK => ?_); go_simp; refine hK _ ?_; clear hK K)
              first | (refine wpRO_pure rfl rfl _ (fun w' hG => by obtain ⟨g0, g1, g2⟩ := hG; exact gives_agg2 rfl (by kernel_rfl) rfl (by assumption) (by assumption)) (fun K hK => ?_); go_simp; refine hK _ ?_; clear hK K) | (refine wpRO_pure rfl rfl _ (fun w' hG => by obtain ⟨g0, g1, g2⟩ := hG; go_simp; exact Gives.mk _ _) (fun K hK => ?_); go_simp; refine hK _ ?_; clear hK K) | (refine wpRO_skip rfl rfl (fun K hK => ?_); go_simp; refine hK _ ?_; clear hK K)
              first | (refine wpRO_free rfl rfl _ (fun w' => by go_simp; exact Gives.mk _ _) (fun K hK => ?_); go_simp; refine hK _ ?_; clear hK K) | (refine wpRO_skipF rfl rfl (fun K hK => ?_); go_simp; refine hK _ ?_; clear hK K)
              first | (refine wpRO_free rfl rfl _ (fun w' => by go_simp; exact Gives.mk _ _) (fun K hK => ?_); go_simp; refine hK _ ?_; clear hK K) | (refine wpRO_skipF rfl rfl (fun K hK => ?_); go_simp; refine hK _ ?_; clear hK K)
              first | (refine wpRO_pure rfl rfl _ (fun w' hG => by obtain ⟨g0, g1, g2⟩ := hG; exact gives_agg2 rfl (by kernel_rfl) rfl (by assumption) (by assumption)) (fun K hK => ?_); go_simp; refine hK _ ?_; clear hK K) | (refine wpRO_pure rfl rfl _ (fun w' hG => by obtain ⟨g0, g1, g2⟩ := hG; go_simp; exact Gives.mk _ _) (fun K hK => ?_); go_simp; refine hK _ ?_; clear hK K) | (refine wpRO_skip rfl rfl (fun K hK => ?_); go_simp; refine hK _ ?_; clear hK K)
              first | (refine wpRO_free rfl rfl _ (fun w' => by go_simp; exact Gives.mk _ _) (fun K hK => ?_); go_simp; refine hK _ ?_; clear hK K) | (refine wpRO_skipF rfl rfl (fun K hK => ?_); go_simp; refine hK _ ?_; clear hK K)
              first | (refine wpRO_pure rfl rfl _ (fun w' hG => by obtain ⟨g0, g1, g2⟩ := hG; exact gives_agg2 rfl (by kernel_rfl) rfl (by assumption) (by assumption)) (fun K hK => ?_); go_simp; refine hK _ ?_; clear hK K) | (refine wpRO_pure rfl rfl _ (fun w' hG => by obtain ⟨g0, g1, g2⟩ := hG; go_simp; exact Gives.mk _ _) (fun K hK => ?_); go_simp; refine hK _ ?_; clear hK K) | (refine wpRO_skip rfl rfl (fun K hK => ?_); go_simp; refine hK _ ?_; clear hK K)
              first | (refine wpRO_free rfl rfl _ (fun w' => by go_simp; exact Gives.mk _ _) (fun K hK => ?_); go_simp; refine hK _ ?_; clear hK K) | (refine wpRO_skipF rfl rfl (fun K hK => ?_); go_simp; refine hK _ ?_; clear hK K)
              first | (refine wpRO_free rfl rfl _ (fun w' => by go_simp; exact Gives.mk _ _) (fun K hK => ?_); go_simp; refine hK _ ?_; clear hK K) | (refine wpRO_skipF rfl rfl (fun K hK => ?_); go_simp; refine hK _ ?_; clear hK K)
              first | (refine wpRO_free rfl rfl _ (fun w' => by go_simp; exact Gives.mk _ _) (fun K hK => ?_); go_simp; refine hK _ ?_; clear hK K) | (refine wpRO_skipF rfl rfl (fun K hK => ?_); go_simp; refine hK _ ?_; clear hK K)
              refine wpRO_fin ?_
              cases woke
              · go_wp2_with fail
                go_ret
                exact ⟨rfl, KM2.out.hK⟩
              · go_wp2_with fail
                go_roundw
                case rel =>
                  have h1 := HSP.out.2.2.1 rfl
                  have h2 := GC.out
                  exact ⟨k + 1, by omega, by go_num, ti, pre, _, _, _, _, KM2.out, HPL.out, HSP.out.2.2.2, by omega, KB.out⟩
                case measure => simp [intOf]; omega
  · go_wp2_with fail
    go_ret
    exact ⟨rfl, HK1.out⟩

theorem SideWakes_walk (ao : Option Addr) (ca : Nat) (wait : List (Int × Int)) (bo : Option Addr) (cb : Nat) (alive : List Int) (co : Option Addr) (cc : Nat) (leads : List (Int × Int)) (w : World)
    (h1 : Rd w ao (entV wait)) (l1 : wait.length ≤ maxLen) (_ : ∀ e ∈ wait, (-9223372036854775808 ≤ e.1 ∧ e.1 ≤ 9223372036854775807) ∧ -9223372036854775808 ≤ e.2 ∧ e.2 ≤ 9223372036854775807)
    (h2 : Rd w bo (alive.map (Value.int .i64))) (l2 : alive.length ≤ maxLen) (_ : ∀ x ∈ alive, -9223372036854775808 ≤ x ∧ x ≤ 9223372036854775807)
    (h3 : Rd w co (entV leads)) (l3 : leads.length ≤ maxLen) (_ : ∀ e ∈ leads, (-9223372036854775808 ≤ e.1 ∧ e.1 ≤ 9223372036854775807) ∧ -9223372036854775808 ≤ e.2 ∧ e.2 ≤ 9223372036854775807) :
    Calls Try.prog 9 #[.slice ao wait.length ca, .slice bo alive.length cb, .slice co leads.length cc] w fun e w' => e = .returned (.bool true) ∧ Below w.heap.size w w' :=
  (SideWakes_raw ao ca wait bo cb alive co cc leads w h1 l1 h2 l2 h3 l3).mono fun e w' h => ⟨h.1, h.2.below (fun _ _ h => h)⟩

end Go.Proofs.Ytjifdalflepcoaa
