/-
  wood.Set, wood.New.
-/
import Derived.Test.YtjifdalflepcoabWood
namespace Go.Proofs.Ytjifdalflepcoab
open Go.RowKit
set_option linter.unusedVariables false
set_option linter.unusedSimpArgs false

section
variable {w w' : World} {h : WH} {O : Wo}

theorem Wo.set_no {x i y : Int} (hc : (O.ar.get x i).2 ≠ 0) : O.set x i y = ((O.ar.get x i).2, O) := if_pos hc
theorem Wo.set_yes {x i y : Int} (hc : (O.ar.get x i).2 = 0) : O.set x i y = (0, { O with ar := O.ar.store (x / 4 + 1 + i) y, cd := if y % 4 = 1 ∧ (O.ar.store (x / 4 + 1 + i) y).young (y / 4) = true ∧ (O.ar.store (x / 4 + 1 + i) y).old (x / 4) = true then markL O.ar.nur O.cd (x / 4) else O.cd }) :=
  if_neg (fun h => h hc)

theorem get_place {A : Ar} (hk : A.ok) {x i : Int} (h : (A.get x i).2 = 0) : x % 4 = 1 ∧ (A.thing (x / 4)).2.2 = 0 ∧ 0 ≤ x / 4 ∧ x / 4 < A.ws.length ∧ 0 ≤ i ∧ i < (A.thing (x / 4)).2.1 ∧ (A.thing (x / 4)).1 ≠ 5 := by
  unfold Ar.get at h
  split at h
  · simp at h
  · rename_i h1
    split at h
    · simp at h
    · rename_i h2
      have hc : (A.thingAt x).2.2.2 = 0 := Classical.not_not.1 fun e => h1 (.inl e)
      obtain ⟨p1, p2, p3, p4, p5⟩ := thingAt_place hk hc
      rw [thingAt_yes ⟨p1, p2⟩] at h1 h2
      exact ⟨p1, p2, p3, p4, by omega, by dsimp only at h2; omega, fun e => h1 (.inr e)⟩

set_option maxHeartbeats 2000000 in
set_option maxRecDepth 100000 in
theorem WSet_c (x i y : Int) (H : WoodAt w h O) (hy : R64 y) :
    Calls Try.prog 44 #[.pointer (some ⟨h.p, 0, none⟩), .int .i64 x, .int .i64 i, .int .i64 y] w fun e w' =>
      e = .returned (.int .i64 (O.set x i y).1) ∧ WoodTo w h w' (O.set x i y).2 := by
  have HH := Lib.hid H; have HY := Lib.hid hy
  have pl := H.hp.lt
  have h4 := H.ok.ha.h4
  have HN := Lib.hid (show 0 ≤ (O.ar.nur : Int) ∧ (O.ar.nur : Int) ≤ 1000000 by have := H.ok.ha.h1; have := H.ok.ha.h2; have := H.ok.ha.h3; omega)
  by_cases hc : (O.ar.get x i).2 = 0
  · have HE := Lib.hid (Wo.set_yes (y := y) hc)
    obtain ⟨p1, -, p2, p3, p4, p5, -⟩ := get_place H.ok.ha hc
    have p6 := (O.ar.thing_fields (x / 4)).2
    have p7 : i < 12 := by omega
    have P1 := Lib.hid p1; have HC := Lib.hid hc
    clear H hy hc p1 p5 p6
    go_enter Try.func44, Try.ntmps44
    go_wp2_with fail
    refine (Get_c x i HH.out).mono ?_
    rintro e w1 ⟨rfl, rfl⟩
    rw [HC.out]
    go_wp2_with fail
    refine (At_yes x _ P1.out).mono ?_
    rintro e w1 ⟨rfl, rfl⟩
    obtain ⟨c0, -, -, -⟩ := HH.out.ptrs
    go_wp2_with fail
    refine (Store_c (x / 4 + 1 + i) y _ HH.out.ha HY.out).mono ?_
    rintro e w1 ⟨rfl, ht⟩
    have HT := Lib.hid ht.k
    have HW := Lib.hid (HH.out.arena ht (O.ar.store_nur _ _))
    have HTO := Lib.hid (HH.out.arenaTo ht (O.ar.store_nur _ _))
    clear c0 pl ht
    generalize hA : O.ar.store (x / 4 + 1 + i) y = A at *
    have HA := Lib.hid hA; clear hA
    obtain ⟨c0, c1, -, -⟩ := HW.out.ptrs
    have pl := HW.out.hp.lt
    by_cases hy4 : y % 4 = 1
    · have HY4 := Lib.hid hy4
      cases hyo : A.young (y / 4)
      · have HF := Lib.hid (show ¬ (y % 4 = 1 ∧ A.young (y / 4) = true ∧ A.old (x / 4) = true) by rw [hyo]; exact fun h => by cases h.2.1)
        clear hy4
        go_wp2_with fail
        refine (At_yes y _ HY4.out).mono ?_
        rintro e w2 ⟨rfl, rfl⟩
        go_wp2_with fail
        refine (Young_c (y / 4) _ HW.out.ha).mono ?_
        rintro e w2 ⟨rfl, rfl⟩
        rw [hyo]
        go_wp2_with fail
        go_ret
        refine ⟨by rw [HE.out]; rfl, ?_⟩
        rw [HE.out, if_neg HF.out]
        exact HTO.out
      · cases hol : A.old (x / 4)
        · have HF := Lib.hid (show ¬ (y % 4 = 1 ∧ A.young (y / 4) = true ∧ A.old (x / 4) = true) by rw [hol]; exact fun h => by cases h.2.2)
          clear hy4
          go_wp2_with fail
          refine (At_yes y _ HY4.out).mono ?_
          rintro e w2 ⟨rfl, rfl⟩
          go_wp2_with fail
          refine (Young_c (y / 4) _ HW.out.ha).mono ?_
          rintro e w2 ⟨rfl, rfl⟩
          rw [hyo]
          go_wp2_with fail
          refine (Old_c (x / 4) _ HW.out.ha).mono ?_
          rintro e w2 ⟨rfl, rfl⟩
          rw [hol]
          go_wp2_with fail
          go_ret
          refine ⟨by rw [HE.out]; rfl, ?_⟩
          rw [HE.out, if_neg HF.out]
          exact HTO.out
        · have HF := Lib.hid (show (y % 4 = 1 ∧ A.young (y / 4) = true ∧ A.old (x / 4) = true) from ⟨hy4, hyo, hol⟩)
          clear hy4
          go_wp2_with fail
          refine (At_yes y _ HY4.out).mono ?_
          rintro e w2 ⟨rfl, rfl⟩
          go_wp2_with fail
          refine (Young_c (y / 4) _ HW.out.ha).mono ?_
          rintro e w2 ⟨rfl, rfl⟩
          rw [hyo]
          go_wp2_with fail
          refine (Old_c (x / 4) _ HW.out.ha).mono ?_
          rintro e w2 ⟨rfl, rfl⟩
          rw [hol]
          go_wp2_with fail
          have hcc := HW.out.hc
          have hcl := HW.out.ok.hc
          have hnn : A.nur = O.ar.nur := by rw [← HA.out]; exact O.ar.store_nur _ _
          refine (Mark_c h.pc h.cb A.nur (x / 4) O.cd _ hcc (by rw [hnn]; exact HN.out.1) (by rw [hnn]; exact HN.out.2) (by omega) (by omega) (by simpa using Nat.le_trans hcl (by decide))).mono ?_
          rintro e w2 ⟨rfl, hc2, hk2⟩
          have HTO2 := Lib.hid (show WoodTo w h w2 { O with ar := A, cd := markL O.ar.nur O.cd (x / 4) } by
            have := HW.out.cards hc2 (by rw [markL_length]; exact hcl) hk2
            refine ⟨h, ?_, rfl, (HT.out.mono (fun k _ hk => .inr (.inl hk))).then hk2 (fun k hk => .inl (by subst hk; exact .inr (.inr (.inl (.inr rfl))))), fun k hk => .inl hk⟩
            rw [hnn] at this
            exact this)
          clear hcc hcl hnn hc2 hk2
          go_wp2_with fail
          go_ret
          refine ⟨by rw [HE.out]; rfl, ?_⟩
          rw [HE.out, if_pos HF.out]
          exact HTO2.out
    · have HY4 := Lib.hid hy4
      have HF := Lib.hid (show ¬ (y % 4 = 1 ∧ A.young (y / 4) = true ∧ A.old (x / 4) = true) from fun h => hy4 h.1)
      clear hy4
      go_wp2_with fail
      refine (At_no y _ HY4.out).mono ?_
      rintro e w2 ⟨rfl, rfl⟩
      go_wp2_with fail
      go_ret
      refine ⟨by rw [HE.out]; rfl, ?_⟩
      rw [HE.out, if_neg HF.out]
      exact HTO.out
  · have HE := Lib.hid (Wo.set_no (y := y) hc)
    have HTC := Lib.hid (Get_c x i H)
    obtain ⟨⟨a, c⟩, hT⟩ : ∃ t, O.ar.get x i = t := ⟨_, rfl⟩
    rw [hT] at hc HE HTC
    dsimp only at hc HE HTC
    have hcb : (c != 0) = true := by simpa using hc
    clear H hc hT
    go_enter Try.func44, Try.ntmps44
    go_wp2_with fail
    refine HTC.out.mono ?_
    rintro e w1 ⟨rfl, rfl⟩
    go_wp2_with fail
    go_ret
    refine ⟨by rw [HE.out]; rfl, ?_⟩
    rw [HE.out]
    exact WoodTo.same HH.out (Keeps.refl _ _)
end

/-- A new wood is returned. -/
def WoodRet (w : World) (n o : Int) (e : Ending) (w' : World) : Prop :=
  ∃ h, e = .returned (.tuple #[.pointer (some ⟨h.p, 0, none⟩), .agg #[.int .i64 0, .int .i64 0]]) ∧ WoodAt w' h (Wo.new n o) ∧ Keeps (fun _ => False) w w' ∧ ∀ k, h.Own k → w.heap.size ≤ k

theorem Wo.new_ok {n o : Int} (h : Ar.fits n o = true) : (Wo.new n o).ok := by
  have h' := h
  simp [Ar.fits] at h'
  refine ⟨Ar.new_ok h, by simp [Wo.new], fun x hx => ?_, fun e he => by simp [Wo.new] at he, fun e he => by simp [Wo.new] at he, by simp [Wo.new], ?_⟩
  · simp [Wo.new] at hx; subst hx; unfold R64; omega
  · simp [Wo.new, cardsN]; omega

/-- In the midst of New: k roots were made. -/
structure NewIn (w : World) (h : WH) (n o : Int) (wr : World) (k : Nat) (v : Value) : Prop where
  hp : Blk wr h.p [.pointer (some ⟨h.pa, 0, none⟩), .pointer (some ⟨h.pc, 0, none⟩), .pointer (some ⟨h.ps, 0, none⟩), v] 65
  ha : ArenaAt wr h.pa h.g (Ar.new n o)
  hc : CardsAt wr h.pc h.cb n (List.replicate (cardsN o) false)
  hs : SideAt wr h.ps (.slice none 0 0) (.slice none 0 0) [] []
  hr : Sl wr 2 1 v k (List.replicate k (.int .i64 2))
  hk : Keeps (fun _ => False) w wr
  o1 : w.heap.size ≤ h.p
  o2 : w.heap.size ≤ h.pa
  o3 : w.heap.size ≤ h.g
  o4 : w.heap.size ≤ h.pc
  o5 : w.heap.size ≤ h.cb
  o6 : w.heap.size ≤ h.ps
  o7 : ∀ b, ownB v b → w.heap.size ≤ b
  ap : ¬ ownB v h.g
  hz : Blk wr w.heap.size [.int .i64 0, .int .i64 0] 26

theorem NewIn.app {w wr wa w2 : World} {h : WH} {n o : Int} {k : Nat} {v v2 : Value} (H : NewIn w h n o wr k v) (ka : Keeps (fun _ => False) wr wa) (hs2 : Sl w2 2 1 v2 (k + 1) (List.replicate k (.int .i64 2) ++ [.int .i64 2])) (hk2 : Keeps (ownB v) wa w2) (ho2 : ∀ b, ownB v2 b → ownB v b ∨ wa.heap.size ≤ b) :
    NewIn w h n o (w2.setCell ⟨h.p, 3, none⟩ v2) (k + 1) v2 := by
  have own := fun b (hb : ownB v b) => (H.hr.keep ka (fun _ _ h => h)).own hb
  have ne1 : ∀ {b : Nat} {c : List Value} {T : TypeId}, Blk wr b c T → T ≠ 2 → ¬ ownB v b := fun hb hT hv => by
    obtain ⟨_, c', hc⟩ := own _ hv
    exact (ka.blk hb (fun h => h)).ne hc hT rfl
  have lt1 : ∀ {b : Nat} {c : List Value} {T : TypeId}, Blk wr b c T → b < wa.heap.size := fun hb => (ka.blk hb (fun h => h)).lt
  have k2 := (ka.mono (T := ownB v) (fun _ _ h => h.elim)).trans hk2
  have hsz := H.hk.size
  have hpl := H.hp.lt
  have kc := fun {S : Nat → Prop} (k : Keeps S wr w2) => k
  have hp2 := k2.blk H.hp (ne1 H.hp (by decide))
  have set := (Keeps.refl (· = h.p) w2).setCell (p := ⟨h.p, 3, none⟩) (.inl rfl) v2
  have nep : ∀ {b : Nat} {c : List Value} {T : TypeId}, Blk w2 b c T → T ≠ 65 → ¬ b = h.p := fun hb hT => hb.ne hp2 hT
  have ha2 := H.ha.keep k2 (ne1 H.ha.hp (by decide)) H.ap
  have hc2 := H.hc.keep k2 (ne1 H.hc.hp (by decide)) (ne1 H.hc.hq (by decide))
  have fsd : ∀ b, SideFp h.ps (.slice none 0 0) (.slice none 0 0) b → b = h.ps := fun b hb => by
    rcases hb with h | h | h
    · exact h
    · exact (nil_own h).elim
    · exact (nil_own h).elim
  have hs3 := H.hs.keep k2 (fun b hb => by rw [fsd b hb]; exact ne1 H.hs.hp (by decide))
  refine ⟨by simpa using hp2.setSame 3 v2, ha2.keep set (nep ha2.hp (by decide)) (nep ha2.hg (by decide)), hc2.keep set (nep hc2.hp (by decide)) (nep hc2.hq (by decide)), hs3.keep set (fun b hb => by rw [fsd b hb]; exact nep hs3.hp (by decide)), ?_, ?_, H.o1, H.o2, H.o3, H.o4, H.o5, H.o6, ?_, ?_, ?_⟩
  · rw [← List.replicate_succ'] at hs2
    exact hs2.keep set (fun b hb e => by
      obtain ⟨_, c', hc⟩ := hs2.own hb
      exact nep hc (by decide) e)
  · exact (H.hk.then k2 (fun b hb => .inr (H.o7 b hb))).setCell (.inr H.o1) _
  · intro b hb
    rcases ho2 b hb with h1 | h1
    · exact H.o7 b h1
    · have := ka.size; omega
  · intro hb
    rcases ho2 _ hb with h1 | h1
    · exact H.ap h1
    · have := lt1 H.ha.hg; omega
  · have hz2 := k2.blk H.hz (ne1 H.hz (by decide))
    exact set.blk hz2 (nep hz2 (by decide))

theorem NewIn.done {w wr : World} {h : WH} {n o : Int} {v : Value} (H : NewIn w h n o wr 12 v) (hf : Ar.fits n o = true) : WoodAt wr { h with ro := v, rv := .slice none 0 0, wv := .slice none 0 0 } (Wo.new n o) ∧
    ∀ k, ({ h with ro := v, rv := .slice none 0 0, wv := .slice none 0 0 } : WH).Own k → w.heap.size ≤ k := by
  have hn : ((Ar.new n o).nur : Int) = n := by simp [Ar.fits] at hf; simp [Ar.new]; omega
  refine ⟨⟨H.hp, H.ha, ?_, H.hs, ?_, H.ap, Wo.new_ok hf⟩, ?_⟩
  · show CardsAt wr h.pc h.cb ((Ar.new n o).nur : Int) _
    rw [hn]; exact H.hc
  · have e : (Wo.new n o).rt = List.replicate 12 2 := rfl
    rw [e]
    simpa using H.hr
  · rintro k (rfl | (rfl | rfl) | (rfl | rfl) | (rfl | h1 | h1) | h1)
    · exact H.o1
    · exact H.o2
    · exact H.o3
    · exact H.o4
    · exact H.o5
    · exact H.o6
    · exact (nil_own h1).elim
    · exact (nil_own h1).elim
    · exact H.o7 k h1

set_option maxHeartbeats 4000000 in
set_option maxRecDepth 100000 in
theorem WNew_no (n o : Int) (w : World) (h : Ar.fits n o = false) :
    Calls Try.prog 42 #[.int .i64 n, .int .i64 o] w fun e w' => e = .returned (.tuple #[.pointer none, .agg #[.int .i64 1, .int .i64 (-1)]]) ∧ Keeps (fun _ => False) w w' := by
  go_enter Try.func42, Try.ntmps42
  go_wp2_with fail
  refine (ANew_no n o _ h).mono ?_
  rintro e w1 ⟨rfl, hk⟩
  have HK := Lib.hid (((Keeps.refl (fun _ => False) w).alloc (.cells #[.int .i64 0, .int .i64 0] 26)).trans hk)
  go_wp2_with fail
  have HB := Lib.hid (Blk.newAt (w := w1) (b := w1.heap.size) (T := 26) #[.int .i64 1, .int .i64 (-1)] rfl rfl)
  have h0 := HB.out.cell 0; have h1 := HB.out.cell 1; have hl := HB.out.lt
  have k0 : Blk (w.alloc (.cells #[.int .i64 0, .int .i64 0] 26)) w.heap.size [.int .i64 0, .int .i64 0] 26 := Blk.newAt _ rfl rfl
  have k1 := (hk.blk k0 (fun h => h)).alloc (.cells #[.int .i64 1, .int .i64 (-1)] 26)
  have l0 := k1.cell 0; have l1 := k1.cell 1; have ll := k1.lt; have f0 := k1.free 0; have f1 := k1.free 1
  simp only [List.getElem?_cons_zero, List.getElem?_cons_succ] at h0 h1 l0 l1
  have HKA := Lib.hid (HK.out.alloc (.cells #[.int .i64 1, .int .i64 (-1)] 26))
  clear hk k0 k1
  generalize w1.alloc (.cells #[.int .i64 1, .int .i64 (-1)] 26) = wa at *
  refine wp_region_ro (.free 1 (.pure 0 (.run 2 (.swi [] (.fin))))) [2] (fun w' => w'.cell? ⟨w1.heap.size, 0, none⟩ = some (.int .i64 1) ∧ w'.cell? ⟨w1.heap.size, 1, none⟩ = some (.int .i64 (-1))) (by kernel_rfl) (by kernel_rfl) ⟨h0, h1⟩ ?_
  first | (refine wpRO_free rfl rfl _ (fun w' => by go_simp; exact Gives.mk _ _) (fun K hK => ?_); go_simp; refine hK _ ?_; clear hK K) | (refine wpRO_skipF rfl rfl (fun K hK => ?_); go_simp; refine hK _ ?_; clear hK K)
  first | (refine wpRO_pure rfl rfl _ (fun w' hG => by obtain ⟨g0, g1⟩ := hG; exact gives_agg2 rfl (by decide +kernel) rfl (by assumption) (by assumption)) (fun K hK => ?_); go_simp; refine hK _ ?_; clear hK K) | (refine wpRO_pure rfl rfl _ (fun w' hG => by obtain ⟨g0, g1⟩ := hG; go_simp; exact Gives.mk _ _) (fun K hK => ?_); go_simp; refine hK _ ?_; clear hK K) | (refine wpRO_skip rfl rfl (fun K hK => ?_); go_simp; refine hK _ ?_; clear hK K)
  refine wpRO_chg rfl rfl rfl (fun K hK => ?_); unfold gRun; go_simp
  refine hK _ _ ?_
  clear hK K
  refine wpRO_swi (fun _ => True) trivial (wpRO_fin ?_)
  go_wp2_with fail
  refine bodyPost_ret (v := .tuple #[.pointer none, .agg #[.int .i64 1, .int .i64 (-1)]]) (by simp [results, Try.results42, go_sem, l0, l1]) rfl ⟨rfl, (HKA.out.drew.setCell (p := ⟨w.heap.size, 0, none⟩) (.inr (Nat.le_refl _)) _).setCell (p := ⟨w.heap.size, 1, none⟩) (.inr (Nat.le_refl _)) _⟩

set_option maxHeartbeats 4000000 in
set_option maxRecDepth 100000 in
theorem WNew_yes (n o : Int) (w : World) (h : Ar.fits n o = true) :
    Calls Try.prog 42 #[.int .i64 n, .int .i64 o] w fun e w' => WoodRet w n o e w' := by
  have HF := Lib.hid h
  have ho : o ≤ 1000000 ∧ -9223372036854775808 ≤ o := by simp [Ar.fits] at h; omega
  obtain ⟨i0, hi, hz0, hz1, hz2⟩ := info_parts info_i64
  have Hi := Lib.hid hi; have Hz0 := Lib.hid hz0; have Hz1 := Lib.hid hz1; have Hz2 := Lib.hid hz2; clear hi hz0 hz1 hz2
  clear h
  go_enter Try.func42, Try.ntmps42
  go_wp2_with fail
  refine (ANew_yes n o _ HF.out).mono ?_
  rintro e w1 ⟨pa, g, rfl, hA, hk, hpa, hg⟩
  have HA := Lib.hid hA; have HK := Lib.hid (((Keeps.refl (fun _ => False) w).alloc (.cells #[.int .i64 0, .int .i64 0] 26)).trans hk)
  have HZ := Lib.hid (hk.blk (show Blk (w.alloc (.cells #[.int .i64 0, .int .i64 0] 26)) w.heap.size [.int .i64 0, .int .i64 0] 26 from Blk.newAt _ rfl rfl) (fun h => h))
  have hsz := hk.size
  simp at hsz hpa hg
  have HPA := Lib.hid hpa; have HG := Lib.hid hg
  clear hA hk hpa hg
  go_wp2_with fail
  refine (New_c n o _ ho.1 ho.2).mono ?_
  rintro e w2 ⟨rfl, hC, hz, hk⟩
  have hka := (Keeps.refl (fun _ => False) w1).alloc (.cells #[.int .i64 0, .int .i64 0] 26)
  have HC := Lib.hid hC; have HK2 := Lib.hid (HK.out.trans (hka.trans hk)); have HA2 := Lib.hid (HA.out.keep (hka.trans hk) (fun h => h) (fun h => h)); have HZ2 := Lib.hid ((hka.trans hk).blk HZ.out (fun h => h))
  have hsz2 := hk.size
  simp at hsz2
  clear hC hk hz hka
  go_wp2_with fail
  have HN := Lib.hid (show NewIn w ⟨w2.heap.size + 1, pa, g, w1.heap.size + 1 + 1, w1.heap.size + 1, w2.heap.size, .slice none 0 0, .slice none 0 0, .slice none 0 0⟩ n o ((w2.alloc (.cells #[.slice none 0 0, .slice none 0 0] 129)).alloc (.cells #[.pointer (some ⟨pa, 0, none⟩), .pointer (some ⟨w1.heap.size + 1 + 1, 0, none⟩), .pointer (some ⟨w2.heap.size, 0, none⟩), .slice none 0 0] 65)) 0 (.slice none 0 0) by
    have k1 := (Keeps.refl (fun _ => False) w2).alloc (.cells #[.slice none 0 0, .slice none 0 0] 129)
    have k2 := (Keeps.refl (fun _ => False) (w2.alloc (.cells #[.slice none 0 0, .slice none 0 0] 129))).alloc (.cells #[.pointer (some ⟨pa, 0, none⟩), .pointer (some ⟨w1.heap.size + 1 + 1, 0, none⟩), .pointer (some ⟨w2.heap.size, 0, none⟩), .slice none 0 0] 65)
    have k12 := k1.trans k2
    have hc := HC.out
    simp only [World.size_alloc] at hc
    have s0 : w.heap.size ≤ w1.heap.size := by omega
    refine ⟨Blk.newAt _ (by simp) rfl, HA2.out.keep k12 (fun h => h) (fun h => h), hc.keep k12 (fun h => h) (fun h => h), ?_, Sl.nil _ _ _, HK2.out.trans k12, ?_, ?_, ?_, ?_, ?_, ?_, fun b hb => (nil_own hb).elim, fun hb => nil_own hb, k12.blk HZ2.out (fun h => h)⟩
    · refine ⟨(Blk.newAt _ rfl rfl).alloc _, Sl.nil _ _ _, Sl.nil _ _ _, fun k hk => nil_own hk.1⟩
    all_goals (have h1 := HPA.out; have h2 := HG.out; dsimp only; omega))
  clear HC HK2 HA2
  generalize (w2.alloc (.cells #[.slice none 0 0, .slice none 0 0] 129)).alloc (.cells #[.pointer (some ⟨pa, 0, none⟩), .pointer (some ⟨w1.heap.size + 1 + 1, 0, none⟩), .pointer (some ⟨w2.heap.size, 0, none⟩), .slice none 0 0] 65) = wb at *
  go_loopw [27] (fun i wr => ∃ (k : Nat) (v : Value), k ≤ 12 ∧ i = .int .i64 k ∧ NewIn w ⟨w2.heap.size + 1, pa, g, w1.heap.size + 1 + 1, w1.heap.size + 1, w2.heap.size, .slice none 0 0, .slice none 0 0, .slice none 0 0⟩ n o wr k v) (fun i _ => 12 - (intOf i).toNat)
  case atStart => exact ⟨0, _, Nat.zero_le _, rfl, HN.out⟩
  case round =>
    clear HN
    obtain ⟨k, v, hk, rfl, hI⟩ := hrel
    have HI := Lib.hid hI; clear hI
    by_cases hlt : k < 12
    · have c3 := HI.out.hp.cell 3; have pl := HI.out.hp.lt; have f3 := HI.out.hp.free 3
      simp only [List.getElem?_cons_zero, List.getElem?_cons_succ] at c3
      obtain ⟨ao, cap, rfl, -, -, -⟩ := HI.out.hr.rd
      go_wp2_with fail
      refine wp_region_ro (.free 0 (.free 1 (.free 2 (.free 3 (.pure 4 (.run 5 (.run 6 (.run 7 (.swi [10] (.free 8 (.free 9 (.run 10 (.swi [] (.fin)))))))))))))) [7, 8, 9, 10] (fun w' => w'.cell? ⟨w2.heap.size + 1, 3, none⟩ = some (.slice ao k cap)) (by kernel_rfl) (by kernel_rfl) c3 ?_
      first | (refine wpRO_free rfl rfl _ (fun w' => by go_simp; exact Gives.mk _ _) (fun K hK => ?_); go_simp; refine hK _ ?_; clear hK K) | (refine wpRO_skipF rfl rfl (fun K hK => ?_); go_simp; refine hK _ ?_; clear hK K)
      first | (refine wpRO_free rfl rfl _ (fun w' => by go_simp; exact Gives.mk _ _) (fun K hK => ?_); go_simp; refine hK _ ?_; clear hK K) | (refine wpRO_skipF rfl rfl (fun K hK => ?_); go_simp; refine hK _ ?_; clear hK K)
      first | (refine wpRO_free rfl rfl _ (fun w' => by go_simp; exact Gives.mk _ _) (fun K hK => ?_); go_simp; refine hK _ ?_; clear hK K) | (refine wpRO_skipF rfl rfl (fun K hK => ?_); go_simp; refine hK _ ?_; clear hK K)
      first | (refine wpRO_free rfl rfl _ (fun w' => by go_simp; exact Gives.mk _ _) (fun K hK => ?_); go_simp; refine hK _ ?_; clear hK K) | (refine wpRO_skipF rfl rfl (fun K hK => ?_); go_simp; refine hK _ ?_; clear hK K)
      first | (refine wpRO_pure rfl rfl _ (fun w' hG => by obtain g3 := hG; exact gives_agg2 rfl (by decide +kernel) rfl (by assumption) (by assumption)) (fun K hK => ?_); go_simp; refine hK _ ?_; clear hK K) | (refine wpRO_pure rfl rfl _ (fun w' hG => by obtain g3 := hG; go_simp; exact Gives.mk _ _) (fun K hK => ?_); go_simp; refine hK _ ?_; clear hK K) | (refine wpRO_skip rfl rfl (fun K hK => ?_); go_simp; refine hK _ ?_; clear hK K)
      refine wpRO_run rfl rfl (fun K hK => ?_); unfold gRun; go_simp
      refine (Nil_c _).mono ?_
      rintro e w3 ⟨rfl, rfl⟩
      refine hK _ _ (fun h => h) ?_
      clear hK K
      refine wpRO_run rfl rfl (fun K hK => ?_); unfold gRun; go_simp
      have hkb : Keeps (fun _ => False) wr ((wr.drew).alloc (.cells #[.int .i64 2] 2)) := (Keeps.refl (fun _ => False) wr).drew.alloc (.cells #[.int .i64 2] 2)
      refine hK _ _ (fun _ => (hkb.blk HI.out.hp (fun h => h)).cell 3) ?_
      clear hK K
      refine wpRO_chg rfl rfl rfl (fun K hK => ?_)
      refine gRun_app (.tmp 33) (.tmp 35) 22 rfl 2 i0 (.int .i64 0) 1 8 Try.underlying22 Hi.out Hz0.out Hz1.out Hz2.out rfl (by decide) _ k (List.replicate k (.int .i64 2)) rfl (HI.out.hr.keep hkb (fun _ _ h => h)) ⟨wr.heap.size, 0, none⟩ 1 1 [.int .i64 2] rfl rfl (news_at wr.drew 2 #[.int .i64 2]) (by intro u hu; simp at hu; subst hu; rfl) (by unfold maxLen; omega) (by omega) ?_
      intro v3 w3 hs3 hk3 ho3
      have HI3 := Lib.hid (HI.out.app hkb hs3 hk3 ho3)
      have hp3 := hk3.blk (hkb.blk HI.out.hp (fun h => h)) (fun hv => by obtain ⟨_, c', hc⟩ := (HI.out.hr.keep hkb (fun _ _ h => h)).own hv; exact (hkb.blk HI.out.hp (fun h => h)).ne hc (by decide) rfl)
      have x0 := hp3.cell 3; have xf := hp3.free 3; have xl := hp3.lt
      simp only [List.getElem?_cons_zero, List.getElem?_cons_succ] at x0
      refine hK _ _ ?_
      clear hK K hkb hs3 hk3 ho3 hp3 c3 pl f3
      refine wpRO_swi (fun _ => True) trivial ?_
      obtain ⟨vo3, vc3, rfl, -, -, -⟩ := HI3.out.hr.rd
      first | (refine wpRO_free rfl rfl _ (fun w' => by go_simp; exact Gives.mk _ _) (fun K hK => ?_); go_simp; refine hK _ ?_; clear hK K) | (refine wpRO_skipF rfl rfl (fun K hK => ?_); go_simp; refine hK _ ?_; clear hK K)
      first | (refine wpRO_free rfl rfl _ (fun w' => by go_simp; exact Gives.mk _ _) (fun K hK => ?_); go_simp; refine hK _ ?_; clear hK K) | (refine wpRO_skipF rfl rfl (fun K hK => ?_); go_simp; refine hK _ ?_; clear hK K)
      refine wpRO_chg rfl rfl rfl (fun K hK => ?_); unfold gRun; go_simp
      refine hK _ _ ?_
      clear hK K
      refine wpRO_swi (fun _ => True) trivial (wpRO_fin ?_)
      clear x0 xf xl
      go_wp2_with fail
      go_roundw
      case rel => exact ⟨k + 1, _, by omega, by go_num, HI3.out⟩
      case measure => simp [intOf]; omega
    · obtain rfl : k = 12 := by omega
      have z0 := HI.out.hz.cell 0; have z1 := HI.out.hz.cell 1; have zl := HI.out.hz.lt; have zf := HI.out.hz.free 0; have zg := HI.out.hz.free 1
      simp only [List.getElem?_cons_zero, List.getElem?_cons_succ] at z0 z1
      have HD := Lib.hid (HI.out.done HF.out); have HKI := Lib.hid HI.out.hk
      go_wp2_with fail
      refine bodyPost_ret (v := .tuple #[.pointer (some ⟨w2.heap.size + 1, 0, none⟩), .agg #[.int .i64 0, .int .i64 0]]) (by simp [results, Try.results42, go_sem, z0, z1]) rfl ⟨_, rfl, ?_, (HKI.out.setCell (p := ⟨w.heap.size, 0, none⟩) (.inr (Nat.le_refl _)) _).setCell (p := ⟨w.heap.size, 1, none⟩) (.inr (Nat.le_refl _)) _, HD.out.2⟩
      have hD := HD.out.1
      have ke := ((Keeps.refl (· = w.heap.size) wr).setCell (p := ⟨w.heap.size, 0, none⟩) (.inl rfl) (.int .i64 0)).setCell (p := ⟨w.heap.size, 1, none⟩) (.inl rfl) (.int .i64 0)
      exact hD.keep ke (fun b hb e => by
        subst e
        have hzz := HI.out.hz
        rcases hb with e | (e | e) | (e | e) | e | e
        · exact hzz.ne hD.hp (by decide) e
        · exact hzz.ne hD.ha.hp (by decide) e
        · exact hzz.ne hD.ha.hg (by decide) e
        · exact hzz.ne hD.hc.hp (by decide) e
        · exact hzz.ne hD.hc.hq (by decide) e
        · exact hD.side_ne hzz (by decide) (by decide) e
        · exact hD.ro_ne hzz (by decide) e)

end Go.Proofs.Ytjifdalflepcoab
