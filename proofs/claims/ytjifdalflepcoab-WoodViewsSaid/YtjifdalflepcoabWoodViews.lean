/-
  WoodViews (law05.go): a view is what is seen.
-/
import Derived.Test.YtjifdalflepcoabWoodM
import Derived.Test.YtjifdalflepcoabAggN
import Derived.Test.YtjifdalflepcoabWordR
import Derived.Test.YtjifdalflepcoabArenaBegun
namespace Go.Proofs.Ytjifdalflepcoab
open Go.RowKit
set_option linter.unusedVariables false
set_option linter.unusedSimpArgs false

/-- A wood, and a world that is the same; nothing stands beside. -/
def WV (O : Wo) : Prop := ∃ W φ, Rep O W φ ∧ W.regs = [] ∧ W.wait = []

/-- What was led to, so far: boxes of the view and of the flags; the flags. -/
structure LedAt (w : World) (bv bl gl : Nat) (ro no : Option Addr) (r n rc nc : Nat) (led : List Bool) : Prop where
  hv : Blk w bv [.slice ro r rc, .slice no n nc] 72
  hl : Blk w bl [.slice (some ⟨gl, 0, none⟩) n n] 76
  hg : Blk w gl (led.map Value.bool) 4
  ln : led.length = n

theorem LedAt.keep {w w' : World} {bv bl gl : Nat} {ro no : Option Addr} {r n rc nc : Nat} {led : List Bool} (L : LedAt w bv bl gl ro no r n rc nc led) (k : Keeps (fun _ => False) w w') : LedAt w' bv bl gl ro no r n rc nc led :=
  ⟨k.blk L.hv (fun h => h), k.blk L.hl (fun h => h), k.blk L.hg (fun h => h), L.ln⟩

theorem LedAt.set {w : World} {bv bl gl : Nat} {ro no : Option Addr} {r n rc nc : Nat} {led : List Bool} (L : LedAt w bv bl gl ro no r n rc nc led) (k : Nat) : LedAt (w.setCell ⟨gl, k, none⟩ (.bool true)) bv bl gl ro no r n rc nc (led.set k true) := by
  refine ⟨L.hv.setOther (a := ⟨gl, k, none⟩) (L.hv.ne L.hg (by decide)) _, L.hl.setOther (a := ⟨gl, k, none⟩) (L.hl.ne L.hg (by decide)) _, ?_, by simpa using L.ln⟩
  have := L.hg.setSame k (.bool true)
  rw [List.map_set]; exact this

/-- Behind see: what v leads to has its flag. -/
def ledTo (v : Vl) (led : List Bool) : List Bool := if v.1 = 3 then led.set v.2.toNat true else led

theorem ledTo_len (v : Vl) (led : List Bool) : (ledTo v led).length = led.length := by unfold ledTo; split <;> simp

/-- What was led to: by so many roots, nodes, and fields of the next node. -/
def LedIn (V : List Vl × List Nd) (led : List Bool) (a b c : Nat) : Prop :=
  (∀ j, j < a → ∀ i : Nat, V.1[j]? = some (3, (i : Int)) → led[i]? = some true) ∧
  (∀ j, j < b → ∀ n, V.2[j]? = some n → ∀ i : Nat, ((3, (i : Int)) : Vl) ∈ n.2 → led[i]? = some true) ∧
  ∀ n, V.2[b]? = some n → ∀ j, j < c → ∀ i : Nat, n.2[j]? = some (3, (i : Int)) → led[i]? = some true

theorem ledTo_mono {v : Vl} {led : List Bool} {i : Nat} (h : led[i]? = some true) : (ledTo v led)[i]? = some true := by
  unfold ledTo
  split
  · rw [List.getElem?_set]
    split
    · have := (List.getElem?_eq_some_iff.1 h).1
      rename_i e
      rw [if_pos (by omega)]
    · exact h
  · exact h

theorem ledTo_self {led : List Bool} {i : Nat} (h : i < led.length) : (ledTo (3, (i : Int)) led)[i]? = some true := by
  unfold ledTo
  rw [if_pos rfl, List.getElem?_set]
  simp [h]

theorem ledTo_len' (v : Vl) (led : List Bool) : (ledTo v led).length = led.length := by unfold ledTo; split <;> simp

theorem LedIn.start (V : List Vl × List Nd) (led : List Bool) : LedIn V led 0 0 0 := ⟨fun j h => by omega, fun j h => by omega, fun _ _ j h => by omega⟩

theorem LedIn.root {V : List Vl × List Nd} {led : List Bool} {a : Nat} {v : Vl} (h : LedIn V led a 0 0) (hv : V.1[a]? = some v) (hb : v.1 = 3 → 0 ≤ v.2 ∧ v.2 < led.length) : LedIn V (ledTo v led) (a + 1) 0 0 := by
  refine ⟨fun j hj i hi => ?_, fun j hj => by omega, fun _ _ j hj => by omega⟩
  by_cases e : j = a
  · subst e
    rw [hv] at hi
    cases hi
    exact ledTo_self (by have := hb rfl; dsimp only at this; omega)
  · exact ledTo_mono (h.1 j (by omega) i hi)

theorem LedIn.field {V : List Vl × List Nd} {led : List Bool} {a b c : Nat} {n : Nd} {v : Vl} (h : LedIn V led a b c) (hn : V.2[b]? = some n) (hv : n.2[c]? = some v) (hb : v.1 = 3 → 0 ≤ v.2 ∧ v.2 < led.length) : LedIn V (ledTo v led) a b (c + 1) := by
  refine ⟨fun j hj i hi => ledTo_mono (h.1 j hj i hi), fun j hj n hn i hi => ledTo_mono (h.2.1 j hj n hn i hi), fun n' hn' j hj i hi => ?_⟩
  rw [hn] at hn'
  cases hn'
  by_cases e : j = c
  · subst e
    rw [hv] at hi
    cases hi
    exact ledTo_self (by have := hb rfl; dsimp only at this; omega)
  · exact ledTo_mono (h.2.2 n hn j (by omega) i hi)

theorem LedIn.node {V : List Vl × List Nd} {led : List Bool} {a b : Nat} {n : Nd} (hn : V.2[b]? = some n) (h : LedIn V led a b n.2.length) : LedIn V led a (b + 1) 0 := by
  refine ⟨h.1, fun j hj m hm i hi => ?_, fun _ _ j hj => by omega⟩
  by_cases e : j = b
  · subst e
    rw [hn] at hm
    cases hm
    obtain ⟨k, hk, he⟩ := List.mem_iff_getElem.1 hi
    exact h.2.2 n hn k hk i (by rw [List.getElem?_eq_getElem hk, he])
  · exact h.2.1 j (by omega) m hm i hi

/-- A node has its flag when its turn comes. -/
theorem LedIn.flag {W : Wd} (S : Seen W) {led : List Bool} {b : Nat} (h : LedIn W.view led W.view.1.length b 0) (hb : b < W.view.2.length) : led[b]? = some true := by
  rcases S.ledV b hb with h1 | ⟨j, n, hj, hn, hm⟩
  · obtain ⟨k, hk, he⟩ := List.mem_iff_getElem.1 h1
    exact h.1 k hk b (by rw [List.getElem?_eq_getElem hk, he])
  · exact h.2.1 j hj n hn b hm

/-- A root's word, decoded, is a thing's, or what is shown. -/
theorem dec_root {O : Wo} {W : Wd} {φ : Int → Int} (R : Rep O W φ) (S : Seen W) {k : Nat} (hk : k < 12) :
    (∃ y, decW (O.rt.getD k 0) = (3, y, 0)) ∨ (decW (O.rt.getD k 0) = ((W.view.1.getD k (0, 0)).1, (W.view.1.getD k (0, 0)).2, 0) ∧ (W.view.1.getD k (0, 0)).1 ≠ 3) := by
  have h12 := R.hw.hr
  have e : O.rt.getD k 0 = encV φ (W.roots.getD k (0, 0)) := by rw [R.rt]; simp only [List.getD_eq_getElem?_getD, List.getElem?_map]; rw [List.getElem?_eq_getElem (by omega)]; rfl
  have ok : W.okV (W.roots.getD k (0, 0)) := R.hw.rv _ (by rw [List.getD_eq_getElem?_getD, List.getElem?_eq_getElem (by omega)]; exact List.getElem_mem _)
  rw [S.root k (by omega), e]
  generalize W.roots.getD k (0, 0) = v at *
  by_cases h3 : v.1 = 3
  · left
    have hp := R.place (Wd.okV_ref ok h3)
    rw [encV_ref φ h3]
    unfold decW
    rw [if_neg (by omega), if_pos (by omega), if_pos ⟨by omega, by unfold big; omega⟩]
    exact ⟨_, rfl⟩
  · right
    have hn : numV W.met v = v := if_neg h3
    rw [hn]
    obtain ⟨v1, v2⟩ := v
    refine ⟨?_, h3⟩
    rcases ok with h | h | h | h
    · obtain ⟨h1, h2⟩ := h; dsimp only at h1 h2; subst h1; subst h2; rfl
    · obtain ⟨h1, h2, h4⟩ := h; dsimp only at h1 h2 h4; subst h1
      have e : encV φ (1, v2) = 4 * v2 := rfl
      rw [e]
      unfold decW
      rw [if_pos (by omega), if_pos ⟨by unfold big at *; omega, by unfold big at *; omega⟩]
      rw [show 4 * v2 / 4 = v2 by omega]
    · obtain ⟨h1, h2⟩ := h; dsimp only at h1 h2; subst h1; subst h2; rfl
    · exact (h3 h.1).elim

theorem fitsW_code {k f : Int} (h : fitsW k f = true) : (headW k f).2 = 0 := by
  have := fitsW_spec h
  unfold headW
  rw [if_neg (by omega), if_pos h]

theorem ViewR.same {w w' : World} {v : Value} {V : List Vl × List Nd} (h : ViewR w v V) (k : Keeps (fun _ => False) w w') : ViewR w' v V := by
  obtain ⟨ro, rc, nv, F, e, a, b, c⟩ := h
  exact ⟨ro, rc, nv, F, e, a.keep k (fun _ _ _ h => h), b.keep k (fun _ _ _ h => h) (fun _ _ h => h), c⟩

theorem LedAt.make {w : World} {bv nn rc nc : Nat} {ro no : Option Addr} (hv : Blk w bv [.slice ro 12 rc, .slice no nn nc] 72) :
    LedAt ((w.alloc (.cells (Array.replicate nn (.bool false)) 4)).alloc (.cells #[.slice (some ⟨w.heap.size, 0, none⟩) nn nn] 76)) bv (w.heap.size + 1) w.heap.size ro no 12 nn rc nc (List.replicate nn false) := by
  refine ⟨(hv.alloc _).alloc _, Blk.newAt _ (by simp) (by simp), ?_, by simp⟩
  rw [List.map_replicate]
  have : Blk (w.alloc (.cells (Array.replicate nn (.bool false)) 4)) w.heap.size (Array.replicate nn (Value.bool false)).toList 4 := Blk.newAt _ rfl rfl
  simp only [Array.toList_replicate] at this
  exact this.alloc _

theorem wvA (args : Array Value) (w : World) : (callFunc 49 args).run Try.prog w = .ok (.enter 49 args) w := by kernel_rfl

set_option maxHeartbeats 2000000 in
set_option maxRecDepth 100000 in
theorem See_c (v : Vl) (w : World) {bv bl gl : Nat} {ro no : Option Addr} {r n rc nc : Nat} {led : List Bool} (L : LedAt w bv bl gl ro no r n rc nc led) (hv : v.1 = 3 → 0 ≤ v.2 ∧ v.2 < n) (hn : n ≤ 1000000) :
    Calls Try.prog 49 #[.agg #[.int .i64 v.1, .int .i64 v.2], .pointer (some ⟨bv, 0, none⟩), .pointer (some ⟨bl, 0, none⟩)] w fun e w' => e = .returned (.bool true) ∧ LedAt w' bv bl gl ro no r n rc nc (ledTo v led) ∧ Keeps (· = gl) w w' := by
  have HL := Lib.hid L
  obtain ⟨k, x⟩ := v
  dsimp only at hv ⊢
  by_cases h3 : k = 3
  · subst h3
    obtain ⟨h0, h1⟩ := hv rfl
    obtain ⟨xn, rfl⟩ : ∃ xn : Nat, x = xn := ⟨x.toNat, by omega⟩
    have hxn : xn < n := by omega
    have hE := Lib.hid (show ledTo (3, (xn : Int)) led = led.set xn true from rfl)
    have hne : ledTo (3, (xn : Int)) led = led.set xn true := rfl
    rw [hne]
    clear L hv h0 hne
    have c0 := HL.out.hv.cell 1; have c1 := HL.out.hl.cell 0; have l0 := HL.out.hv.lt; have l1 := HL.out.hl.lt; have l2 := HL.out.hg.lt; have f2 := HL.out.hg.free xn
    have c2 : w.cell? ⟨gl, xn, none⟩ = some (.bool (led.getD xn false)) := by
      have := HL.out.hg.cell xn
      rw [List.getElem?_map, List.getElem?_eq_getElem (by rw [HL.out.ln]; exact hxn)] at this
      rw [this, List.getD_eq_getElem?_getD, List.getElem?_eq_getElem (by rw [HL.out.ln]; exact hxn)]; rfl
    simp only [List.getElem?_cons_zero, List.getElem?_cons_succ] at c0 c1
    go_enter Try.func49, Try.ntmps49
    go_wp2_with fail
    go_ret
    have ks := (Keeps.refl (fun b => b = gl) w).setCell (p := ⟨gl, xn, none⟩) (.inl rfl) (.bool true)
    exact ⟨rfl, (HL.out.set xn).keep ((Keeps.refl (fun _ => False) _).alloc _), ks.alloc _⟩
  · have hk : (k == 3) = false := by simpa using h3
    have hE : ledTo (k, x) led = led := if_neg h3
    rw [hE]
    clear hv
    go_enter Try.func49, Try.ntmps49
    go_wp2_with fail
    go_ret
    have wk := (Keeps.refl (fun _ => False) w).alloc (.cells #[.int .i64 k, .int .i64 x] 78)
    exact ⟨rfl, HL.out.keep wk, wk.mono (fun _ _ h => h.elim)⟩

set_option maxHeartbeats 16000000 in
set_option maxRecDepth 100000 in
theorem WoodViews_raw (n o : Int) (lo : Option Addr) (lc m : Nat) (xs : List Int) (w : World) (h0 : Rd w lo (xs.map (Value.int .i64))) (hx : xs.length = m * 5) (hb : ∀ x ∈ xs, R64 x) (hn64 : R64 n) (ho64 : R64 o) :
    Calls Try.prog 5 #[.int .i64 n, .int .i64 o, .slice lo m lc] w fun e w' => e = .returned (.bool true) ∧ Keeps (fun _ => False) w w' := by
  have H0 := Lib.hid h0; have HX := Lib.hid hx; have HBD := Lib.hid hb
  clear h0 hx hb
  go_enter Try.func5, Try.ntmps5
  go_wp2_with fail
  refine (woodBegun_c _).mono ?_
  rintro e w1 ⟨rfl, hk1⟩
  have HK1 := Lib.hid hk1; clear hk1
  by_cases hm : 200 < m
  · go_wp2_with fail
    go_ret
    exact ⟨rfl, HK1.out⟩
  cases hfit : Ar.fits n o
  · go_wp2_with fail
    refine (WNew_no n o _ hfit).mono ?_
    rintro e w2 ⟨rfl, hk2⟩
    go_wp2_with fail
    go_ret
    exact ⟨rfl, (HK1.out.trans hk2).alloc _⟩
  have HFIT := Lib.hid hfit
  go_wp2_with fail
  refine (WNew_yes n o _ hfit).mono ?_
  rintro e w2 ⟨h, rfl, H2, k2, o2⟩
  have hka := (Keeps.refl (fun _ => False) w2).alloc (.cells #[.int .i64 0, .int .i64 0] 26)
  have hM : WM w (w2.alloc (.cells #[.int .i64 0, .int .i64 0] 26)) h.p h (Wo.new n o) := ⟨H2.keep hka (fun _ _ h => h), rfl, (HK1.out.trans k2).trans hka, fun b hb => Nat.le_trans HK1.out.size (o2 b hb)⟩
  have HM := Lib.hid (show ∃ h' O, WM w (w2.alloc (.cells #[.int .i64 0, .int .i64 0] 26)) h.p h' O ∧ WV O from ⟨h, _, hM, _, _, Rep.new HFIT.out, rfl, rfl⟩)
  clear hka hM H2 k2 o2 HK1 HFIT hfit
  go_wp2_with fail
  generalize h.p = p at *
  generalize w2.alloc (.cells #[.int .i64 0, .int .i64 0] 26) = w3 at *
  refine wp_loop_over (fun i => Nat.blt 38 i && Nat.blt i 127 || Nat.blt 8 i && Nat.blt i 16) (fun s wr => ∃ k : Nat, k ≤ m ∧ s 9 = .int .i64 k ∧ ∃ h O, WM w wr p h O ∧ WV O) (fun s _ => m - (intOf (s 9)).toNat) ?_ ?_
  · exact ⟨0, Nat.zero_le _, rfl, HM.out⟩
  · intro u0 wr hrel K hK
    clear HM
    obtain ⟨k, hk, e9, hh, O, hMr, W, φ, hR, hrg, hwt⟩ := hrel
    have e9 : u0 9 = .int .i64 k := e9
    have M := Lib.hid hMr; have R := Lib.hid hR; have RG := Lib.hid hrg; have WT := Lib.hid hwt
    clear hMr hR hrg hwt
    simp only [overA, overL, List.toList_toArray, Nat.blt, Nat.beq, Nat.ble, Nat.reduceAdd, Bool.or_false, Bool.false_or, Bool.or_true, Bool.true_or, Bool.and_true, Bool.true_and, Bool.and_false, Bool.false_and, cond_true, cond_false]
    rw [e9]
    have E9 := Lib.hid e9; clear e9
    by_cases hlt : k < m
    · --<steps
      have hrd := H0.out.keep M.out.K (fun _ _ _ h => h)
      obtain ⟨gs, os, rfl, hgl, d0⟩ := hrd.nth (k * 5) (by rw [HX.out]; omega)
      obtain ⟨_, _, e', _, d1⟩ := hrd.nth (k * 5 + 1) (by rw [HX.out]; omega)
      cases e'
      obtain ⟨_, _, e', _, d2⟩ := hrd.nth (k * 5 + 2) (by rw [HX.out]; omega)
      cases e'
      obtain ⟨_, _, e', _, d3⟩ := hrd.nth (k * 5 + 3) (by rw [HX.out]; omega)
      cases e'
      obtain ⟨_, _, e', _, d4⟩ := hrd.nth (k * 5 + 4) (by rw [HX.out]; omega)
      cases e'
      rw [← Nat.add_assoc] at d1 d2 d3 d4
      have hy : ∀ j, j < 5 → R64 (xs.getD (k * 5 + j) 0) := fun j hj => HBD.out _ (by rw [List.getD_eq_getElem?_getD, List.getElem?_eq_getElem (by rw [HX.out]; omega)]; exact List.getElem_mem _)
      have HY2 := Lib.hid (hy 2 (by decide))
      generalize xs.getD (k * 5) 0 = d at *
      generalize xs.getD (k * 5 + 1) 0 = x at *
      generalize xs.getD (k * 5 + 2) 0 = y at *
      generalize xs.getD (k * 5 + 3) 0 = z at *
      generalize xs.getD (k * 5 + 4) 0 = v at *
      clear hrd hy
      go_upto_region 13 with (refine wpList_agg rfl 61 (.tmp 47) rfl [.int .i64 d, .int .i64 x, .int .i64 y, .int .i64 z, .int .i64 v] (by kernel_rfl) gs (os + k * 5) rfl (rangeAt_cons d0 (rangeAt_cons d1 (rangeAt_cons d2 (rangeAt_cons d3 (rangeAt_cons d4 rangeAt_nil))))) ?_)
      clear d0 d1 d2 d3 d4 hgl
      have hbk := Blk.newAt (w := wr) (b := wr.heap.size) (T := 61) #[.int .i64 d, .int .i64 x, .int .i64 y, .int .i64 z, .int .i64 v] rfl rfl
      have hka := (Keeps.refl (fun _ => False) wr).alloc (.cells #[.int .i64 d, .int .i64 x, .int .i64 y, .int .i64 z, .int .i64 v] 61)
      have hMb := M.out.same hka
      generalize wr.alloc (.cells #[.int .i64 d, .int .i64 x, .int .i64 y, .int .i64 z, .int .i64 v] 61) = wb at *
      generalize wr.heap.size = be at *
      have HB := Lib.hid hbk; have M := Lib.hid hMb
      clear hbk hka hMb
      have b0 := HB.out.cell 0; have b1 := HB.out.cell 1; have b2 := HB.out.cell 2; have b3 := HB.out.cell 3; have bl := HB.out.lt
      simp only [List.getElem?_cons_zero, List.getElem?_cons_succ] at b0 b1 b2 b3
      have hx1 := unS_wrap x; have hz1 := unS_wrap z
      have hx2 := rootN_tmod x; have hz2 := rootN_tmod z; have hx3 := rootN_mod x; have hz3 := rootN_mod z; have hx4 := rootN_wrap x; have hz4 := rootN_wrap z
      refine wp_region_ro (.free 0 (.free 5 (.pure 1 (.free 2 (.free 3 (.free 4 (.free 10 (.pure 6 (.free 7 (.free 8 (.free 9 (.free 11 (.fin))))))))))))) [] (fun w' => w'.cell? ⟨be, 1, none⟩ = some (.int .i64 x) ∧ w'.cell? ⟨be, 3, none⟩ = some (.int .i64 z)) (by kernel_rfl) (by kernel_rfl) ⟨b1, b3⟩ ?_
      first | (refine wpRO_free rfl rfl _ (fun w' => by go_simp; exact Gives.mk _ _) (fun K hK => ?_); go_simp; refine hK _ ?_; clear hK K) | (refine wpRO_skipF rfl rfl (fun K hK => ?_); go_simp; refine hK _ ?_; clear hK K)
      first | (refine wpRO_free rfl rfl _ (fun w' => by go_simp; exact Gives.mk _ _) (fun K hK => ?_); go_simp; refine hK _ ?_; clear hK K) | (refine wpRO_skipF rfl rfl (fun K hK => ?_); go_simp; refine hK _ ?_; clear hK K)
      first | (refine wpRO_pure rfl rfl _ (fun w' hG => by obtain ⟨g0, g1⟩ := hG; exact gives_agg2 rfl (by decide +kernel) rfl (by assumption) (by assumption)) (fun K hK => ?_); go_simp; refine hK _ ?_; clear hK K) | (refine wpRO_pure rfl rfl _ (fun w' hG => by obtain ⟨g0, g1⟩ := hG; go_simp; exact Gives.mk _ _) (fun K hK => ?_); go_simp; refine hK _ ?_; clear hK K) | (refine wpRO_skip rfl rfl (fun K hK => ?_); go_simp; refine hK _ ?_; clear hK K)
      first | (refine wpRO_free rfl rfl _ (fun w' => by go_simp; exact Gives.mk _ _) (fun K hK => ?_); go_simp; refine hK _ ?_; clear hK K) | (refine wpRO_skipF rfl rfl (fun K hK => ?_); go_simp; refine hK _ ?_; clear hK K)
      first | (refine wpRO_free rfl rfl _ (fun w' => by go_simp; exact Gives.mk _ _) (fun K hK => ?_); go_simp; refine hK _ ?_; clear hK K) | (refine wpRO_skipF rfl rfl (fun K hK => ?_); go_simp; refine hK _ ?_; clear hK K)
      first | (refine wpRO_free rfl rfl _ (fun w' => by go_simp; exact Gives.mk _ _) (fun K hK => ?_); go_simp; refine hK _ ?_; clear hK K) | (refine wpRO_skipF rfl rfl (fun K hK => ?_); go_simp; refine hK _ ?_; clear hK K)
      first | (refine wpRO_free rfl rfl _ (fun w' => by go_simp; exact Gives.mk _ _) (fun K hK => ?_); go_simp; refine hK _ ?_; clear hK K) | (refine wpRO_skipF rfl rfl (fun K hK => ?_); go_simp; refine hK _ ?_; clear hK K)
      first | (refine wpRO_pure rfl rfl _ (fun w' hG => by obtain ⟨g0, g1⟩ := hG; exact gives_agg2 rfl (by decide +kernel) rfl (by assumption) (by assumption)) (fun K hK => ?_); go_simp; refine hK _ ?_; clear hK K) | (refine wpRO_pure rfl rfl _ (fun w' hG => by obtain ⟨g0, g1⟩ := hG; go_simp; exact Gives.mk _ _) (fun K hK => ?_); go_simp; refine hK _ ?_; clear hK K) | (refine wpRO_skip rfl rfl (fun K hK => ?_); go_simp; refine hK _ ?_; clear hK K)
      first | (refine wpRO_free rfl rfl _ (fun w' => by go_simp; exact Gives.mk _ _) (fun K hK => ?_); go_simp; refine hK _ ?_; clear hK K) | (refine wpRO_skipF rfl rfl (fun K hK => ?_); go_simp; refine hK _ ?_; clear hK K)
      first | (refine wpRO_free rfl rfl _ (fun w' => by go_simp; exact Gives.mk _ _) (fun K hK => ?_); go_simp; refine hK _ ?_; clear hK K) | (refine wpRO_skipF rfl rfl (fun K hK => ?_); go_simp; refine hK _ ?_; clear hK K)
      first | (refine wpRO_free rfl rfl _ (fun w' => by go_simp; exact Gives.mk _ _) (fun K hK => ?_); go_simp; refine hK _ ?_; clear hK K) | (refine wpRO_skipF rfl rfl (fun K hK => ?_); go_simp; refine hK _ ?_; clear hK K)
      first | (refine wpRO_free rfl rfl _ (fun w' => by go_simp; exact Gives.mk _ _) (fun K hK => ?_); go_simp; refine hK _ ?_; clear hK K) | (refine wpRO_skipF rfl rfl (fun K hK => ?_); go_simp; refine hK _ ?_; clear hK K)
      refine wpRO_fin ?_
      clear hx1 hz1 hx2 hz2 hx3 hz3 hx4 hz4 b0 b1 b2 b3 bl
      have HBd := Lib.hid HB.out.drew
      have Md := Lib.hid (M.out.same ((Keeps.refl (fun _ => False) wb).drew))
      generalize wb.drew = wd at *
      clear HB M
      have HB := HBd; have M := Md
      clear HBd Md
      have b0 := HB.out.cell 0; have b1 := HB.out.cell 1; have b2 := HB.out.cell 2; have b3 := HB.out.cell 3; have bl := HB.out.lt
      simp only [List.getElem?_cons_zero, List.getElem?_cons_succ] at b0 b1 b2 b3
      have hrl := rootN_lt x; have hcl := rootN_lt z
      generalize rootN x = a at *
      generalize rootN z = c at *
      have haI : (a : Int) < 12 := by omega
      have hcI : (c : Int) < 12 := by omega
      obtain ⟨g, og, cap, hro, hown, hgl, c3, fz, rc⟩ := M.out.H.roots
      have h12 := M.out.H.ok.h12
      rw [h12] at hro c3 rc
      have HRO := Lib.hid hro
      have FZ := Lib.hid fz; have RC := Lib.hid rc
      have pe := M.out.e
      rw [pe] at c3
      have pl : p < wd.heap.size := by rw [← pe]; exact M.out.H.hp.lt
      have ptr := M.out.H.ptrs.1
      rw [pe] at ptr
      have hRr := R.out.rt
      have hw12 := R.out.hw.hr
      have cR : O.rt.getD c 0 = encV φ (W.roots.getD c (0, 0)) := by rw [hRr]; simp only [List.getD_eq_getElem?_getD, List.getElem?_map]; rw [List.getElem?_eq_getElem (by omega)]; rfl
      have aR : O.rt.getD a 0 = encV φ (W.roots.getD a (0, 0)) := by rw [hRr]; simp only [List.getD_eq_getElem?_getD, List.getElem?_map]; rw [List.getElem?_eq_getElem (by omega)]; rfl
      have okc : W.okV (W.roots.getD c (0, 0)) := R.out.hw.rv _ (by rw [List.getD_eq_getElem?_getD, List.getElem?_eq_getElem (by omega)]; exact List.getElem_mem _)
      have oka : W.okV (W.roots.getD a (0, 0)) := R.out.hw.rv _ (by rw [List.getD_eq_getElem?_getD, List.getElem?_eq_getElem (by omega)]; exact List.getElem_mem _)
      have CR := Lib.hid cR; have AR := Lib.hid aR; have OKC := Lib.hid okc; have OKA := Lib.hid oka
      have ra := rc a hrl; have rcc := rc c hcl; have fzc := fz (og + c)
      clear hro fz rc hRr hw12 cR aR okc oka
      have MD := Lib.hid (M.out.same ((Keeps.refl (fun _ => False) wd).drew))
      by_cases hd0 : d = 0
      · as_aux_lemma =>
        subst hd0
        go_wp2_with fail
        refine wp_region_ro (.free 0 (.free 1 (.free 2 (.free 4 (.free 6 (.pure 3 (.pure 5 (.pure 7 (.run 8 (.swi [] (.free 9 (.fin)))))))))))) [8, 9] (fun w' => w'.cell? ⟨p, 0, none⟩ = some (.pointer (some ⟨hh.pa, 0, none⟩)) ∧ w'.cell? ⟨be, 1, none⟩ = some (.int .i64 x) ∧ w'.cell? ⟨be, 2, none⟩ = some (.int .i64 y)) (by kernel_rfl) (by kernel_rfl) ⟨ptr, b1, b2⟩ ?_
        first | (refine wpRO_free rfl rfl _ (fun w' => by go_simp; exact Gives.mk _ _) (fun K hK => ?_); go_simp; refine hK _ ?_; clear hK K) | (refine wpRO_skipF rfl rfl (fun K hK => ?_); go_simp; refine hK _ ?_; clear hK K)
        first | (refine wpRO_free rfl rfl _ (fun w' => by go_simp; exact Gives.mk _ _) (fun K hK => ?_); go_simp; refine hK _ ?_; clear hK K) | (refine wpRO_skipF rfl rfl (fun K hK => ?_); go_simp; refine hK _ ?_; clear hK K)
        first | (refine wpRO_free rfl rfl _ (fun w' => by go_simp; exact Gives.mk _ _) (fun K hK => ?_); go_simp; refine hK _ ?_; clear hK K) | (refine wpRO_skipF rfl rfl (fun K hK => ?_); go_simp; refine hK _ ?_; clear hK K)
        first | (refine wpRO_free rfl rfl _ (fun w' => by go_simp; exact Gives.mk _ _) (fun K hK => ?_); go_simp; refine hK _ ?_; clear hK K) | (refine wpRO_skipF rfl rfl (fun K hK => ?_); go_simp; refine hK _ ?_; clear hK K)
        first | (refine wpRO_free rfl rfl _ (fun w' => by go_simp; exact Gives.mk _ _) (fun K hK => ?_); go_simp; refine hK _ ?_; clear hK K) | (refine wpRO_skipF rfl rfl (fun K hK => ?_); go_simp; refine hK _ ?_; clear hK K)
        first | (refine wpRO_pure rfl rfl _ (fun w' hG => by obtain ⟨g0, g1, g2⟩ := hG; exact gives_agg2 rfl (by decide +kernel) rfl (by assumption) (by assumption)) (fun K hK => ?_); go_simp; refine hK _ ?_; clear hK K) | (refine wpRO_pure rfl rfl _ (fun w' hG => by obtain ⟨g0, g1, g2⟩ := hG; go_simp; exact Gives.mk _ _) (fun K hK => ?_); go_simp; refine hK _ ?_; clear hK K) | (refine wpRO_skip rfl rfl (fun K hK => ?_); go_simp; refine hK _ ?_; clear hK K)
        first | (refine wpRO_pure rfl rfl _ (fun w' hG => by obtain ⟨g0, g1, g2⟩ := hG; exact gives_agg2 rfl (by decide +kernel) rfl (by assumption) (by assumption)) (fun K hK => ?_); go_simp; refine hK _ ?_; clear hK K) | (refine wpRO_pure rfl rfl _ (fun w' hG => by obtain ⟨g0, g1, g2⟩ := hG; go_simp; exact Gives.mk _ _) (fun K hK => ?_); go_simp; refine hK _ ?_; clear hK K) | (refine wpRO_skip rfl rfl (fun K hK => ?_); go_simp; refine hK _ ?_; clear hK K)
        first | (refine wpRO_pure rfl rfl _ (fun w' hG => by obtain ⟨g0, g1, g2⟩ := hG; exact gives_agg2 rfl (by decide +kernel) rfl (by assumption) (by assumption)) (fun K hK => ?_); go_simp; refine hK _ ?_; clear hK K) | (refine wpRO_pure rfl rfl _ (fun w' hG => by obtain ⟨g0, g1, g2⟩ := hG; go_simp; exact Gives.mk _ _) (fun K hK => ?_); go_simp; refine hK _ ?_; clear hK K) | (refine wpRO_skip rfl rfl (fun K hK => ?_); go_simp; refine hK _ ?_; clear hK K)
        refine wpRO_chg rfl rfl rfl (fun K hK => ?_); unfold gRun; go_simp
        refine (Make_c x y _ MD.out.H.ha HY2.out).mono ?_
        rintro e w5 ⟨rfl, ht⟩
        refine hK _ _ ?_
        clear hK K
        refine wpRO_swi (fun _ => True) trivial ?_
        first | (refine wpRO_free rfl rfl _ (fun w' => by go_simp; exact Gives.mk _ _) (fun K hK => ?_); go_simp; refine hK _ ?_; clear hK K) | (refine wpRO_skipF rfl rfl (fun K hK => ?_); go_simp; refine hK _ ?_; clear hK K)
        refine wpRO_fin ?_
        obtain ⟨h5, hM5⟩ := MD.out.to (MD.out.H.arenaTo ht Ar.make_nur)
        have M5 := Lib.hid hM5
        clear ht hM5 b0 b1 b2 b3 bl c3 ra rcc fzc pl ptr hgl hown
        have p5 := M5.out.e
        by_cases hc : fitsW x y = true ∧ 1 + y ≤ (O.ar.nur : Int) - O.ar.yng
        · have hE : (O.ar.make x y).1 = (O.ar.yng : Int) := by rw [Ar.make_yes hc]
          have hy1 := R.out.ho.ha.h1; have hy2 := R.out.ho.ha.h2; have hy3 := R.out.ho.ha.h3; have hy4 := R.out.ho.ha.h4
          rw [hE]
          obtain ⟨g5, o5, cap5, hro5, -, hgl5, c5, fz5, rc5⟩ := M5.out.H.roots
          have h12 : O.rt.length = 12 := R.out.ho.h12
          have hrc5 := rc5 c (by rw [h12]; exact hcl)
          have hf5 := fz5 (o5 + c)
          rw [p5] at c5
          have pl : p < w5.heap.size := by rw [← p5]; exact M5.out.H.hp.lt
          have HRO5 := Lib.hid hro5
          clear hro5 rc5 fz5
          simp only [h12] at c5
          go_wp2_with fail
          refine wp_region_ro (.free 0 (.free 1 (.free 2 (.free 4 (.free 5 (.pure 3 (.run 6 (.free 7 (.run 8 (.swi [] (.fin))))))))))) [8] (fun w' => w'.cell? ⟨p, 3, none⟩ = some (.slice (some ⟨g5, o5, none⟩) 12 cap5)) (by kernel_rfl) (by kernel_rfl) c5 ?_
          first | (refine wpRO_free rfl rfl _ (fun w' => by go_simp; exact Gives.mk _ _) (fun K hK => ?_); go_simp; refine hK _ ?_; clear hK K) | (refine wpRO_skipF rfl rfl (fun K hK => ?_); go_simp; refine hK _ ?_; clear hK K)
          first | (refine wpRO_free rfl rfl _ (fun w' => by go_simp; exact Gives.mk _ _) (fun K hK => ?_); go_simp; refine hK _ ?_; clear hK K) | (refine wpRO_skipF rfl rfl (fun K hK => ?_); go_simp; refine hK _ ?_; clear hK K)
          first | (refine wpRO_free rfl rfl _ (fun w' => by go_simp; exact Gives.mk _ _) (fun K hK => ?_); go_simp; refine hK _ ?_; clear hK K) | (refine wpRO_skipF rfl rfl (fun K hK => ?_); go_simp; refine hK _ ?_; clear hK K)
          first | (refine wpRO_free rfl rfl _ (fun w' => by go_simp; exact Gives.mk _ _) (fun K hK => ?_); go_simp; refine hK _ ?_; clear hK K) | (refine wpRO_skipF rfl rfl (fun K hK => ?_); go_simp; refine hK _ ?_; clear hK K)
          first | (refine wpRO_free rfl rfl _ (fun w' => by go_simp; exact Gives.mk _ _) (fun K hK => ?_); go_simp; refine hK _ ?_; clear hK K) | (refine wpRO_skipF rfl rfl (fun K hK => ?_); go_simp; refine hK _ ?_; clear hK K)
          first | (refine wpRO_pure rfl rfl _ (fun w' hG => by obtain g0 := hG; exact gives_agg2 rfl (by decide +kernel) rfl (by assumption) (by assumption)) (fun K hK => ?_); go_simp; refine hK _ ?_; clear hK K) | (refine wpRO_pure rfl rfl _ (fun w' hG => by obtain g0 := hG; go_simp; exact Gives.mk _ _) (fun K hK => ?_); go_simp; refine hK _ ?_; clear hK K) | (refine wpRO_skip rfl rfl (fun K hK => ?_); go_simp; refine hK _ ?_; clear hK K)
          refine wpRO_run rfl rfl (fun K hK => ?_); unfold gRun; go_simp
          refine (Ref_c (O.ar.yng : Int) _ (by omega) (by omega)).mono ?_
          rintro e w6 ⟨rfl, rfl⟩
          refine hK _ _ (fun _ => c5) ?_
          clear hK K
          first | (refine wpRO_free rfl rfl _ (fun w' => by go_simp; exact Gives.mk _ _) (fun K hK => ?_); go_simp; refine hK _ ?_; clear hK K) | (refine wpRO_skipF rfl rfl (fun K hK => ?_); go_simp; refine hK _ ?_; clear hK K)
          refine wpRO_chg rfl rfl rfl (fun K hK => ?_); unfold gRun; go_simp
          refine hK _ _ ?_
          clear hK K
          refine wpRO_swi (fun _ => True) trivial (wpRO_fin ?_)
          obtain ⟨h6, hM6⟩ := M5.out.to (WoodTo.setRoot (k := c) (x := 4 * O.ar.yng + 1) M5.out.H HRO5.out (by show c < O.rt.length; rw [h12]; exact hcl) (by unfold R64; omega))
          have M6 := Lib.hid (hM6.same ((Keeps.refl (fun _ => False) _).drew))
          have RF := Lib.hid (R.out.fresh (r := (c : Int)) hc)
          clear hM6 hrc5 hf5 c5 hgl5 hy1 hy2 hy3 hy4 hc
          go_wp2_with fail
          refine ⟨⟨by kernel_rfl, ?rel⟩, ?measure⟩
          case rel => exact ⟨k + 1, hlt, by go_num, h6, _, M6.out, _, _, RF.out, RG.out, WT.out⟩
          case measure => exact meas_lt (by go_num) (by first | rfl | exact E9.out) hlt
        · have hE := Ar.make_no hc
          rw [hE] at M5 ⊢
          go_wp2_with fail
          refine ⟨⟨by kernel_rfl, ?rel⟩, ?measure⟩
          case rel => exact ⟨k + 1, hlt, by go_num, h5, _, M5.out, _, _, R.out, RG.out, WT.out⟩
          case measure => exact meas_lt (by go_num) (by first | rfl | exact E9.out) hlt
      by_cases hd2 : d = 2
      · as_aux_lemma =>
        subst hd2
        clear hd0
        have hRc : R64 (O.rt.getD c 0) := by rw [CR.out]; exact encV_R64 R.out OKC.out
        have hset := WSet_c (O.rt.getD a 0) y (O.rt.getD c 0) MD.out.H hRc
        rw [pe] at hset
        have HSET := Lib.hid hset
        clear hset hRc
        generalize hva : O.rt.getD a 0 = va at *
        generalize hvc : O.rt.getD c 0 = vc at *
        go_wp2_with fail
        refine wp_region_ro (.free 0 (.free 1 (.free 2 (.free 3 (.free 5 (.free 8 (.free 10 (.free 11 (.free 12 (.free 14 (.pure 4 (.free 6 (.pure 7 (.pure 9 (.pure 13 (.free 15 (.pure 16 (.run 17 (.swi [] (.fin)))))))))))))))))))) [17] (fun w' => w'.cell? ⟨p, 3, none⟩ = some (.slice (some ⟨g, og, none⟩) 12 cap) ∧ w'.cell? ⟨g, og + a, none⟩ = some (.int .i64 va) ∧ w'.cell? ⟨g, og + c, none⟩ = some (.int .i64 vc) ∧ w'.cell? ⟨be, 2, none⟩ = some (.int .i64 y)) (by kernel_rfl) (by kernel_rfl) ⟨c3, ra, rcc, b2⟩ ?_
        first | (refine wpRO_free rfl rfl _ (fun w' => by go_simp; exact Gives.mk _ _) (fun K hK => ?_); go_simp; refine hK _ ?_; clear hK K) | (refine wpRO_skipF rfl rfl (fun K hK => ?_); go_simp; refine hK _ ?_; clear hK K)
        first | (refine wpRO_free rfl rfl _ (fun w' => by go_simp; exact Gives.mk _ _) (fun K hK => ?_); go_simp; refine hK _ ?_; clear hK K) | (refine wpRO_skipF rfl rfl (fun K hK => ?_); go_simp; refine hK _ ?_; clear hK K)
        first | (refine wpRO_free rfl rfl _ (fun w' => by go_simp; exact Gives.mk _ _) (fun K hK => ?_); go_simp; refine hK _ ?_; clear hK K) | (refine wpRO_skipF rfl rfl (fun K hK => ?_); go_simp; refine hK _ ?_; clear hK K)
        first | (refine wpRO_free rfl rfl _ (fun w' => by go_simp; exact Gives.mk _ _) (fun K hK => ?_); go_simp; refine hK _ ?_; clear hK K) | (refine wpRO_skipF rfl rfl (fun K hK => ?_); go_simp; refine hK _ ?_; clear hK K)
        first | (refine wpRO_free rfl rfl _ (fun w' => by go_simp; exact Gives.mk _ _) (fun K hK => ?_); go_simp; refine hK _ ?_; clear hK K) | (refine wpRO_skipF rfl rfl (fun K hK => ?_); go_simp; refine hK _ ?_; clear hK K)
        first | (refine wpRO_free rfl rfl _ (fun w' => by go_simp; exact Gives.mk _ _) (fun K hK => ?_); go_simp; refine hK _ ?_; clear hK K) | (refine wpRO_skipF rfl rfl (fun K hK => ?_); go_simp; refine hK _ ?_; clear hK K)
        first | (refine wpRO_free rfl rfl _ (fun w' => by go_simp; exact Gives.mk _ _) (fun K hK => ?_); go_simp; refine hK _ ?_; clear hK K) | (refine wpRO_skipF rfl rfl (fun K hK => ?_); go_simp; refine hK _ ?_; clear hK K)
        first | (refine wpRO_free rfl rfl _ (fun w' => by go_simp; exact Gives.mk _ _) (fun K hK => ?_); go_simp; refine hK _ ?_; clear hK K) | (refine wpRO_skipF rfl rfl (fun K hK => ?_); go_simp; refine hK _ ?_; clear hK K)
        first | (refine wpRO_free rfl rfl _ (fun w' => by go_simp; exact Gives.mk _ _) (fun K hK => ?_); go_simp; refine hK _ ?_; clear hK K) | (refine wpRO_skipF rfl rfl (fun K hK => ?_); go_simp; refine hK _ ?_; clear hK K)
        first | (refine wpRO_free rfl rfl _ (fun w' => by go_simp; exact Gives.mk _ _) (fun K hK => ?_); go_simp; refine hK _ ?_; clear hK K) | (refine wpRO_skipF rfl rfl (fun K hK => ?_); go_simp; refine hK _ ?_; clear hK K)
        first | (refine wpRO_pure rfl rfl _ (fun w' hG => by obtain ⟨g0, g1, g2, g3⟩ := hG; exact gives_agg2 rfl (by decide +kernel) rfl (by assumption) (by assumption)) (fun K hK => ?_); go_simp; refine hK _ ?_; clear hK K) | (refine wpRO_pure rfl rfl _ (fun w' hG => by obtain ⟨g0, g1, g2, g3⟩ := hG; go_simp; exact Gives.mk _ _) (fun K hK => ?_); go_simp; refine hK _ ?_; clear hK K) | (refine wpRO_skip rfl rfl (fun K hK => ?_); go_simp; refine hK _ ?_; clear hK K)
        first | (refine wpRO_free rfl rfl _ (fun w' => by go_simp; exact Gives.mk _ _) (fun K hK => ?_); go_simp; refine hK _ ?_; clear hK K) | (refine wpRO_skipF rfl rfl (fun K hK => ?_); go_simp; refine hK _ ?_; clear hK K)
        first | (refine wpRO_pure rfl rfl _ (fun w' hG => by obtain ⟨g0, g1, g2, g3⟩ := hG; exact gives_agg2 rfl (by decide +kernel) rfl (by assumption) (by assumption)) (fun K hK => ?_); go_simp; refine hK _ ?_; clear hK K) | (refine wpRO_pure rfl rfl _ (fun w' hG => by obtain ⟨g0, g1, g2, g3⟩ := hG; go_simp; exact Gives.mk _ _) (fun K hK => ?_); go_simp; refine hK _ ?_; clear hK K) | (refine wpRO_skip rfl rfl (fun K hK => ?_); go_simp; refine hK _ ?_; clear hK K)
        first | (refine wpRO_pure rfl rfl _ (fun w' hG => by obtain ⟨g0, g1, g2, g3⟩ := hG; exact gives_agg2 rfl (by decide +kernel) rfl (by assumption) (by assumption)) (fun K hK => ?_); go_simp; refine hK _ ?_; clear hK K) | (refine wpRO_pure rfl rfl _ (fun w' hG => by obtain ⟨g0, g1, g2, g3⟩ := hG; go_simp; exact Gives.mk _ _) (fun K hK => ?_); go_simp; refine hK _ ?_; clear hK K) | (refine wpRO_skip rfl rfl (fun K hK => ?_); go_simp; refine hK _ ?_; clear hK K)
        first | (refine wpRO_pure rfl rfl _ (fun w' hG => by obtain ⟨g0, g1, g2, g3⟩ := hG; exact gives_agg2 rfl (by decide +kernel) rfl (by assumption) (by assumption)) (fun K hK => ?_); go_simp; refine hK _ ?_; clear hK K) | (refine wpRO_pure rfl rfl _ (fun w' hG => by obtain ⟨g0, g1, g2, g3⟩ := hG; go_simp; exact Gives.mk _ _) (fun K hK => ?_); go_simp; refine hK _ ?_; clear hK K) | (refine wpRO_skip rfl rfl (fun K hK => ?_); go_simp; refine hK _ ?_; clear hK K)
        first | (refine wpRO_free rfl rfl _ (fun w' => by go_simp; exact Gives.mk _ _) (fun K hK => ?_); go_simp; refine hK _ ?_; clear hK K) | (refine wpRO_skipF rfl rfl (fun K hK => ?_); go_simp; refine hK _ ?_; clear hK K)
        first | (refine wpRO_pure rfl rfl _ (fun w' hG => by obtain ⟨g0, g1, g2, g3⟩ := hG; exact gives_agg2 rfl (by decide +kernel) rfl (by assumption) (by assumption)) (fun K hK => ?_); go_simp; refine hK _ ?_; clear hK K) | (refine wpRO_pure rfl rfl _ (fun w' hG => by obtain ⟨g0, g1, g2, g3⟩ := hG; go_simp; exact Gives.mk _ _) (fun K hK => ?_); go_simp; refine hK _ ?_; clear hK K) | (refine wpRO_skip rfl rfl (fun K hK => ?_); go_simp; refine hK _ ?_; clear hK K)
        refine wpRO_chg rfl rfl rfl (fun K hK => ?_); unfold gRun; go_simp
        refine HSET.out.mono ?_
        rintro e w5 ⟨rfl, ht⟩
        refine hK _ _ ?_
        clear hK K
        refine wpRO_swi (fun _ => True) trivial (wpRO_fin ?_)
        obtain ⟨h5, hM5⟩ := MD.out.to ht
        have M5 := Lib.hid hM5
        obtain ⟨r1, r2, r3⟩ := R.out.set OKA.out OKC.out y
        rw [← AR.out, ← CR.out] at r2 r3
        have HW5 : Hid (WV (O.set va y vc).2) := by
          by_cases hz : (O.set va y vc).1 = 0
          · exact ⟨_, _, r3 hz, RG.out, WT.out⟩
          · rw [show Hid (WV (O.set va y vc).2) = Hid (WV O) by rw [r2 hz]]; exact ⟨W, φ, R.out, RG.out, WT.out⟩
        clear ht hM5 b0 b1 b2 b3 bl c3 ra rcc fzc pl ptr hgl hown r1 r2 r3 HSET
        go_wp2_with fail
        refine ⟨⟨by kernel_rfl, ?rel⟩, ?measure⟩
        case rel => exact ⟨k + 1, hlt, by go_num, h5, _, M5.out, HW5.out⟩
        case measure => exact meas_lt (by go_num) (by first | rfl | exact E9.out) hlt
      by_cases hd3 : d = 3
      · as_aux_lemma =>
        subst hd3
        clear hd0 hd2
        have hget := Get_c (O.rt.getD a 0) y MD.out.H
        rw [pe] at hget
        have HGET := Lib.hid hget
        have hgv := R.out.get OKA.out y
        rw [← AR.out] at hgv
        clear hget
        generalize hva : O.rt.getD a 0 = va at *
        obtain ⟨⟨gv, gc⟩, hgg⟩ : ∃ q, O.ar.get va y = q := ⟨_, rfl⟩
        rw [hgg] at hgv HGET
        dsimp only at HGET
        have hok : gc = 0 → ∃ u, W.okV u ∧ gv = encV φ u := by
          intro hz
          by_cases c1 : (W.roots.getD a (0, 0)).1 ≠ 3 ∨ (W.th (W.roots.getD a (0, 0)).2).k = 5
          · rw [if_pos c1] at hgv
            injection hgv with e1 e2
            omega
          · rw [if_neg c1] at hgv
            by_cases c2 : y < 0 ∨ ((W.th (W.roots.getD a (0, 0)).2).fs.length : Int) ≤ y
            · rw [if_pos c2] at hgv
              injection hgv with e1 e2
              omega
            · rw [if_neg c2] at hgv
              injection hgv with e1 e2
              have h3 : (W.roots.getD a (0, 0)).1 = 3 := Decidable.byContradiction fun h => c1 (.inl h)
              have hlen : y.toNat < (W.th (W.roots.getD a (0, 0)).2).fs.length := by omega
              refine ⟨_, R.out.hw.tv _ (Wd.okV_ref OKA.out h3) _ ?_, e1⟩
              have mem : ∀ (l : List Vl), y.toNat < l.length → l.getD y.toNat (0, 0) ∈ l := fun l hl => by
                rw [List.getD_eq_getElem?_getD, List.getElem?_eq_getElem hl]; exact List.getElem_mem _
              exact mem _ hlen
        have HOKG := Lib.hid hok
        clear hok hgv hgg
        go_wp2_with fail
        refine wp_region_ro (.free 0 (.free 1 (.free 2 (.free 3 (.free 5 (.free 8 (.pure 4 (.free 6 (.pure 7 (.pure 9 (.run 10 (.swi [] (.free 11 (.free 12 (.free 13 (.free 14 (.free 15 (.fin)))))))))))))))))) [10, 11, 12, 13, 14, 15] (fun w' => w'.cell? ⟨p, 3, none⟩ = some (.slice (some ⟨g, og, none⟩) 12 cap) ∧ w'.cell? ⟨g, og + a, none⟩ = some (.int .i64 va) ∧ w'.cell? ⟨be, 2, none⟩ = some (.int .i64 y)) (by kernel_rfl) (by kernel_rfl) ⟨c3, ra, b2⟩ ?_
        first | (refine wpRO_free rfl rfl _ (fun w' => by go_simp; exact Gives.mk _ _) (fun K hK => ?_); go_simp; refine hK _ ?_; clear hK K) | (refine wpRO_skipF rfl rfl (fun K hK => ?_); go_simp; refine hK _ ?_; clear hK K)
        first | (refine wpRO_free rfl rfl _ (fun w' => by go_simp; exact Gives.mk _ _) (fun K hK => ?_); go_simp; refine hK _ ?_; clear hK K) | (refine wpRO_skipF rfl rfl (fun K hK => ?_); go_simp; refine hK _ ?_; clear hK K)
        first | (refine wpRO_free rfl rfl _ (fun w' => by go_simp; exact Gives.mk _ _) (fun K hK => ?_); go_simp; refine hK _ ?_; clear hK K) | (refine wpRO_skipF rfl rfl (fun K hK => ?_); go_simp; refine hK _ ?_; clear hK K)
        first | (refine wpRO_free rfl rfl _ (fun w' => by go_simp; exact Gives.mk _ _) (fun K hK => ?_); go_simp; refine hK _ ?_; clear hK K) | (refine wpRO_skipF rfl rfl (fun K hK => ?_); go_simp; refine hK _ ?_; clear hK K)
        first | (refine wpRO_free rfl rfl _ (fun w' => by go_simp; exact Gives.mk _ _) (fun K hK => ?_); go_simp; refine hK _ ?_; clear hK K) | (refine wpRO_skipF rfl rfl (fun K hK => ?_); go_simp; refine hK _ ?_; clear hK K)
        first | (refine wpRO_free rfl rfl _ (fun w' => by go_simp; exact Gives.mk _ _) (fun K hK => ?_); go_simp; refine hK _ ?_; clear hK K) | (refine wpRO_skipF rfl rfl (fun K hK => ?_); go_simp; refine hK _ ?_; clear hK K)
        first | (refine wpRO_pure rfl rfl _ (fun w' hG => by obtain ⟨g0, g1, g2⟩ := hG; exact gives_agg2 rfl (by decide +kernel) rfl (by assumption) (by assumption)) (fun K hK => ?_); go_simp; refine hK _ ?_; clear hK K) | (refine wpRO_pure rfl rfl _ (fun w' hG => by obtain ⟨g0, g1, g2⟩ := hG; go_simp; exact Gives.mk _ _) (fun K hK => ?_); go_simp; refine hK _ ?_; clear hK K) | (refine wpRO_skip rfl rfl (fun K hK => ?_); go_simp; refine hK _ ?_; clear hK K)
        first | (refine wpRO_free rfl rfl _ (fun w' => by go_simp; exact Gives.mk _ _) (fun K hK => ?_); go_simp; refine hK _ ?_; clear hK K) | (refine wpRO_skipF rfl rfl (fun K hK => ?_); go_simp; refine hK _ ?_; clear hK K)
        first | (refine wpRO_pure rfl rfl _ (fun w' hG => by obtain ⟨g0, g1, g2⟩ := hG; exact gives_agg2 rfl (by decide +kernel) rfl (by assumption) (by assumption)) (fun K hK => ?_); go_simp; refine hK _ ?_; clear hK K) | (refine wpRO_pure rfl rfl _ (fun w' hG => by obtain ⟨g0, g1, g2⟩ := hG; go_simp; exact Gives.mk _ _) (fun K hK => ?_); go_simp; refine hK _ ?_; clear hK K) | (refine wpRO_skip rfl rfl (fun K hK => ?_); go_simp; refine hK _ ?_; clear hK K)
        first | (refine wpRO_pure rfl rfl _ (fun w' hG => by obtain ⟨g0, g1, g2⟩ := hG; exact gives_agg2 rfl (by decide +kernel) rfl (by assumption) (by assumption)) (fun K hK => ?_); go_simp; refine hK _ ?_; clear hK K) | (refine wpRO_pure rfl rfl _ (fun w' hG => by obtain ⟨g0, g1, g2⟩ := hG; go_simp; exact Gives.mk _ _) (fun K hK => ?_); go_simp; refine hK _ ?_; clear hK K) | (refine wpRO_skip rfl rfl (fun K hK => ?_); go_simp; refine hK _ ?_; clear hK K)
        refine wpRO_chg rfl rfl rfl (fun K hK => ?_); unfold gRun; go_simp
        refine HGET.out.mono ?_
        rintro e w5 ⟨rfl, rfl⟩
        refine hK _ _ ?_
        clear hK K
        refine wpRO_swi (fun _ => True) trivial ?_
        first | (refine wpRO_free rfl rfl _ (fun w' => by go_simp; exact Gives.mk _ _) (fun K hK => ?_); go_simp; refine hK _ ?_; clear hK K) | (refine wpRO_skipF rfl rfl (fun K hK => ?_); go_simp; refine hK _ ?_; clear hK K)
        first | (refine wpRO_free rfl rfl _ (fun w' => by go_simp; exact Gives.mk _ _) (fun K hK => ?_); go_simp; refine hK _ ?_; clear hK K) | (refine wpRO_skipF rfl rfl (fun K hK => ?_); go_simp; refine hK _ ?_; clear hK K)
        first | (refine wpRO_free rfl rfl _ (fun w' => by go_simp; exact Gives.mk _ _) (fun K hK => ?_); go_simp; refine hK _ ?_; clear hK K) | (refine wpRO_skipF rfl rfl (fun K hK => ?_); go_simp; refine hK _ ?_; clear hK K)
        first | (refine wpRO_free rfl rfl _ (fun w' => by go_simp; exact Gives.mk _ _) (fun K hK => ?_); go_simp; refine hK _ ?_; clear hK K) | (refine wpRO_skipF rfl rfl (fun K hK => ?_); go_simp; refine hK _ ?_; clear hK K)
        first | (refine wpRO_free rfl rfl _ (fun w' => by go_simp; exact Gives.mk _ _) (fun K hK => ?_); go_simp; refine hK _ ?_; clear hK K) | (refine wpRO_skipF rfl rfl (fun K hK => ?_); go_simp; refine hK _ ?_; clear hK K)
        refine wpRO_fin ?_
        by_cases hz : gc = 0
        · obtain ⟨u, hu, rfl⟩ := HOKG.out hz
          subst hz
          have hR64 := encV_R64 R.out hu
          obtain ⟨h6, hM6⟩ := M.out.to (WoodTo.setRoot (k := c) (x := encV φ u) M.out.H (by rw [M.out.H.ok.h12]; exact HRO.out) (by rw [M.out.H.ok.h12]; exact hcl) hR64)
          have M6 := Lib.hid (hM6.same ((Keeps.refl (fun _ => False) _).drew))
          have RF := Lib.hid (R.out.setR hu (c : Int))
          clear hM6 hu hR64
          go_wp2_with fail
          refine ⟨⟨by kernel_rfl, ?rel⟩, ?measure⟩
          case rel => exact ⟨k + 1, hlt, by go_num, h6, _, M6.out, _, _, RF.out, RG.out, WT.out⟩
          case measure => exact meas_lt (by go_num) (by first | rfl | exact E9.out) hlt
        · have hzb : (gc == 0) = false := by simpa using hz
          go_wp2_with fail
          refine ⟨⟨by kernel_rfl, ?rel⟩, ?measure⟩
          case rel => exact ⟨k + 1, hlt, by go_num, hh, _, MD.out, _, _, R.out, RG.out, WT.out⟩
          case measure => exact meas_lt (by go_num) (by first | rfl | exact E9.out) hlt
      as_aux_lemma =>
       have e0 : (d == 0) = false := by simpa using hd0
       have e2 : (d == 2) = false := by simpa using hd2
       have e3 : (d == 3) = false := by simpa using hd3
       go_wp2_with fail
       refine ⟨⟨by kernel_rfl, ?rel⟩, ?measure⟩
       case rel => exact ⟨k + 1, hlt, by go_num, hh, _, M.out, _, _, R.out, RG.out, WT.out⟩
       case measure => exact meas_lt (by go_num) (by first | rfl | exact E9.out) hlt
      -->steps
    · --<tail
      as_aux_lemma =>
      obtain rfl : k = m := by omega
      have SN := Lib.hid (Wd.seen R.out.hw)
      have VW := Lib.hid (R.out.view)
      have PE := Lib.hid M.out.e
      have pt0 := M.out.H.ptrs.1
      rw [PE.out] at pt0
      have pl : p < wr.heap.size := by rw [← PE.out]; exact M.out.H.hp.lt
      go_wp2_with fail
      refine (Words_c _ M.out.H.ha).mono ?_
      rintro e w4 ⟨ao, cap, rfl, hs4, hk4, hn4⟩
      have M4 := Lib.hid (M.out.same hk4)
      obtain ⟨_, _, e', rd4, -, -⟩ := hs4.rd
      cases e'
      have RD4 := Lib.hid rd4
      clear hs4 hn4 rd4 hk4 pt0 pl
      go_wp2_with fail
      have hvc := View_c _ M4.out.H
      rw [M4.out.e] at hvc
      refine hvc.mono ?_
      clear hvc
      rintro e w5 ⟨v, rfl, hv5, hk5⟩
      rw [VW.out] at hv5
      have LN := Lib.hid (SN.out.lens R.out.hw)
      have VR5 := Lib.hid (hv5.r (by have := LN.out.1; omega) (by have := LN.out.2.1; omega) (fun n hn => by have := LN.out.2.2 n hn; omega))
      obtain ⟨ro, rc, no, nc, F, e5, sR, nA, -⟩ := hv5
      obtain ⟨_, _, e', rR, -, -⟩ := sR.rd
      cases e'
      have L12 := Lib.hid LN.out.1
      rw [L12.out] at e5
      have l13 := LN.out.2.1
      generalize hnn : W.view.2.length = nn at *
      have HNN := Lib.hid hnn
      clear hnn
      subst e5
      have hbk := Blk.newAt (w := w5) (b := w5.heap.size) (T := 72) #[.slice ro 12 rc, .slice no nn nc] rfl rfl
      have hka := (Keeps.refl (fun _ => False) w5).alloc (.cells #[.slice ro 12 rc, .slice no nn nc] 72)
      have M6 := Lib.hid ((M4.out.same hk5).same hka)
      have RD6 := Lib.hid ((RD4.out.keep hk5 (fun _ _ _ h => h)).keep hka (fun _ _ _ h => h))
      have VR6 := Lib.hid (VR5.out.same hka)
      have HBV := Lib.hid hbk
      have RR6 := Lib.hid (rR.keep hka (fun _ _ _ h => h))
      have NA6 := Lib.hid (nA.keep hka (fun _ _ _ h => h) (fun _ _ h => h))
      clear hka hk5 VR5 RD4 M4 hbk sR rR nA
      go_wp2_with fail
      generalize w5.alloc (.cells #[.slice ro 12 rc, .slice no nn nc] 72) = w6 at *
      generalize w5.heap.size = bv at *
      have p0 := M6.out.H.ptrs.1
      rw [PE.out] at p0
      have v0 := HBV.out.cell 0; have v1 := HBV.out.cell 1; have vl := HBV.out.lt
      simp only [List.getElem?_cons_zero, List.getElem?_cons_succ] at v0 v1
      refine wp_region_ro (.free 1 (.pure 0 (.run 2 (.run 3 (.swi [11, 12, 13, 14, 15, 16, 17, 18, 19, 20] (.free 4 (.free 5 (.free 6 (.free 7 (.free 8 (.free 9 (.pure 10 (.run 11 (.swi [12, 13, 14, 15, 16, 17, 18, 19, 20] (.run 12 (.swi [] (.free 13 (.free 14 (.free 15 (.free 16 (.pure 17 (.free 18 (.free 19 (.free 20 (.fin))))))))))))))))))))))))) [3, 4, 5, 6, 7, 8, 9, 10, 11, 12, 13, 14, 15, 16, 17, 18, 19, 20] (fun w' => w'.cell? ⟨p, 0, none⟩ = some (.pointer (some ⟨hh.pa, 0, none⟩)) ∧ w'.cell? ⟨bv, 0, none⟩ = some (.slice ro 12 rc) ∧ w'.cell? ⟨bv, 1, none⟩ = some (.slice no nn nc)) (by kernel_rfl) (by kernel_rfl) ⟨p0, v0, v1⟩ ?_
      first | (refine wpRO_free rfl rfl _ (fun w' => by go_simp; exact Gives.mk _ _) (fun K hK => ?_); go_simp; refine hK _ ?_; clear hK K) | (refine wpRO_skipF rfl rfl (fun K hK => ?_); go_simp; refine hK _ ?_; clear hK K)
      first | (refine wpRO_pure rfl rfl _ (fun w' hG => by obtain ⟨g0, g1, g2⟩ := hG; exact gives_agg2 rfl (by decide +kernel) rfl (by assumption) (by assumption)) (fun K hK => ?_); go_simp; refine hK _ ?_; clear hK K) | (refine wpRO_pure rfl rfl _ (fun w' hG => by obtain ⟨g0, g1, g2⟩ := hG; go_simp; exact Gives.mk _ _) (fun K hK => ?_); go_simp; refine hK _ ?_; clear hK K) | (refine wpRO_skip rfl rfl (fun K hK => ?_); go_simp; refine hK _ ?_; clear hK K)
      refine wpRO_run rfl rfl (fun K hK => ?_); unfold gRun; go_simp
      have MD := M6.out.same ((Keeps.refl (fun _ => False) w6).drew)
      have hvc := View_c _ MD.H
      rw [MD.e] at hvc
      refine hvc.mono ?_
      clear hvc
      rintro e w7 ⟨v, rfl, hv7, hk7⟩
      rw [VW.out] at hv7
      have kd7 := ((Keeps.refl (fun _ => False) w6).drew).trans hk7
      have M7 := Lib.hid (M6.out.same kd7)
      have V7 := Lib.hid (hv7.r (by rw [L12.out]; decide) (by rw [HNN.out]; omega) (fun n hn => by have := LN.out.2.2 n hn; omega))
      have HB7 := Lib.hid (kd7.blk HBV.out (fun h => h))
      have q0 := M7.out.H.ptrs.1
      rw [PE.out] at q0
      have u0 := HB7.out.cell 0; have u1 := HB7.out.cell 1
      simp only [List.getElem?_cons_zero, List.getElem?_cons_succ] at u0 u1
      have KD7 := Lib.hid kd7
      clear hv7 MD kd7
      refine hK _ _ (fun _ => ⟨q0, u0, u1⟩) ?_
      clear hK K
      refine wpRO_run rfl rfl (fun K hK => ?_); unfold gRun; go_simp
      refine (SameView_yes _ _ _ _ (VR6.out.same KD7.out) V7.out).mono ?_
      rintro e w8 ⟨rfl, hk8⟩
      have KD8 := Lib.hid (KD7.out.trans hk8)
      have M8 := Lib.hid (M7.out.same hk8)
      have HB8 := Lib.hid (hk8.blk HB7.out (fun h => h))
      have z0 := M8.out.H.ptrs.1
      rw [PE.out] at z0
      have y0 := HB8.out.cell 0; have y1 := HB8.out.cell 1
      simp only [List.getElem?_cons_zero, List.getElem?_cons_succ] at y0 y1
      refine hK _ _ (fun _ => ⟨z0, y0, y1⟩) ?_
      clear hK K
      clear q0 u0 u1 M7 HB7 V7 KD7 hk8 hk7
      refine wpRO_swi (fun w' => w'.cell? ⟨p, 0, none⟩ = some (.pointer (some ⟨hh.pa, 0, none⟩)) ∧ w'.cell? ⟨bv, 0, none⟩ = some (.slice ro 12 rc)) ⟨z0, y0⟩ ?_
      first | (refine wpRO_free rfl rfl _ (fun w' => by go_simp; exact Gives.mk _ _) (fun K hK => ?_); go_simp; refine hK _ ?_; clear hK K) | (refine wpRO_skipF rfl rfl (fun K hK => ?_); go_simp; refine hK _ ?_; clear hK K)
      first | (refine wpRO_free rfl rfl _ (fun w' => by go_simp; exact Gives.mk _ _) (fun K hK => ?_); go_simp; refine hK _ ?_; clear hK K) | (refine wpRO_skipF rfl rfl (fun K hK => ?_); go_simp; refine hK _ ?_; clear hK K)
      first | (refine wpRO_free rfl rfl _ (fun w' => by go_simp; exact Gives.mk _ _) (fun K hK => ?_); go_simp; refine hK _ ?_; clear hK K) | (refine wpRO_skipF rfl rfl (fun K hK => ?_); go_simp; refine hK _ ?_; clear hK K)
      first | (refine wpRO_free rfl rfl _ (fun w' => by go_simp; exact Gives.mk _ _) (fun K hK => ?_); go_simp; refine hK _ ?_; clear hK K) | (refine wpRO_skipF rfl rfl (fun K hK => ?_); go_simp; refine hK _ ?_; clear hK K)
      first | (refine wpRO_free rfl rfl _ (fun w' => by go_simp; exact Gives.mk _ _) (fun K hK => ?_); go_simp; refine hK _ ?_; clear hK K) | (refine wpRO_skipF rfl rfl (fun K hK => ?_); go_simp; refine hK _ ?_; clear hK K)
      first | (refine wpRO_free rfl rfl _ (fun w' => by go_simp; exact Gives.mk _ _) (fun K hK => ?_); go_simp; refine hK _ ?_; clear hK K) | (refine wpRO_skipF rfl rfl (fun K hK => ?_); go_simp; refine hK _ ?_; clear hK K)
      first | (refine wpRO_pure rfl rfl _ (fun w' hG => by obtain ⟨g0, g1⟩ := hG; exact gives_agg2 rfl (by decide +kernel) rfl (by assumption) (by assumption)) (fun K hK => ?_); go_simp; refine hK _ ?_; clear hK K) | (refine wpRO_pure rfl rfl _ (fun w' hG => by obtain ⟨g0, g1⟩ := hG; go_simp; exact Gives.mk _ _) (fun K hK => ?_); go_simp; refine hK _ ?_; clear hK K) | (refine wpRO_skip rfl rfl (fun K hK => ?_); go_simp; refine hK _ ?_; clear hK K)
      refine wpRO_run rfl rfl (fun K hK => ?_); unfold gRun; go_simp
      refine (Words_c _ M8.out.H.ha).mono ?_
      rintro e w9 ⟨bo, bc, rfl, hs9, hk9, -⟩
      obtain ⟨_, _, e', rd9, -, -⟩ := hs9.rd
      cases e'
      have KD9 := Lib.hid (KD8.out.trans hk9)
      have RD9 := Lib.hid rd9
      have M9 := Lib.hid (M8.out.same hk9)
      have HB9 := Lib.hid (hk9.blk HB8.out (fun h => h))
      have q0 := M9.out.H.ptrs.1
      rw [PE.out] at q0
      have u0 := HB9.out.cell 0
      simp only [List.getElem?_cons_zero, List.getElem?_cons_succ] at u0
      refine hK _ _ (fun _ => ⟨q0, u0⟩) ?_
      clear hK K z0 y0 y1 M8 HB8 KD8 hk9 hs9 rd9
      refine wpRO_swi (fun w' => w'.cell? ⟨bv, 0, none⟩ = some (.slice ro 12 rc)) u0 ?_
      refine wpRO_run rfl rfl (fun K hK => ?_); unfold gRun; go_simp
      refine (SameLongs_yes _ _ _ _ O.ar.ws _ (RD6.out.keep KD9.out (fun _ _ _ h => h)) RD9.out (by have := M9.out.H.ha.ok.h3; have := M9.out.H.ha.ok.h4; omega)).mono ?_
      rintro e w10 ⟨rfl, hk10⟩
      have KD10 := Lib.hid (KD9.out.trans hk10)
      have M10 := Lib.hid (M9.out.same hk10)
      have HB10 := Lib.hid (hk10.blk HB9.out (fun h => h))
      have x0 := HB10.out.cell 0
      simp only [List.getElem?_cons_zero, List.getElem?_cons_succ] at x0
      refine hK _ _ (fun _ => x0) ?_
      clear hK K q0 u0 M9 HB9 KD9 hk10 RD9 RD6
      refine wpRO_swi (fun w' => w'.cell? ⟨bv, 0, none⟩ = some (.slice ro 12 rc)) x0 ?_
      first | (refine wpRO_free rfl rfl _ (fun w' => by go_simp; exact Gives.mk _ _) (fun K hK => ?_); go_simp; refine hK _ ?_; clear hK K) | (refine wpRO_skipF rfl rfl (fun K hK => ?_); go_simp; refine hK _ ?_; clear hK K)
      first | (refine wpRO_free rfl rfl _ (fun w' => by go_simp; exact Gives.mk _ _) (fun K hK => ?_); go_simp; refine hK _ ?_; clear hK K) | (refine wpRO_skipF rfl rfl (fun K hK => ?_); go_simp; refine hK _ ?_; clear hK K)
      first | (refine wpRO_free rfl rfl _ (fun w' => by go_simp; exact Gives.mk _ _) (fun K hK => ?_); go_simp; refine hK _ ?_; clear hK K) | (refine wpRO_skipF rfl rfl (fun K hK => ?_); go_simp; refine hK _ ?_; clear hK K)
      first | (refine wpRO_free rfl rfl _ (fun w' => by go_simp; exact Gives.mk _ _) (fun K hK => ?_); go_simp; refine hK _ ?_; clear hK K) | (refine wpRO_skipF rfl rfl (fun K hK => ?_); go_simp; refine hK _ ?_; clear hK K)
      first | (refine wpRO_pure rfl rfl _ (fun w' hG => by obtain g0 := hG; exact gives_agg2 rfl (by decide +kernel) rfl (by assumption) (by assumption)) (fun K hK => ?_); go_simp; refine hK _ ?_; clear hK K) | (refine wpRO_pure rfl rfl _ (fun w' hG => by obtain g0 := hG; go_simp; exact Gives.mk _ _) (fun K hK => ?_); go_simp; refine hK _ ?_; clear hK K) | (refine wpRO_skip rfl rfl (fun K hK => ?_); go_simp; refine hK _ ?_; clear hK K)
      first | (refine wpRO_free rfl rfl _ (fun w' => by go_simp; exact Gives.mk _ _) (fun K hK => ?_); go_simp; refine hK _ ?_; clear hK K) | (refine wpRO_skipF rfl rfl (fun K hK => ?_); go_simp; refine hK _ ?_; clear hK K)
      first | (refine wpRO_free rfl rfl _ (fun w' => by go_simp; exact Gives.mk _ _) (fun K hK => ?_); go_simp; refine hK _ ?_; clear hK K) | (refine wpRO_skipF rfl rfl (fun K hK => ?_); go_simp; refine hK _ ?_; clear hK K)
      first | (refine wpRO_free rfl rfl _ (fun w' => by go_simp; exact Gives.mk _ _) (fun K hK => ?_); go_simp; refine hK _ ?_; clear hK K) | (refine wpRO_skipF rfl rfl (fun K hK => ?_); go_simp; refine hK _ ?_; clear hK K)
      refine wpRO_fin ?_
      have y1 := HB10.out.cell 1; have yl := HB10.out.lt
      simp only [List.getElem?_cons_zero, List.getElem?_cons_succ] at y1
      have RRX := Lib.hid (RR6.out.keep KD10.out (fun _ _ _ h => h))
      have NAX := Lib.hid (NA6.out.keep KD10.out (fun _ _ _ h => h) (fun _ _ h => h))
      obtain ⟨i0, hi, hz0, hz1, hz2⟩ := info_parts info_bool
      have hmk := fun (wx : World) => run_make_one (P := Try.prog) wx 76 4 i0 (.bool false) Try.underlying76 hi hz0 rfl hz1 nn (by rw [hz2]; omega) (by omega)
      have Hi := Lib.hid hi; clear hi hz0 hz1 hz2
      go_wp2_with fail
      have HL0 := Lib.hid (LedAt.make HB10.out)
      have KL0 := Lib.hid (((Keeps.refl (fun _ => False) w10).alloc (.cells (Array.replicate nn (.bool false)) 4)).alloc (.cells #[.slice (some ⟨w10.heap.size, 0, none⟩) nn nn] 76))
      have hgz : w10.heap.size ≤ w10.heap.size := Nat.le_refl _
      clear hmk Hi RR6 NA6 KD10 VR6 HBV M6 x0 y1 yl p0 v0 v1 vl
      generalize (w10.alloc (.cells (Array.replicate nn (.bool false)) 4)).alloc (.cells #[.slice (some ⟨w10.heap.size, 0, none⟩) nn nn] 76) = w11 at *
      generalize hbl : w10.heap.size + 1 = bl at *
      clear hbl
      obtain ⟨gl, hgl⟩ : ∃ g, w10.heap.size = g := ⟨_, rfl⟩
      rw [hgl] at HL0
      have HGZ := Lib.hid hgl
      clear hgz hgl
      refine wp_loop_over (fun i => Nat.blt 159 i && Nat.blt i 202 || Nat.blt 19 i && Nat.blt i 23) (fun s wr => ∃ (k : Nat) (led : List Bool), k ≤ 12 ∧ s 20 = .int .i64 k ∧ LedAt wr bv bl gl ro no 12 nn rc nc led ∧ LedIn W.view led k 0 0 ∧ Keeps (fun _ => False) w10 wr) (fun s _ => 12 - (intOf (s 20)).toNat) ?_ ?_
      · exact ⟨0, _, Nat.zero_le _, rfl, HL0.out, LedIn.start _ _, KL0.out⟩
      · intro u1 wr1 hrel K1 hK1
        clear HL0 KL0
        obtain ⟨k1, led, hk1, e20, hL, hI, hKp⟩ := hrel
        have e20 : u1 20 = .int .i64 k1 := e20
        have HL := Lib.hid hL; have LI := Lib.hid hI; have KP := Lib.hid hKp
        clear hL hI hKp
        simp only [overA, overL, List.toList_toArray, Nat.blt, Nat.beq, Nat.ble, Nat.reduceAdd, Bool.or_false, Bool.false_or, Bool.or_true, Bool.true_or, Bool.and_true, Bool.true_and, Bool.and_false, Bool.false_and, cond_true, cond_false]
        rw [e20]
        have E20 := Lib.hid e20; clear e20
        have a0 := HL.out.hv.cell 0; have al := HL.out.hv.lt
        simp only [List.getElem?_cons_zero, List.getElem?_cons_succ] at a0
        by_cases hlt1 : k1 < 12
        · as_aux_lemma =>
          have hl1 : k1 < W.view.1.length := by rw [L12.out]; exact hlt1
          obtain ⟨g2, o2, hro2, hg2, d0, d1⟩ := (RRX.out.keep KP.out (fun _ _ _ h => h)).val k1 hl1
          subst hro2
          have hv1 : W.view.1[k1]? = some (W.view.1.getD k1 (0, 0)) := by rw [List.getD_eq_getElem?_getD, List.getElem?_eq_getElem hl1]; rfl
          have hb1 : (W.view.1.getD k1 (0, 0)).1 = 3 → 0 ≤ (W.view.1.getD k1 (0, 0)).2 ∧ (W.view.1.getD k1 (0, 0)).2 < nn := by
            have := SN.out.refs.1 (W.view.1.getD k1 (0, 0)) (List.mem_of_getElem? hv1)
            rw [HNN.out] at this
            exact this
          have hdec := Lib.hid (dec_root R.out SN.out hlt1)
          have LI1 := Lib.hid (LI.out.root hv1 (by rw [HL.out.ln]; exact hb1))
          have HV1 := Lib.hid hv1
          clear hv1
          obtain ⟨v, hve⟩ : ∃ v, W.view.1.getD k1 (0, 0) = v := ⟨_, rfl⟩
          have HVE := Lib.hid hve
          rw [hve] at hdec LI1 hb1 d0 d1
          clear hve
          obtain ⟨va, vb⟩ := v
          have ea := wvA
          have HB1 := Lib.hid hb1
          clear hb1
          go_wp2_with (refine wpList_agg rfl 78 (.tmp 171) rfl [.int .i64 va, .int .i64 vb] (by kernel_rfl) g2 (o2 + k1 * 2) rfl (rangeAt_cons d0 (rangeAt_cons d1 rangeAt_nil)) ?_)
          refine (See_c (va, vb) _ HL.out HB1.out (by omega)).mono ?_
          rintro e w12 ⟨rfl, hL2, hk2⟩
          have KP2 := Lib.hid (KP.out.then hk2 (fun b hb => .inr (by have := HGZ.out; omega)))
          have M12 := Lib.hid (M10.out.same KP2.out)
          have HL2 := Lib.hid hL2
          clear hL2 hk2 a0 al d0 d1 KP HL LI ea
          obtain ⟨g, og, cap, hro, hown, hgl, c3, fz, rc3⟩ := M12.out.H.roots
          have h12 := M12.out.H.ok.h12
          rw [h12] at c3 rc3
          rw [PE.out] at c3
          have r1 := rc3 k1 hlt1
          have pl : p < w12.heap.size := by rw [← PE.out]; exact M12.out.H.hp.lt
          have hR : R64 (O.rt.getD k1 0) := M12.out.H.ok.hR _ (by rw [List.getD_eq_getElem?_getD, List.getElem?_eq_getElem (by rw [h12]; exact hlt1)]; exact List.getElem_mem _)
          clear hro hown fz rc3 h12
          generalize O.rt.getD k1 0 = x at *
          have HRX := Lib.hid hR
          clear hR
          go_wp2_with fail
          refine (Decode_c x _ HRX.out.1 HRX.out.2).mono ?_
          rintro e w13 ⟨rfl, hk3⟩
          clear c3 r1 pl hgl
          rcases hdec.out with ⟨y, hd⟩ | ⟨hd, hne⟩
          · rw [hd]
            clear hdec hd
            dsimp only
            have bb := Blk.newAt (w := w13) (b := w13.heap.size) (T := 78) #[.int .i64 3, .int .i64 y] rfl rfl
            have hka := (Keeps.refl (fun _ => False) w13).alloc (.cells #[.int .i64 3, .int .i64 y] 78)
            have KP4 := Lib.hid ((KP2.out.trans hk3).trans hka)
            have HL4 := Lib.hid ((HL2.out.keep hk3).keep hka)
            go_wp2_with fail
            generalize w13.alloc (.cells #[.int .i64 3, .int .i64 y] 78) = w14 at *
            generalize w13.heap.size = bx at *
            have x0 := bb.cell 0; have x1 := bb.cell 1; have xl := bb.lt; have y0 := HL4.out.hv.cell 0; have yl := HL4.out.hv.lt
            simp only [List.getElem?_cons_zero, List.getElem?_cons_succ] at x0 x1 y0
            obtain ⟨_, _, e', hg3, d0, d1⟩ := (RRX.out.keep KP4.out (fun _ _ _ h => h)).val k1 hl1
            cases e'
            rw [HVE.out] at d0 d1
            dsimp only at d0 d1
            refine wp_region_ro (.free 0 (.free 1 (.free 2 (.free 3 (.pure 4 (.free 5 (.free 6 (.free 7 (.free 9 (.free 11 (.pure 8 (.pure 10 (.free 12 (.pure 13 (.free 14 (.free 15 (.fin))))))))))))))))) [] (fun w' => w'.cell? ⟨bx, 0, none⟩ = some (.int .i64 3) ∧ w'.cell? ⟨bx, 1, none⟩ = some (.int .i64 y) ∧ w'.cell? ⟨bv, 0, none⟩ = some (.slice (some ⟨g2, o2, none⟩) 12 rc) ∧ w'.cell? ⟨g2, o2 + k1 * 2, none⟩ = some (.int .i64 va) ∧ w'.cell? ⟨g2, o2 + k1 * 2 + 1, none⟩ = some (.int .i64 vb)) (by kernel_rfl) (by kernel_rfl) ⟨x0, x1, y0, d0, d1⟩ ?_
            first | (refine wpRO_free rfl rfl _ (fun w' => by go_simp; exact Gives.mk _ _) (fun K hK => ?_); go_simp; refine hK _ ?_; clear hK K) | (refine wpRO_skipF rfl rfl (fun K hK => ?_); go_simp; refine hK _ ?_; clear hK K)
            first | (refine wpRO_free rfl rfl _ (fun w' => by go_simp; exact Gives.mk _ _) (fun K hK => ?_); go_simp; refine hK _ ?_; clear hK K) | (refine wpRO_skipF rfl rfl (fun K hK => ?_); go_simp; refine hK _ ?_; clear hK K)
            first | (refine wpRO_free rfl rfl _ (fun w' => by go_simp; exact Gives.mk _ _) (fun K hK => ?_); go_simp; refine hK _ ?_; clear hK K) | (refine wpRO_skipF rfl rfl (fun K hK => ?_); go_simp; refine hK _ ?_; clear hK K)
            first | (refine wpRO_free rfl rfl _ (fun w' => by go_simp; exact Gives.mk _ _) (fun K hK => ?_); go_simp; refine hK _ ?_; clear hK K) | (refine wpRO_skipF rfl rfl (fun K hK => ?_); go_simp; refine hK _ ?_; clear hK K)
            first | (refine wpRO_pure rfl rfl _ (fun w' hG => by obtain ⟨g0, g1, g2, g3, g4⟩ := hG; exact gives_agg2 rfl (by decide +kernel) rfl (by assumption) (by assumption)) (fun K hK => ?_); go_simp; refine hK _ ?_; clear hK K) | (refine wpRO_pure rfl rfl _ (fun w' hG => by obtain ⟨g0, g1, g2, g3, g4⟩ := hG; go_simp; exact Gives.mk _ _) (fun K hK => ?_); go_simp; refine hK _ ?_; clear hK K) | (refine wpRO_skip rfl rfl (fun K hK => ?_); go_simp; refine hK _ ?_; clear hK K)
            first | (refine wpRO_free rfl rfl _ (fun w' => by go_simp; exact Gives.mk _ _) (fun K hK => ?_); go_simp; refine hK _ ?_; clear hK K) | (refine wpRO_skipF rfl rfl (fun K hK => ?_); go_simp; refine hK _ ?_; clear hK K)
            first | (refine wpRO_free rfl rfl _ (fun w' => by go_simp; exact Gives.mk _ _) (fun K hK => ?_); go_simp; refine hK _ ?_; clear hK K) | (refine wpRO_skipF rfl rfl (fun K hK => ?_); go_simp; refine hK _ ?_; clear hK K)
            first | (refine wpRO_free rfl rfl _ (fun w' => by go_simp; exact Gives.mk _ _) (fun K hK => ?_); go_simp; refine hK _ ?_; clear hK K) | (refine wpRO_skipF rfl rfl (fun K hK => ?_); go_simp; refine hK _ ?_; clear hK K)
            first | (refine wpRO_free rfl rfl _ (fun w' => by go_simp; exact Gives.mk _ _) (fun K hK => ?_); go_simp; refine hK _ ?_; clear hK K) | (refine wpRO_skipF rfl rfl (fun K hK => ?_); go_simp; refine hK _ ?_; clear hK K)
            first | (refine wpRO_free rfl rfl _ (fun w' => by go_simp; exact Gives.mk _ _) (fun K hK => ?_); go_simp; refine hK _ ?_; clear hK K) | (refine wpRO_skipF rfl rfl (fun K hK => ?_); go_simp; refine hK _ ?_; clear hK K)
            first | (refine wpRO_pure rfl rfl _ (fun w' hG => by obtain ⟨g0, g1, g2, g3, g4⟩ := hG; exact gives_agg2 rfl (by decide +kernel) rfl (by assumption) (by assumption)) (fun K hK => ?_); go_simp; refine hK _ ?_; clear hK K) | (refine wpRO_pure rfl rfl _ (fun w' hG => by obtain ⟨g0, g1, g2, g3, g4⟩ := hG; go_simp; exact Gives.mk _ _) (fun K hK => ?_); go_simp; refine hK _ ?_; clear hK K) | (refine wpRO_skip rfl rfl (fun K hK => ?_); go_simp; refine hK _ ?_; clear hK K)
            first | (refine wpRO_pure rfl rfl _ (fun w' hG => by obtain ⟨g0, g1, g2, g3, g4⟩ := hG; exact gives_agg2 rfl (by decide +kernel) rfl (by assumption) (by assumption)) (fun K hK => ?_); go_simp; refine hK _ ?_; clear hK K) | (refine wpRO_pure rfl rfl _ (fun w' hG => by obtain ⟨g0, g1, g2, g3, g4⟩ := hG; go_simp; exact Gives.mk _ _) (fun K hK => ?_); go_simp; refine hK _ ?_; clear hK K) | (refine wpRO_skip rfl rfl (fun K hK => ?_); go_simp; refine hK _ ?_; clear hK K)
            first | (refine wpRO_free rfl rfl _ (fun w' => by go_simp; exact Gives.mk _ _) (fun K hK => ?_); go_simp; refine hK _ ?_; clear hK K) | (refine wpRO_skipF rfl rfl (fun K hK => ?_); go_simp; refine hK _ ?_; clear hK K)
            first | (refine wpRO_pure rfl rfl _ (fun w' hG => by obtain ⟨g0, g1, g2, g3, g4⟩ := hG; exact gives_agg2 rfl (by decide +kernel) rfl (by assumption) (by assumption)) (fun K hK => ?_); go_simp; refine hK _ ?_; clear hK K) | (refine wpRO_pure rfl rfl _ (fun w' hG => by obtain ⟨g0, g1, g2, g3, g4⟩ := hG; go_simp; exact Gives.mk _ _) (fun K hK => ?_); go_simp; refine hK _ ?_; clear hK K) | (refine wpRO_skip rfl rfl (fun K hK => ?_); go_simp; refine hK _ ?_; clear hK K)
            first | (refine wpRO_free rfl rfl _ (fun w' => by go_simp; exact Gives.mk _ _) (fun K hK => ?_); go_simp; refine hK _ ?_; clear hK K) | (refine wpRO_skipF rfl rfl (fun K hK => ?_); go_simp; refine hK _ ?_; clear hK K)
            first | (refine wpRO_free rfl rfl _ (fun w' => by go_simp; exact Gives.mk _ _) (fun K hK => ?_); go_simp; refine hK _ ?_; clear hK K) | (refine wpRO_skipF rfl rfl (fun K hK => ?_); go_simp; refine hK _ ?_; clear hK K)
            refine wpRO_fin ?_
            go_wp2_with fail
            refine ⟨⟨by kernel_rfl, ?rel⟩, ?measure⟩
            case rel => exact ⟨k1 + 1, _, hlt1, by go_num, HL4.out.keep ((Keeps.refl (fun _ => False) w14).drew), LI1.out, KP4.out.drew⟩
            case measure => exact meas_lt (by go_num) (by first | rfl | exact E20.out) hlt1
          · rw [hd]
            clear hdec hd
            dsimp only at hne ⊢
            have e3 : (va == 3) = false := by simpa using hne
            have e4 : (va != 3) = true := by simpa using hne
            have bb := Blk.newAt (w := w13) (b := w13.heap.size) (T := 78) #[.int .i64 va, .int .i64 vb] rfl rfl
            have hka := (Keeps.refl (fun _ => False) w13).alloc (.cells #[.int .i64 va, .int .i64 vb] 78)
            have KP4 := Lib.hid ((KP2.out.trans hk3).trans hka)
            have HL4 := Lib.hid ((HL2.out.keep hk3).keep hka)
            go_wp2_with fail
            generalize w13.alloc (.cells #[.int .i64 va, .int .i64 vb] 78) = w14 at *
            generalize w13.heap.size = bx at *
            have x0 := bb.cell 0; have x1 := bb.cell 1; have xl := bb.lt; have y0 := HL4.out.hv.cell 0; have yl := HL4.out.hv.lt
            simp only [List.getElem?_cons_zero, List.getElem?_cons_succ] at x0 x1 y0
            obtain ⟨_, _, e', hg3, d0, d1⟩ := (RRX.out.keep KP4.out (fun _ _ _ h => h)).val k1 hl1
            cases e'
            rw [HVE.out] at d0 d1
            dsimp only at d0 d1
            refine wp_region_ro (.free 0 (.free 1 (.free 2 (.free 3 (.pure 4 (.free 5 (.free 6 (.free 7 (.free 9 (.free 11 (.pure 8 (.pure 10 (.free 12 (.pure 13 (.free 14 (.free 15 (.fin))))))))))))))))) [] (fun w' => w'.cell? ⟨bx, 0, none⟩ = some (.int .i64 va) ∧ w'.cell? ⟨bx, 1, none⟩ = some (.int .i64 vb) ∧ w'.cell? ⟨bv, 0, none⟩ = some (.slice (some ⟨g2, o2, none⟩) 12 rc) ∧ w'.cell? ⟨g2, o2 + k1 * 2, none⟩ = some (.int .i64 va) ∧ w'.cell? ⟨g2, o2 + k1 * 2 + 1, none⟩ = some (.int .i64 vb)) (by kernel_rfl) (by kernel_rfl) ⟨x0, x1, y0, d0, d1⟩ ?_
            first | (refine wpRO_free rfl rfl _ (fun w' => by go_simp; exact Gives.mk _ _) (fun K hK => ?_); go_simp; refine hK _ ?_; clear hK K) | (refine wpRO_skipF rfl rfl (fun K hK => ?_); go_simp; refine hK _ ?_; clear hK K)
            first | (refine wpRO_free rfl rfl _ (fun w' => by go_simp; exact Gives.mk _ _) (fun K hK => ?_); go_simp; refine hK _ ?_; clear hK K) | (refine wpRO_skipF rfl rfl (fun K hK => ?_); go_simp; refine hK _ ?_; clear hK K)
            first | (refine wpRO_free rfl rfl _ (fun w' => by go_simp; exact Gives.mk _ _) (fun K hK => ?_); go_simp; refine hK _ ?_; clear hK K) | (refine wpRO_skipF rfl rfl (fun K hK => ?_); go_simp; refine hK _ ?_; clear hK K)
            first | (refine wpRO_free rfl rfl _ (fun w' => by go_simp; exact Gives.mk _ _) (fun K hK => ?_); go_simp; refine hK _ ?_; clear hK K) | (refine wpRO_skipF rfl rfl (fun K hK => ?_); go_simp; refine hK _ ?_; clear hK K)
            first | (refine wpRO_pure rfl rfl _ (fun w' hG => by obtain ⟨g0, g1, g2, g3, g4⟩ := hG; exact gives_agg2 rfl (by decide +kernel) rfl (by assumption) (by assumption)) (fun K hK => ?_); go_simp; refine hK _ ?_; clear hK K) | (refine wpRO_pure rfl rfl _ (fun w' hG => by obtain ⟨g0, g1, g2, g3, g4⟩ := hG; go_simp; exact Gives.mk _ _) (fun K hK => ?_); go_simp; refine hK _ ?_; clear hK K) | (refine wpRO_skip rfl rfl (fun K hK => ?_); go_simp; refine hK _ ?_; clear hK K)
            first | (refine wpRO_free rfl rfl _ (fun w' => by go_simp; exact Gives.mk _ _) (fun K hK => ?_); go_simp; refine hK _ ?_; clear hK K) | (refine wpRO_skipF rfl rfl (fun K hK => ?_); go_simp; refine hK _ ?_; clear hK K)
            first | (refine wpRO_free rfl rfl _ (fun w' => by go_simp; exact Gives.mk _ _) (fun K hK => ?_); go_simp; refine hK _ ?_; clear hK K) | (refine wpRO_skipF rfl rfl (fun K hK => ?_); go_simp; refine hK _ ?_; clear hK K)
            first | (refine wpRO_free rfl rfl _ (fun w' => by go_simp; exact Gives.mk _ _) (fun K hK => ?_); go_simp; refine hK _ ?_; clear hK K) | (refine wpRO_skipF rfl rfl (fun K hK => ?_); go_simp; refine hK _ ?_; clear hK K)
            first | (refine wpRO_free rfl rfl _ (fun w' => by go_simp; exact Gives.mk _ _) (fun K hK => ?_); go_simp; refine hK _ ?_; clear hK K) | (refine wpRO_skipF rfl rfl (fun K hK => ?_); go_simp; refine hK _ ?_; clear hK K)
            first | (refine wpRO_free rfl rfl _ (fun w' => by go_simp; exact Gives.mk _ _) (fun K hK => ?_); go_simp; refine hK _ ?_; clear hK K) | (refine wpRO_skipF rfl rfl (fun K hK => ?_); go_simp; refine hK _ ?_; clear hK K)
            first | (refine wpRO_pure rfl rfl _ (fun w' hG => by obtain ⟨g0, g1, g2, g3, g4⟩ := hG; exact gives_agg2 rfl (by decide +kernel) rfl (by assumption) (by assumption)) (fun K hK => ?_); go_simp; refine hK _ ?_; clear hK K) | (refine wpRO_pure rfl rfl _ (fun w' hG => by obtain ⟨g0, g1, g2, g3, g4⟩ := hG; go_simp; exact Gives.mk _ _) (fun K hK => ?_); go_simp; refine hK _ ?_; clear hK K) | (refine wpRO_skip rfl rfl (fun K hK => ?_); go_simp; refine hK _ ?_; clear hK K)
            first | (refine wpRO_pure rfl rfl _ (fun w' hG => by obtain ⟨g0, g1, g2, g3, g4⟩ := hG; exact gives_agg2 rfl (by decide +kernel) rfl (by assumption) (by assumption)) (fun K hK => ?_); go_simp; refine hK _ ?_; clear hK K) | (refine wpRO_pure rfl rfl _ (fun w' hG => by obtain ⟨g0, g1, g2, g3, g4⟩ := hG; go_simp; exact Gives.mk _ _) (fun K hK => ?_); go_simp; refine hK _ ?_; clear hK K) | (refine wpRO_skip rfl rfl (fun K hK => ?_); go_simp; refine hK _ ?_; clear hK K)
            first | (refine wpRO_free rfl rfl _ (fun w' => by go_simp; exact Gives.mk _ _) (fun K hK => ?_); go_simp; refine hK _ ?_; clear hK K) | (refine wpRO_skipF rfl rfl (fun K hK => ?_); go_simp; refine hK _ ?_; clear hK K)
            first | (refine wpRO_pure rfl rfl _ (fun w' hG => by obtain ⟨g0, g1, g2, g3, g4⟩ := hG; exact gives_agg2 rfl (by decide +kernel) rfl (by assumption) (by assumption)) (fun K hK => ?_); go_simp; refine hK _ ?_; clear hK K) | (refine wpRO_pure rfl rfl _ (fun w' hG => by obtain ⟨g0, g1, g2, g3, g4⟩ := hG; go_simp; exact Gives.mk _ _) (fun K hK => ?_); go_simp; refine hK _ ?_; clear hK K) | (refine wpRO_skip rfl rfl (fun K hK => ?_); go_simp; refine hK _ ?_; clear hK K)
            first | (refine wpRO_free rfl rfl _ (fun w' => by go_simp; exact Gives.mk _ _) (fun K hK => ?_); go_simp; refine hK _ ?_; clear hK K) | (refine wpRO_skipF rfl rfl (fun K hK => ?_); go_simp; refine hK _ ?_; clear hK K)
            first | (refine wpRO_free rfl rfl _ (fun w' => by go_simp; exact Gives.mk _ _) (fun K hK => ?_); go_simp; refine hK _ ?_; clear hK K) | (refine wpRO_skipF rfl rfl (fun K hK => ?_); go_simp; refine hK _ ?_; clear hK K)
            refine wpRO_fin ?_
            go_wp2_with fail
            refine ⟨⟨by kernel_rfl, ?rel⟩, ?measure⟩
            case rel => exact ⟨k1 + 1, _, hlt1, by go_num, HL4.out.keep ((Keeps.refl (fun _ => False) w14).drew), LI1.out, KP4.out.drew⟩
            case measure => exact meas_lt (by go_num) (by first | rfl | exact E20.out) hlt1
        · obtain rfl : k1 = 12 := by omega
          as_aux_lemma =>
          have LI0 := Lib.hid (show LedIn W.view led W.view.1.length 0 0 by rw [L12.out]; exact LI.out)
          go_wp2_with fail
          clear a0 al LI
          refine wp_loop_over (fun i => Nat.blt 201 i || Nat.blt 22 i && Nat.blt i 25) (fun s wr => ∃ (k : Nat) (led : List Bool), k ≤ nn ∧ s 23 = .int .i64 k ∧ LedAt wr bv bl gl ro no 12 nn rc nc led ∧ LedIn W.view led W.view.1.length k 0 ∧ Keeps (fun _ => False) w10 wr) (fun s _ => nn - (intOf (s 23)).toNat) ?_ ?_
          · exact ⟨0, _, Nat.zero_le _, rfl, HL.out, LI0.out, KP.out⟩
          · intro u2 wr2 hrel K2 hK2
            clear HL LI0 KP
            obtain ⟨k2, led, hk2, e23, hL, hI, hKp⟩ := hrel
            have e23 : u2 23 = .int .i64 k2 := e23
            have HL := Lib.hid hL; have LI := Lib.hid hI; have KP := Lib.hid hKp
            clear hL hI hKp
            simp only [overA, overL, List.toList_toArray, Nat.blt, Nat.beq, Nat.ble, Nat.reduceAdd, Bool.or_false, Bool.false_or, Bool.or_true, Bool.true_or, Bool.and_true, Bool.true_and, Bool.and_false, Bool.false_and, cond_true, cond_false]
            rw [e23]
            have E23 := Lib.hid e23; clear e23
            have a1 := HL.out.hv.cell 1; have al := HL.out.hv.lt
            simp only [List.getElem?_cons_zero, List.getElem?_cons_succ] at a1
            by_cases hlt2 : k2 < nn
            · as_aux_lemma =>
              have hl2 : k2 < W.view.2.length := by rw [HNN.out]; exact hlt2
              obtain ⟨_, _, e', N⟩ := (NAX.out.keep KP.out (fun _ _ _ h => h) (fun _ _ h => h)).nth
              rw [HNN.out] at e'; cases e'
              obtain ⟨g3, o3, ao3, ac3, hno, hg3, n0, n1, rd3, -⟩ := N k2 hl2
              subst hno
              have hfl := LI.out.flag SN.out hl2
              have cg : wr2.cell? ⟨gl, k2, none⟩ = some (.bool true) := by rw [HL.out.hg.cell, List.getElem?_map, hfl]; rfl
              have cb := HL.out.hl.cell 0; have cl := HL.out.hl.lt; have cgl := HL.out.hg.lt
              simp only [List.getElem?_cons_zero] at cb
              have hnd : W.view.2[k2]? = some (W.view.2.getD k2 (0, [])) := by rw [List.getD_eq_getElem?_getD, List.getElem?_eq_getElem hl2]; rfl
              have hmem := List.mem_of_getElem? hnd
              have hft := Lib.hid (fitsW_code (SN.out.fits R.out.hw WT.out _ hmem))
              have hln := LN.out.2.2 _ hmem
              have hrf := SN.out.refs.2 _ hmem
              rw [HNN.out] at hrf
              have HRF := Lib.hid hrf; have HND := Lib.hid hnd
              clear hmem hrf hnd hfl N
              obtain ⟨nd, hne⟩ : ∃ nd, W.view.2.getD k2 (0, []) = nd := ⟨_, rfl⟩
              have HNE := Lib.hid hne
              rw [hne] at n0 n1 rd3 hln HRF HND hft
              clear hne
              obtain ⟨nk, fs⟩ := nd
              dsimp only at n0 n1 rd3 hln
              have RD3 := Lib.hid rd3
              clear rd3
              go_wp2_with fail
              refine wp_region_ro (.free 1 (.pure 0 (.free 2 (.pure 3 (.free 4 (.free 5 (.free 6 (.free 8 (.free 12 (.free 14 (.pure 7 (.free 9 (.free 10 (.pure 11 (.pure 13 (.free 15 (.free 16 (.pure 17 (.free 18 (.run 19 (.swi [] (.free 20 (.free 21 (.fin)))))))))))))))))))))))) [19, 20, 21] (fun w' => w'.cell? ⟨bl, 0, none⟩ = some (.slice (some ⟨gl, 0, none⟩) nn nn) ∧ w'.cell? ⟨gl, k2, none⟩ = some (.bool true) ∧ w'.cell? ⟨bv, 1, none⟩ = some (.slice (some ⟨g3, o3, none⟩) nn nc) ∧ w'.cell? ⟨g3, o3 + k2 * 2, none⟩ = some (.int .i64 nk) ∧ w'.cell? ⟨g3, o3 + k2 * 2 + 1, none⟩ = some (.slice ao3 fs.length ac3)) (by kernel_rfl) (by kernel_rfl) ⟨cb, cg, a1, n0, n1⟩ ?_
              first | (refine wpRO_free rfl rfl _ (fun w' => by go_simp; exact Gives.mk _ _) (fun K hK => ?_); go_simp; refine hK _ ?_; clear hK K) | (refine wpRO_skipF rfl rfl (fun K hK => ?_); go_simp; refine hK _ ?_; clear hK K)
              first | (refine wpRO_pure rfl rfl _ (fun w' hG => by obtain ⟨g0, g1, g2, g3', g4⟩ := hG; exact gives_agg2 rfl (by decide +kernel) rfl (by assumption) (by assumption)) (fun K hK => ?_); go_simp; refine hK _ ?_; clear hK K) | (refine wpRO_pure rfl rfl _ (fun w' hG => by obtain ⟨g0, g1, g2, g3', g4⟩ := hG; go_simp; exact Gives.mk _ _) (fun K hK => ?_); go_simp; refine hK _ ?_; clear hK K) | (refine wpRO_skip rfl rfl (fun K hK => ?_); go_simp; refine hK _ ?_; clear hK K)
              first | (refine wpRO_free rfl rfl _ (fun w' => by go_simp; exact Gives.mk _ _) (fun K hK => ?_); go_simp; refine hK _ ?_; clear hK K) | (refine wpRO_skipF rfl rfl (fun K hK => ?_); go_simp; refine hK _ ?_; clear hK K)
              first | (refine wpRO_pure rfl rfl _ (fun w' hG => by obtain ⟨g0, g1, g2, g3', g4⟩ := hG; exact gives_agg2 rfl (by decide +kernel) rfl (by assumption) (by assumption)) (fun K hK => ?_); go_simp; refine hK _ ?_; clear hK K) | (refine wpRO_pure rfl rfl _ (fun w' hG => by obtain ⟨g0, g1, g2, g3', g4⟩ := hG; go_simp; exact Gives.mk _ _) (fun K hK => ?_); go_simp; refine hK _ ?_; clear hK K) | (refine wpRO_skip rfl rfl (fun K hK => ?_); go_simp; refine hK _ ?_; clear hK K)
              first | (refine wpRO_free rfl rfl _ (fun w' => by go_simp; exact Gives.mk _ _) (fun K hK => ?_); go_simp; refine hK _ ?_; clear hK K) | (refine wpRO_skipF rfl rfl (fun K hK => ?_); go_simp; refine hK _ ?_; clear hK K)
              first | (refine wpRO_free rfl rfl _ (fun w' => by go_simp; exact Gives.mk _ _) (fun K hK => ?_); go_simp; refine hK _ ?_; clear hK K) | (refine wpRO_skipF rfl rfl (fun K hK => ?_); go_simp; refine hK _ ?_; clear hK K)
              first | (refine wpRO_free rfl rfl _ (fun w' => by go_simp; exact Gives.mk _ _) (fun K hK => ?_); go_simp; refine hK _ ?_; clear hK K) | (refine wpRO_skipF rfl rfl (fun K hK => ?_); go_simp; refine hK _ ?_; clear hK K)
              first | (refine wpRO_free rfl rfl _ (fun w' => by go_simp; exact Gives.mk _ _) (fun K hK => ?_); go_simp; refine hK _ ?_; clear hK K) | (refine wpRO_skipF rfl rfl (fun K hK => ?_); go_simp; refine hK _ ?_; clear hK K)
              first | (refine wpRO_free rfl rfl _ (fun w' => by go_simp; exact Gives.mk _ _) (fun K hK => ?_); go_simp; refine hK _ ?_; clear hK K) | (refine wpRO_skipF rfl rfl (fun K hK => ?_); go_simp; refine hK _ ?_; clear hK K)
              first | (refine wpRO_free rfl rfl _ (fun w' => by go_simp; exact Gives.mk _ _) (fun K hK => ?_); go_simp; refine hK _ ?_; clear hK K) | (refine wpRO_skipF rfl rfl (fun K hK => ?_); go_simp; refine hK _ ?_; clear hK K)
              first | (refine wpRO_pure rfl rfl _ (fun w' hG => by obtain ⟨g0, g1, g2, g3', g4⟩ := hG; exact gives_agg2 rfl (by decide +kernel) rfl (by assumption) (by assumption)) (fun K hK => ?_); go_simp; refine hK _ ?_; clear hK K) | (refine wpRO_pure rfl rfl _ (fun w' hG => by obtain ⟨g0, g1, g2, g3', g4⟩ := hG; go_simp; exact Gives.mk _ _) (fun K hK => ?_); go_simp; refine hK _ ?_; clear hK K) | (refine wpRO_skip rfl rfl (fun K hK => ?_); go_simp; refine hK _ ?_; clear hK K)
              first | (refine wpRO_free rfl rfl _ (fun w' => by go_simp; exact Gives.mk _ _) (fun K hK => ?_); go_simp; refine hK _ ?_; clear hK K) | (refine wpRO_skipF rfl rfl (fun K hK => ?_); go_simp; refine hK _ ?_; clear hK K)
              first | (refine wpRO_free rfl rfl _ (fun w' => by go_simp; exact Gives.mk _ _) (fun K hK => ?_); go_simp; refine hK _ ?_; clear hK K) | (refine wpRO_skipF rfl rfl (fun K hK => ?_); go_simp; refine hK _ ?_; clear hK K)
              first | (refine wpRO_pure rfl rfl _ (fun w' hG => by obtain ⟨g0, g1, g2, g3', g4⟩ := hG; exact gives_agg2 rfl (by decide +kernel) rfl (by assumption) (by assumption)) (fun K hK => ?_); go_simp; refine hK _ ?_; clear hK K) | (refine wpRO_pure rfl rfl _ (fun w' hG => by obtain ⟨g0, g1, g2, g3', g4⟩ := hG; go_simp; exact Gives.mk _ _) (fun K hK => ?_); go_simp; refine hK _ ?_; clear hK K) | (refine wpRO_skip rfl rfl (fun K hK => ?_); go_simp; refine hK _ ?_; clear hK K)
              first | (refine wpRO_pure rfl rfl _ (fun w' hG => by obtain ⟨g0, g1, g2, g3', g4⟩ := hG; exact gives_agg2 rfl (by decide +kernel) rfl (by assumption) (by assumption)) (fun K hK => ?_); go_simp; refine hK _ ?_; clear hK K) | (refine wpRO_pure rfl rfl _ (fun w' hG => by obtain ⟨g0, g1, g2, g3', g4⟩ := hG; go_simp; exact Gives.mk _ _) (fun K hK => ?_); go_simp; refine hK _ ?_; clear hK K) | (refine wpRO_skip rfl rfl (fun K hK => ?_); go_simp; refine hK _ ?_; clear hK K)
              first | (refine wpRO_free rfl rfl _ (fun w' => by go_simp; exact Gives.mk _ _) (fun K hK => ?_); go_simp; refine hK _ ?_; clear hK K) | (refine wpRO_skipF rfl rfl (fun K hK => ?_); go_simp; refine hK _ ?_; clear hK K)
              first | (refine wpRO_free rfl rfl _ (fun w' => by go_simp; exact Gives.mk _ _) (fun K hK => ?_); go_simp; refine hK _ ?_; clear hK K) | (refine wpRO_skipF rfl rfl (fun K hK => ?_); go_simp; refine hK _ ?_; clear hK K)
              first | (refine wpRO_pure rfl rfl _ (fun w' hG => by obtain ⟨g0, g1, g2, g3', g4⟩ := hG; exact gives_agg2 rfl (by decide +kernel) rfl (by assumption) (by assumption)) (fun K hK => ?_); go_simp; refine hK _ ?_; clear hK K) | (refine wpRO_pure rfl rfl _ (fun w' hG => by obtain ⟨g0, g1, g2, g3', g4⟩ := hG; go_simp; exact Gives.mk _ _) (fun K hK => ?_); go_simp; refine hK _ ?_; clear hK K) | (refine wpRO_skip rfl rfl (fun K hK => ?_); go_simp; refine hK _ ?_; clear hK K)
              first | (refine wpRO_free rfl rfl _ (fun w' => by go_simp; exact Gives.mk _ _) (fun K hK => ?_); go_simp; refine hK _ ?_; clear hK K) | (refine wpRO_skipF rfl rfl (fun K hK => ?_); go_simp; refine hK _ ?_; clear hK K)
              refine wpRO_run rfl rfl (fun K hK => ?_); unfold gRun; go_simp
              refine (Fits_c _ _ _ (by omega) (by omega)).mono ?_
              rintro e w12 ⟨rfl, rfl⟩
              rw [hft.out]
              refine hK _ _ (fun _ => ⟨by assumption, by assumption, by assumption, by assumption, by assumption⟩) ?_
              clear hK K
              refine wpRO_swi (fun _ => True) trivial ?_
              first | (refine wpRO_free rfl rfl _ (fun w' => by go_simp; exact Gives.mk _ _) (fun K hK => ?_); go_simp; refine hK _ ?_; clear hK K) | (refine wpRO_skipF rfl rfl (fun K hK => ?_); go_simp; refine hK _ ?_; clear hK K)
              first | (refine wpRO_free rfl rfl _ (fun w' => by go_simp; exact Gives.mk _ _) (fun K hK => ?_); go_simp; refine hK _ ?_; clear hK K) | (refine wpRO_skipF rfl rfl (fun K hK => ?_); go_simp; refine hK _ ?_; clear hK K)
              refine wpRO_fin ?_
              clear cb cg cl cgl n0 n1 a1 al
              have HLd := Lib.hid (HL.out.keep ((Keeps.refl (fun _ => False) wr2).drew)); have KPd := Lib.hid KP.out.drew
              clear HL KP
              generalize wr2.drew = wd at *
              go_wp2_with fail
              refine wp_loop_over (fun i => Nat.blt 230 i || Nat.beq i 24) (fun s wr => ∃ (k : Nat) (led : List Bool), k ≤ fs.length ∧ s 24 = .int .i64 k ∧ LedAt wr bv bl gl ro (some ⟨g3, o3, none⟩) 12 nn rc nc led ∧ LedIn W.view led W.view.1.length k2 k ∧ Keeps (fun _ => False) w10 wr) (fun s _ => fs.length - (intOf (s 24)).toNat) ?_ ?_
              · exact ⟨0, _, Nat.zero_le _, rfl, HLd.out, LI.out, KPd.out⟩
              · intro u3 wr3 hrel K3 hK3
                clear HLd KPd LI
                obtain ⟨k3, led, hk3, e24, hL, hI, hKp⟩ := hrel
                have e24 : u3 24 = .int .i64 k3 := e24
                have HL := Lib.hid hL; have LI := Lib.hid hI; have KP := Lib.hid hKp
                clear hL hI hKp
                simp only [overA, overL, List.toList_toArray, Nat.blt, Nat.beq, Nat.ble, Nat.reduceAdd, Bool.or_false, Bool.false_or, Bool.or_true, Bool.true_or, Bool.and_true, Bool.true_and, Bool.and_false, Bool.false_and, cond_true, cond_false]
                rw [e24]
                have E24 := Lib.hid e24; clear e24
                have a1 := HL.out.hv.cell 1; have al := HL.out.hv.lt
                simp only [List.getElem?_cons_zero, List.getElem?_cons_succ] at a1
                obtain ⟨_, _, e', N⟩ := (NAX.out.keep KP.out (fun _ _ _ h => h) (fun _ _ h => h)).nth
                rw [HNN.out] at e'; cases e'
                obtain ⟨_, _, ao4, ac4, e', hg4, n0, n1, rd4, -⟩ := N k2 hl2
                cases e'
                rw [HNE.out] at n0 n1 rd4
                dsimp only at n0 n1 rd4
                clear N
                by_cases hlt3 : k3 < fs.length
                · as_aux_lemma =>
                  obtain ⟨g5, o5, e5, hg5, d0, d1⟩ := rd4.val k3 hlt3
                  subst e5
                  have hv3 : fs[k3]? = some (fs.getD k3 (0, 0)) := by rw [List.getD_eq_getElem?_getD, List.getElem?_eq_getElem hlt3]; rfl
                  have hb3 := HRF.out (fs.getD k3 (0, 0)) (List.mem_of_getElem? hv3)
                  have LI1 := Lib.hid (LI.out.field HND.out hv3 (by rw [HL.out.ln]; exact hb3))
                  have HB3 := Lib.hid hb3
                  clear hv3 hb3 rd4
                  generalize fs.getD k3 (0, 0) = v at *
                  obtain ⟨va, vb⟩ := v
                  have ea := wvA
                  go_wp2_with (refine wpList_agg rfl 78 (.tmp 250) rfl [.int .i64 va, .int .i64 vb] (by kernel_rfl) g5 (o5 + k3 * 2) rfl (rangeAt_cons d0 (rangeAt_cons d1 rangeAt_nil)) ?_)
                  refine (See_c (va, vb) _ HL.out HB3.out (by omega)).mono ?_
                  rintro e w12 ⟨rfl, hL2, hk4⟩
                  have KP2 := Lib.hid (KP.out.then hk4 (fun b hb => .inr (by have := HGZ.out; omega)))
                  have HL2 := Lib.hid hL2
                  clear hL2 hk4 a1 al d0 d1 KP HL LI ea n0 n1
                  go_wp2_with fail
                  refine ⟨⟨by kernel_rfl, ?rel⟩, ?measure⟩
                  case rel => exact ⟨k3 + 1, _, hlt3, by go_num, HL2.out, LI1.out, KP2.out⟩
                  case measure => exact meas_lt (by go_num) (by first | rfl | exact E24.out) hlt3
                · obtain rfl : k3 = fs.length := by omega
                  as_aux_lemma =>
                  clear rd4
                  have LI1 := Lib.hid (LedIn.node HND.out LI.out)
                  go_wp2_with fail
                  refine ⟨⟨by kernel_rfl, ?rel⟩, ?measure⟩
                  case rel => exact ⟨k2 + 1, _, hlt2, by go_num, HL.out, LI1.out, KP.out⟩
                  case measure => exact meas_lt (by go_num) (by first | rfl | exact E23.out) hlt2
            · obtain rfl : k2 = nn := by omega
              as_aux_lemma =>
              go_wp2_with fail
              go_ret
              exact ⟨rfl, (M10.out.same KP.out).K⟩
      -->tail

end Go.Proofs.Ytjifdalflepcoab
