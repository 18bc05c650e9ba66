/-
  words.keep (law04.go), which calls itself.
-/
import Derived.Test.YtjifdalflepcoaaWords
namespace Go.Proofs.Ytjifdalflepcoaa
open Go.RowKit
set_option linter.unusedVariables false
set_option linter.unusedSimpArgs false

theorem keepW_un {leads : List (Int × Int)} {T : List Int} (hT : ∀ e ∈ leads, e.2 ∈ T) : ∀ (n : Nat) (a : List Int) (x : Int), x ∈ T → (keepW leads n a x).length + unT T (keepW leads n a x) ≤ a.length + unT T a ∧ unT T (keepW leads n a x) ≤ unT T a
  | 0, a, x, _ => by simp [keepW]
  | n + 1, a, x, hx => by
    unfold keepW
    split
    · exact ⟨Nat.le_refl _, Nat.le_refl _⟩
    · rename_i hc
      have hc : a.contains x = false := by simpa using hc
      have h0 := unT_app hx hc
      have key : ∀ (l : List (Int × Int)) (b : List Int), (∀ e ∈ l, e.2 ∈ T) → (l.foldl (fun a e => if e.1 = x then keepW leads n a e.2 else a) b).length + unT T (l.foldl (fun a e => if e.1 = x then keepW leads n a e.2 else a) b) ≤ b.length + unT T b ∧ unT T (l.foldl (fun a e => if e.1 = x then keepW leads n a e.2 else a) b) ≤ unT T b := by
        intro l
        induction l with
        | nil => intro b _; exact ⟨Nat.le_refl _, Nat.le_refl _⟩
        | cons e l ih =>
          intro b hl
          rw [List.foldl_cons]
          have h1 := ih (if e.1 = x then keepW leads n b e.2 else b) (fun e' he => hl e' (by simp [he]))
          split at h1
          · rename_i hex
            have h2 := keepW_un hT n b e.2 (hl e (by simp))
            rw [if_pos hex]
            omega
          · rename_i hex
            rw [if_neg hex]
            exact h1
      have h1 := key leads (a ++ [x]) hT
      simp only [List.length_append, List.length_cons, List.length_nil] at h1
      omega

set_option maxHeartbeats 2000000 in
set_option maxRecDepth 100000 in
theorem keep_yes (q : Nat) (av lv : Value) (alive : List Int) (leads : List (Int × Int)) (x : Int) (w : World) (h : WordsAt w q av lv alive leads) (hc : alive.contains x = true) (hb : alive.length ≤ 100000) :
    Calls Try.prog 29 #[.pointer (some ⟨q, 0, none⟩), .int .i64 x] w fun e w' => KeepTo w q av lv alive leads x e w' := by
  have H := Lib.hid h; clear h
  go_enter Try.func29, Try.ntmps29
  go_wp2_with fail
  refine (is_c q av lv alive leads x _ H.out (by omega)).mono ?_
  rintro e w1 ⟨rfl, rfl⟩
  rw [hc]
  go_wp2_with fail
  go_ret
  exact ⟨rfl, av, H.out, Keeps.refl _ _, fun b hb => .inl hb⟩

/-- Behind k leads. -/
def foldW (leads : List (Int × Int)) (n : Nat) (alive : List Int) (x : Int) (k : Nat) : List Int := (leads.take k).foldl (fun a e => if e.1 = x then keepW leads n a e.2 else a) (alive ++ [x])

set_option maxHeartbeats 2000000 in
set_option maxRecDepth 100000 in
theorem keep_c : ∀ (n q : Nat) (av lv : Value) (alive : List Int) (leads : List (Int × Int)) (T : List Int) (x : Int) (w : World), WordsAt w q av lv alive leads → x ∈ T → (∀ e ∈ leads, e.2 ∈ T) → unT T alive ≤ n → alive.length + unT T alive ≤ 100000 → leads.length ≤ 100000 →
    Calls Try.prog 29 #[.pointer (some ⟨q, 0, none⟩), .int .i64 x] w fun e w' => KeepTo w q av lv (keepW leads n alive x) leads x e w' := by
  intro n
  induction n with
  | zero =>
    intro q av lv alive leads T x w h hx hT hn hb hl
    have hc : alive.contains x = true := by
      cases hc : alive.contains x
      · have := unT_app hx hc; omega
      · rfl
    exact keep_yes q av lv alive leads x w h hc (by omega)
  | succ n ih =>
    intro q av lv alive leads T x w h hx hT hn hb hl
    cases hc : alive.contains x
    · obtain ⟨i0, hi, hz0, hz1, hz2⟩ := info_parts info_int64
      have Hi := Lib.hid hi; have Hz0 := Lib.hid hz0; have Hz1 := Lib.hid hz1; have Hz2 := Lib.hid hz2; clear hi hz0 hz1 hz2
      have H := Lib.hid h
      have hu := unT_app hx hc
      have HT := Lib.hid hT
      obtain ⟨ao, ac, rfl, _, _, _⟩ := h.ha.rd
      obtain ⟨lo, lc, rfl, _, _, _⟩ := h.hl.rd
      have q0 := h.hq.cell 0
      have ql := h.hq.lt
      simp only [List.getElem?_cons_zero] at q0
      clear h hT
      go_enter Try.func29, Try.ntmps29
      go_wp2_with fail
      refine (is_c q _ _ alive leads x _ H.out (by omega)).mono ?_
      rintro e w1 ⟨rfl, rfl⟩
      rw [hc]
      go_wp2_with (at_builtin; refine wpList_app rfl (.tmp 14) (.tmp 16) 32 rfl 2 i0 (.int .i64 0) 1 8 Try.underlying32 Hi.out Hz0.out Hz1.out Hz2.out rfl (by decide) _ alive.length (alive.map (Value.int .i64)) rfl ?ha ⟨w.heap.size, 0, none⟩ 1 1 [.int .i64 x] rfl rfl ?hb ?hc ?hd ?he ?hf)
      case ha => exact H.out.ha.keep ((Keeps.refl (fun _ => False) w).alloc _) (fun _ _ h => h)
      case hb => exact news_at w 2 #[.int .i64 x]
      case hc => intro u hu; simp at hu; subst hu; rfl
      case hd => unfold maxLen; omega
      case he => omega
      case hf =>
        intro v2 w2 hs2 hk2 ho2
        have hka := (Keeps.refl (fun _ => False) w).alloc (.cells #[.int .i64 x] 2)
        have hw2 := (H.out.keep hka (fun _ _ h => h)).app hs2 hk2
        obtain ⟨vo, vc, e2, _, _, _⟩ := hs2.rd
        subst e2
        have hkw : Keeps (fun b => b = q ∨ ownB (.slice ao alive.length ac) b) w w2 := (hka.mono fun _ _ h => h.elim).trans (hk2.mono fun _ _ h => .inr h)
        have HK := Lib.hid (hkw.setCell (p := ⟨q, 0, none⟩) (.inl (.inl rfl)) (.slice vo (alive.length + 1) vc))
        have HO : Hid (∀ b, ownB (.slice vo (alive.length + 1) vc) b → ownB (.slice ao alive.length ac) b ∨ w.heap.size ≤ b) := fun b hb => by
          rcases ho2 b hb with h | h
          · exact .inl h
          · first | exact .inr (by omega) | (simp at h; exact .inr (by omega))
        have HW := Lib.hid hw2
        have r0 := (hk2.blk (hka.blk H.out.hq (fun h => h)) (fun hb => by
          obtain ⟨_, cur, hc⟩ := H.out.ha.own hb
          exact H.out.hq.ne hc (by decide) rfl)).cell 0
        have rf := (hk2.blk (hka.blk H.out.hq (fun h => h)) (fun hb => by
          obtain ⟨_, cur, hc⟩ := H.out.ha.own hb
          exact H.out.hq.ne hc (by decide) rfl)).free 0
        have rl := (hk2.blk (hka.blk H.out.hq (fun h => h)) (fun hb => by
          obtain ⟨_, cur, hc⟩ := H.out.ha.own hb
          exact H.out.hq.ne hc (by decide) rfl)).lt
        simp only [List.getElem?_cons_zero] at r0
        clear hs2 hk2 ho2 hka hw2 hkw q0
        have hun : ∀ k, k ≤ leads.length → unT T ((leads.take k).foldl (fun a e => if e.1 = x then keepW leads n a e.2 else a) (alive ++ [x])) ≤ n ∧ ((leads.take k).foldl (fun a e => if e.1 = x then keepW leads n a e.2 else a) (alive ++ [x])).length + unT T ((leads.take k).foldl (fun a e => if e.1 = x then keepW leads n a e.2 else a) (alive ++ [x])) ≤ 100000 := by
          intro k
          induction k with
          | zero => intro _; simp only [List.take_zero, List.foldl_nil, List.length_append, List.length_cons, List.length_nil]; omega
          | succ k ih2 =>
            intro hk
            have i2 := ih2 (by omega)
            rw [List.take_succ_eq_append_getElem (by omega), List.foldl_append, List.foldl_cons, List.foldl_nil]
            split
            · have := keepW_un HT.out n ((leads.take k).foldl (fun a e => if e.1 = x then keepW leads n a e.2 else a) (alive ++ [x])) (leads[k]'(by omega)).2 (HT.out _ (List.getElem_mem (by omega)))
              omega
            · exact i2
        have hstep : ∀ k, (hk : k < leads.length) → (leads.take (k + 1)).foldl (fun a e => if e.1 = x then keepW leads n a e.2 else a) (alive ++ [x]) = if (leads.getD k (0, 0)).1 = x then keepW leads n ((leads.take k).foldl (fun a e => if e.1 = x then keepW leads n a e.2 else a) (alive ++ [x])) (leads.getD k (0, 0)).2 else (leads.take k).foldl (fun a e => if e.1 = x then keepW leads n a e.2 else a) (alive ++ [x]) := by
          intro k hk
          have hg : leads.getD k (0, 0) = leads[k] := by simp [List.getD, hk]
          rw [hg, List.take_succ_eq_append_getElem hk, List.foldl_append, List.foldl_cons, List.foldl_nil]
        have hend : keepW leads (n + 1) alive x = (leads.take leads.length).foldl (fun a e => if e.1 = x then keepW leads n a e.2 else a) (alive ++ [x]) := by
          rw [List.take_length]; show (if alive.contains x then _ else _) = _; rw [hc]; rfl
        have HUN : Hid (∀ k, k ≤ leads.length → unT T (foldW leads n alive x k) ≤ n ∧ (foldW leads n alive x k).length + unT T (foldW leads n alive x k) ≤ 100000) := hun
        have HST : Hid (∀ k, k < leads.length → foldW leads n alive x (k + 1) = if (leads.getD k (0, 0)).1 = x then keepW leads n (foldW leads n alive x k) (leads.getD k (0, 0)).2 else foldW leads n alive x k) := hstep
        have HEN : Hid (keepW leads (n + 1) alive x = foldW leads n alive x leads.length) := hend
        have HBG : Hid (foldW leads n alive x 0 = alive ++ [x]) := rfl
        clear hun hstep hend
        go_wp2_with fail
        go_loopw [5] (fun i wr => ∃ (k : Nat) (av' : Value), k ≤ leads.length ∧ i = .int .i64 k ∧ WordsAt wr q av' (.slice lo leads.length lc) (foldW leads n alive x k) leads ∧ Keeps (fun b => b = q ∨ ownB (.slice ao alive.length ac) b) w wr ∧ ∀ b, ownB av' b → ownB (.slice ao alive.length ac) b ∨ w.heap.size ≤ b) (fun i _ => leads.length - (intOf i).toNat)
        case atStart => exact ⟨0, _, Nat.zero_le _, rfl, by rw [HBG.out]; exact HW.out, HK.out, HO.out⟩
        case round =>
          obtain ⟨k, av', hk, rfl, hw, hkk, how⟩ := hrel
          have GW := Lib.hid hw; have GK := Lib.hid hkk; have GO := Lib.hid how
          clear r0 rl rf
          have c1 := hw.hq.cell 1
          have ql2 := hw.hq.lt
          simp only [List.getElem?_cons_zero, List.getElem?_cons_succ] at c1
          obtain ⟨_, _, e', hrd, _, _⟩ := hw.hl.rd
          cases e'
          clear hw hkk how
          by_cases hlt : k < leads.length
          · obtain ⟨g, o, rfl, hgl, d0, d1⟩ := hrd.ent k hlt
            have hs := HST.out k hlt
            have hu2 := HUN.out k (by omega)
            have hvt := HT.out (leads.getD k (0, 0)) (by simp [List.getD, hlt])
            generalize leads.getD k (0, 0) = v at *
            have KS := Lib.hid hs; have KU := Lib.hid hu2; have KT := Lib.hid hvt
            clear hs hu2 hvt hrd
            by_cases hv : v.1 = x
            · have hvb : (v.1 == x) = true := by simpa using hv
              go_wp2_with fail
              refine (ih q av' _ (foldW leads n alive x k) leads T v.2 _ GW.out KT.out HT.out KU.out.1 KU.out.2 hl).mono ?_
              rintro e w3 ⟨rfl, av3, h3, hk3, ho3⟩
              have K3 := Lib.hid h3
              have KK3 := Lib.hid (GK.out.then hk3 (fun b hb => by
                rcases hb with hb | hb
                · exact .inl (.inl hb)
                · rcases GO.out b hb with h | h
                  · exact .inl (.inr h)
                  · exact .inr h))
              have KO3 : Hid (∀ b, ownB av3 b → ownB (.slice ao alive.length ac) b ∨ w.heap.size ≤ b) := fun b hb => by
                rcases ho3 b hb with h | h
                · exact GO.out b h
                · exact .inr (Nat.le_trans GK.out.size h)
              clear h3 hk3 ho3
              go_wp2_with fail
              go_roundw
              case rel => exact ⟨k + 1, av3, by omega, by go_num, by rw [KS.out, if_pos hv]; exact K3.out, KK3.out, KO3.out⟩
              case measure => simp [intOf]; omega
            · have hvb : (v.1 == x) = false := by simpa using hv
              go_wp2_with fail
              go_roundw
              case rel => exact ⟨k + 1, av', by omega, by go_num, by rw [KS.out, if_neg hv]; exact GW.out, GK.out, GO.out⟩
              case measure => simp [intOf]; omega
          · obtain rfl : k = leads.length := by omega
            go_wp2_with fail
            go_ret
            exact ⟨rfl, av', by rw [HEN.out]; exact GW.out, GK.out, GO.out⟩
    · have : keepW leads (n + 1) alive x = alive := by unfold keepW; rw [if_pos hc]
      rw [this]
      exact keep_yes q av lv alive leads x w h hc (by omega)

end Go.Proofs.Ytjifdalflepcoaa
