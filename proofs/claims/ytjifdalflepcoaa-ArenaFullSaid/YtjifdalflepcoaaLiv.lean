/-
  What a cut tells of guardians and things: side.Living, as a specification; and side.Wake under it.
-/
import Derived.Test.YtjifdalflepcoaaSide3
namespace Go.Proofs.Ytjifdalflepcoaa
open Go.RowKit
set_option linter.unusedVariables false
set_option linter.unusedSimpArgs false

/-- The blocks F have none in common with the Side's. -/
def Apart (F : Nat → Prop) (p : Nat) (rv wv : Value) : Prop := ∀ k, ¬ (F k ∧ SideFp p rv wv k)

/-- Alive, Keep and Now, of a state t that stands in memory (J, in the blocks F), for the Side at p. -/
structure Liv (P : Program) (p : Nat) (τ : Type) where
  J : World → τ → (Nat → Prop) → Prop
  D : τ → Int → Prop
  DK : τ → Int → Prop
  alive : τ → Int → Bool
  keep : τ → List (Int × Int) → Int → τ × List (Int × Int) × Int
  now : τ → Int → Int
  fa : FuncId
  fk : FuncId
  fn : FuncId
  a1 : Array Value
  a2 : Array Value
  k1 : Array Value
  k2 : Array Value
  n1 : Array Value
  n2 : Array Value
  ea : ∀ (args : Array Value) (w : World), (callFunc fa args).run P w = .ok (.enter fa args) w
  ek : ∀ (args : Array Value) (w : World), (callFunc fk args).run P w = .ok (.enter fk args) w
  en : ∀ (args : Array Value) (w : World), (callFunc fn args).run P w = .ok (.enter fn args) w
  J_keep : ∀ {w w' t F S}, J w t F → Keeps S w w' → (∀ k, F k → ¬ S k) → J w' t F
  J_lt : ∀ {w t F k}, J w t F → F k → k < w.heap.size
  alive_c : ∀ (w t F x), J w t F → D t x → Calls P fa (a1.push (.int .i64 x) ++ a2) w fun e w' => e = .returned (.bool (alive t x)) ∧ Keeps (fun _ => False) w w'
  now_c : ∀ (w t F x), J w t F → D t x → Calls P fn (n1.push (.int .i64 x) ++ n2) w fun e w' => e = .returned (.int .i64 (now t x)) ∧ Keeps (fun _ => False) w w'
  keep_c : ∀ (w t F rv wv regs wait x), J w t F → SideAt w p rv wv regs wait → Apart F p rv wv → DK t x → (∀ e ∈ wait, D t e.1 ∧ D t e.2) →
    Calls P fk (k1.push (.int .i64 x) ++ k2) w fun e w' => e = .returned (.int .i64 (keep t wait x).2.2) ∧ ∃ F', J w' (keep t wait x).1 F' ∧ SideAt w' p rv wv regs (keep t wait x).2.1 ∧ Apart F' p rv wv ∧
      Keeps (fun k => F k ∨ SideFp p rv wv k) w w' ∧ ∀ k, F' k → F k ∨ w.heap.size ≤ k
  DK_D : ∀ {t x}, DK t x → D t x
  DK_keep : ∀ {t wait x y}, DK t x → DK t y → DK (keep t wait x).1 y
  D_keep : ∀ {t wait x y}, DK t x → D t y → D (keep t wait x).1 y
  D_new : ∀ {t wait x}, DK t x → D (keep t wait x).1 (keep t wait x).2.2
  D_wait : ∀ {t wait x}, DK t x → (∀ e ∈ wait, D t e.1 ∧ D t e.2) → ∀ e ∈ (keep t wait x).2.1, D (keep t wait x).1 e.1 ∧ D (keep t wait x).1 e.2
  keep_len : ∀ {t wait x}, (keep t wait x).2.1.length = wait.length

/-- The struct Living, as a value. -/
def Liv.val {P : Program} {p : Nat} {τ : Type} (L : Liv P p τ) : Value :=
  .agg #[.func (.func L.fa) L.a1 L.a2, .func (.func L.fk) L.k1 L.k2, .func (.func L.fn) L.n1 L.n2]

variable {τ : Type}

/-- What Wake does, if Keep leaves alone what waits. -/
def wakeM (alive : τ → Int → Bool) (keep : τ → Int → τ × Int) : τ → List (Int × Int) → τ × List (Int × Int) × Bool
  | t, [] => (t, [], false)
  | t, e :: l =>
    if alive t e.1 && !alive t e.2 then
      let r := wakeM alive keep (keep t e.2).1 l
      (r.1, (e.1, (keep t e.2).2) :: r.2.1, true)
    else
      let r := wakeM alive keep t l
      (r.1, e :: r.2.1, r.2.2)

theorem entV_app (a b : List (Int × Int)) : entV (a ++ b) = entV a ++ entV b := by simp [entV]

theorem entV_set (pre rest : List (Int × Int)) (v : Int × Int) (x : Int) : entV (pre ++ (v.1, x) :: rest) = (entV (pre ++ v :: rest)).set (pre.length * 2 + 1) (.int .i64 x) := by
  rw [entV_app, entV_app, entV_cons, entV_cons, List.set_append_right _ _ (by rw [entV_length]; omega), entV_length, show pre.length * 2 + 1 - pre.length * 2 = 1 by omega]
  rfl

theorem SideAt.setThing {w : World} {p g o cap n : Nat} {rv : Value} {regs pre rest : List (Int × Int)} {v : Int × Int} (x : Int) (h : SideAt w p rv (.slice (some ⟨g, o, none⟩) n cap) regs (pre ++ v :: rest)) :
    SideAt (w.setCell ⟨g, o + pre.length * 2 + 1, none⟩ (.int .i64 x)) p rv (.slice (some ⟨g, o, none⟩) n cap) regs (pre ++ (v.1, x) :: rest) := by
  have hpg : p ≠ g := fun e => h.pw (by subst e; rfl)
  have hk := (Keeps.refl (· = g) w).setCell (p := ⟨g, o + pre.length * 2 + 1, none⟩) (.inl rfl) (.int .i64 x)
  refine ⟨h.hp.setOther (a := ⟨g, _, none⟩) hpg _, h.hr.keep hk (by rintro b hb rfl; exact h.ap b ⟨hb, rfl⟩), ?_, h.ap⟩
  have hlen : (pre ++ (v.1, x) :: rest).length = (pre ++ v :: rest).length := by simp
  obtain ⟨g', o', cap', cur, e, hb, h1, h2, h3, h4⟩ := h.hw.some (by simp; omega)
  cases e
  rw [hlen]
  refine ⟨by rw [entV_length, hlen], .inr ⟨g, o, cap, _, rfl, hb.setSame _ _, h1, h2, by simpa using h3, ?_⟩⟩
  rw [entV_set, ← h4]
  apply List.ext_getElem?
  intro j
  simp only [List.getElem?_take, List.getElem?_drop, List.getElem?_set, List.length_set, List.length_take, List.length_drop]
  by_cases hj : j < (pre ++ v :: rest).length * 2
  · rw [if_pos hj, if_pos hj]
    by_cases e : pre.length * 2 + 1 = j
    · subst e
      have hl : (pre ++ v :: rest).length = pre.length + 1 + rest.length := by simp; omega
      rw [if_pos (by omega), if_pos rfl, if_pos (by omega), if_pos (by omega)]
    · rw [if_neg (by omega), if_neg e]
  · rw [if_neg hj]
    by_cases e : pre.length * 2 + 1 = j
    · rw [if_pos e, if_neg (by omega)]
    · rw [if_neg e, if_neg hj]

/-- In the midst of Wake: k entries have been gone over. -/
def WakeIn {P : Program} {p : Nat} (L : Liv P p τ) (kp : τ → Int → τ × Int) (t : τ) (F : Nat → Prop) (rv wv : Value) (regs wait : List (Int × Int)) (w wr : World) (k : Nat) (woke : Bool) : Prop :=
  ∃ tk Fk pre, pre.length = k ∧ L.J wr tk Fk ∧ SideAt wr p rv wv regs (pre ++ wait.drop k) ∧ Apart Fk p rv wv ∧ Keeps (fun b => F b ∨ SideFp p rv wv b) w wr ∧ (∀ b, Fk b → F b ∨ w.heap.size ≤ b) ∧
    (∀ e ∈ pre ++ wait.drop k, L.D tk e.1 ∧ L.D tk e.2) ∧
    wakeM L.alive kp t wait = ((wakeM L.alive kp tk (wait.drop k)).1, pre ++ (wakeM L.alive kp tk (wait.drop k)).2.1, woke || (wakeM L.alive kp tk (wait.drop k)).2.2)

/-- Behind Wake. -/
def WakeTo {P : Program} {p : Nat} (L : Liv P p τ) (kp : τ → Int → τ × Int) (t : τ) (F : Nat → Prop) (rv wv : Value) (regs wait : List (Int × Int)) (w : World) (e : Ending) (w' : World) : Prop :=
  e = .returned (.bool (wakeM L.alive kp t wait).2.2) ∧ ∃ F', L.J w' (wakeM L.alive kp t wait).1 F' ∧ SideAt w' p rv wv regs (wakeM L.alive kp t wait).2.1 ∧ Apart F' p rv wv ∧ Keeps (fun b => F b ∨ SideFp p rv wv b) w w' ∧ (∀ b, F' b → F b ∨ w.heap.size ≤ b) ∧
    (∀ e ∈ (wakeM L.alive kp t wait).2.1, L.D (wakeM L.alive kp t wait).1 e.1 ∧ L.D (wakeM L.alive kp t wait).1 e.2)

theorem WakeIn.skip {P : Program} {p : Nat} {L : Liv P p τ} {kp : τ → Int → τ × Int} {t tk : τ} {F Fk : Nat → Prop} {rv wv : Value} {regs wait pre : List (Int × Int)} {v : Int × Int} {w wr w2 : World} {k : Nat} {woke : Bool}
    (hpk : pre.length = k) (hdr : wait.drop k = v :: wait.drop (k + 1)) (hJ : L.J wr tk Fk) (hS : SideAt wr p rv wv regs (pre ++ v :: wait.drop (k + 1))) (hA : Apart Fk p rv wv) (hK : Keeps (fun b => F b ∨ SideFp p rv wv b) w wr) (hF : ∀ b, Fk b → F b ∨ w.heap.size ≤ b)
    (hD : ∀ e ∈ pre ++ v :: wait.drop (k + 1), L.D tk e.1 ∧ L.D tk e.2)
    (hM : wakeM L.alive kp t wait = ((wakeM L.alive kp tk (v :: wait.drop (k + 1))).1, pre ++ (wakeM L.alive kp tk (v :: wait.drop (k + 1))).2.1, woke || (wakeM L.alive kp tk (v :: wait.drop (k + 1))).2.2))
    (hk2 : Keeps (fun _ => False) wr w2) (hc : (L.alive tk v.1 && !L.alive tk v.2) = false) : WakeIn L kp t F rv wv regs wait w w2 (k + 1) woke := by
  have e : pre ++ v :: wait.drop (k + 1) = (pre ++ [v]) ++ wait.drop (k + 1) := by simp
  refine ⟨tk, Fk, pre ++ [v], by simp [hpk], L.J_keep hJ hk2 (fun _ _ h => h), ?_, hA, hK.trans (hk2.mono fun _ _ h => h.elim), hF, ?_, ?_⟩
  · rw [← e]; exact hS.keep hk2 (fun _ _ h => h)
  · rw [← e]; exact hD
  · rw [hM]
    simp only [wakeM, hc, if_neg (show ¬ (false = true) by decide), List.append_assoc, List.cons_append, List.nil_append]

theorem WakeIn.kept {P : Program} {p : Nat} {L : Liv P p τ} {kp : τ → Int → τ × Int} {t tk : τ} {F Fk F2 : Nat → Prop} {rv wv : Value} {regs wait pre : List (Int × Int)} {v : Int × Int} {w wr w2 : World} {k : Nat} {woke : Bool}
    (hpk : pre.length = k) (hK : Keeps (fun b => F b ∨ SideFp p rv wv b) w wr) (hF : ∀ b, Fk b → F b ∨ w.heap.size ≤ b)
    (hM : wakeM L.alive kp t wait = ((wakeM L.alive kp tk (v :: wait.drop (k + 1))).1, pre ++ (wakeM L.alive kp tk (v :: wait.drop (k + 1))).2.1, woke || (wakeM L.alive kp tk (v :: wait.drop (k + 1))).2.2))
    (hJ : L.J w2 (kp tk v.2).1 F2) (hS : SideAt w2 p rv wv regs (pre ++ (v.1, (kp tk v.2).2) :: wait.drop (k + 1))) (hA : Apart F2 p rv wv) (hk2 : Keeps (fun b => Fk b ∨ SideFp p rv wv b) wr w2) (hF2 : ∀ b, F2 b → Fk b ∨ wr.heap.size ≤ b)
    (hD : ∀ e ∈ pre ++ (v.1, (kp tk v.2).2) :: wait.drop (k + 1), L.D (kp tk v.2).1 e.1 ∧ L.D (kp tk v.2).1 e.2)
    (hc : (L.alive tk v.1 && !L.alive tk v.2) = true) : WakeIn L kp t F rv wv regs wait w w2 (k + 1) true := by
  have e : pre ++ (v.1, (kp tk v.2).2) :: wait.drop (k + 1) = (pre ++ [(v.1, (kp tk v.2).2)]) ++ wait.drop (k + 1) := by simp
  refine ⟨_, F2, pre ++ [(v.1, (kp tk v.2).2)], by simp [hpk], hJ, ?_, hA, hK.then hk2 ?_, ?_, ?_, ?_⟩
  · rw [← e]; exact hS
  · rintro b (h | h)
    · rcases hF b h with h | h
      · exact .inl (.inl h)
      · exact .inr h
    · exact .inl (.inr h)
  · intro b hb
    rcases hF2 b hb with h | h
    · exact hF b h
    · exact .inr (Nat.le_trans hK.size h)
  · rw [← e]; exact hD
  · rw [hM]
    simp only [wakeM, hc, if_true, List.append_assoc, List.cons_append, List.nil_append, Bool.or_true, Bool.true_or]

set_option maxHeartbeats 4000000 in
set_option maxRecDepth 100000 in
theorem Wake_c (p : Nat) (L : Liv Try.prog p τ) (kp : τ → Int → τ × Int) (hsame : ∀ t l x, L.keep t l x = ((kp t x).1, l, (kp t x).2)) (t : τ) (F : Nat → Prop) (rv wv : Value) (regs wait : List (Int × Int)) (w : World)
    (hdk : ∀ t x, L.D t x → L.alive t x = false → L.DK t x) (hJ : L.J w t F) (h : SideAt w p rv wv regs wait) (hap : Apart F p rv wv) (hl : wait.length ≤ 1000000) (hD : ∀ e ∈ wait, L.D t e.1 ∧ L.D t e.2) :
    Calls Try.prog 44 #[.pointer (some ⟨p, 0, none⟩), L.val] w fun e w' => WakeTo L kp t F rv wv regs wait w e w' := by
  obtain ⟨wo, wc, rfl, hrd, _, _⟩ := h.hw.rd
  have c1 := h.hp.cell 1
  simp only [List.getElem?_cons_zero, List.getElem?_cons_succ] at c1
  have hpl := h.hp.lt
  have H := Lib.hid h
  have HSM := Lib.hid hsame; have HDK := Lib.hid hdk; have HJ := Lib.hid hJ; have HA := Lib.hid hap; have HD := Lib.hid hD
  clear h hrd hsame hdk hJ hap hD
  have ea := L.ea; have ek := L.ek; have en := L.en
  generalize hbox : w.alloc (.cells #[.func (.func L.fa) L.a1 L.a2, .func (.func L.fk) L.k1 L.k2, .func (.func L.fn) L.n1 L.n2] 51) = wb
  have hkb : Keeps (fun b => F b ∨ SideFp p rv (.slice wo wait.length wc) b) w wb := by rw [← hbox]; exact (Keeps.refl _ _).alloc _
  have hbb : Blk wb w.heap.size [.func (.func L.fa) L.a1 L.a2, .func (.func L.fk) L.k1 L.k2, .func (.func L.fn) L.n1 L.n2] 51 := by rw [← hbox]; exact Blk.newAt _ rfl rfl
  have hszb : wb.heap.size = w.heap.size + 1 := by rw [← hbox]; simp
  have hkb0 : Keeps (fun _ => False) w wb := by rw [← hbox]; exact (Keeps.refl _ _).alloc _
  have HI : WakeIn L kp t F rv (.slice wo wait.length wc) regs wait wb wb 0 false :=
    ⟨t, F, [], rfl, L.J_keep HJ.out hkb0 (fun _ _ h => h), H.out.keep hkb0 (fun _ _ h => h), HA.out, Keeps.refl _ _, fun b hb => .inl hb, by simpa using HD.out, by simp⟩
  have HKB := Lib.hid hkb; have HBB := Lib.hid hbb; have HSZ := Lib.hid hszb; have HBX := Lib.hid hbox
  clear hkb hbb hszb hkb0 hbox
  unfold Liv.val
  go_enter Try.func44, Try.ntmps44
  go_wp2_with fail
  rw [HBX.out]
  go_loopw [5, 14] (fun v i wr => ∃ (k : Nat) (woke : Bool), k ≤ wait.length ∧ i = .int .i64 k ∧ v = .bool woke ∧ WakeIn L kp t F rv (.slice wo wait.length wc) regs wait wb wr k woke) (fun _ i _ => wait.length - (intOf i).toNat)
  case atStart => exact ⟨0, false, Nat.zero_le _, rfl, rfl, HI⟩
  case round =>
    clear HI c1
    obtain ⟨k, woke, hk, rfl, rfl, tk, Fk, pre, hpk, hJ, hS, hA, hK, hFk, hDk, hM⟩ := hrel
    have GJ := Lib.hid hJ; have GS := Lib.hid hS; have GA := Lib.hid hA; have GK := Lib.hid hK; have GF := Lib.hid hFk; have GD := Lib.hid hDk; have GM := Lib.hid hM; have GP := Lib.hid hpk
    clear hJ hS hA hK hFk hDk hM hpk
    by_cases hlt : k < wait.length
    · have hdr : wait.drop k = wait.getD k (0, 0) :: wait.drop (k + 1) := by
        rw [List.drop_eq_getElem_cons hlt]; simp [List.getD, hlt]
      have hm := GM.out; have hs := GS.out; have hd := GD.out
      have HDR := Lib.hid hdr
      rw [hdr] at hm hs hd
      have hvd := hd (wait.getD k (0, 0)) (by simp)
      have hgt : (pre ++ wait.getD k (0, 0) :: wait.drop (k + 1)).getD k (0, 0) = wait.getD k (0, 0) := by
        simp [List.getD, GP.out]
      have hln : (pre ++ wait.getD k (0, 0) :: wait.drop (k + 1)).length = wait.length := by simp [GP.out]; omega
      generalize wait.getD k (0, 0) = v at *
      obtain ⟨g, o, cap, cur, he, hb, _, _, _, _⟩ := hs.hw.some (by omega)
      rw [hln] at he
      cases he
      obtain ⟨_, _, e', hrd, _, _⟩ := hs.hw.rd
      rw [hln] at e'
      cases e'
      obtain ⟨g', o', e', hgl, d0, d1⟩ := hrd.ent k (by omega)
      cases e'
      rw [hgt] at d0 d1
      have hbw : w.heap.size < wb.heap.size := by rw [HSZ.out]; omega
      have hbn : ∀ b, (F b ∨ SideFp p rv (.slice (some ⟨g, o, none⟩) wait.length wc) b) → ¬ b = w.heap.size := by
        rintro b (h | h) rfl
        · have := L.J_lt HJ.out h; omega
        · have := H.out.fp_lt h; omega
      have hbx : Blk wr w.heap.size _ _ := GK.out.blk HBB.out (fun h => hbn _ h rfl)
      have HX := Lib.hid hbx; have HM := Lib.hid hm; have HS := Lib.hid hs; have HD := Lib.hid hd; have HV := Lib.hid hvd; have HN := Lib.hid hbn
      have b0 := hbx.cell 0; have b1 := hbx.cell 1
      have bl := hbx.lt
      simp only [List.getElem?_cons_zero, List.getElem?_cons_succ] at b0 b1
      clear hm hs hd hvd hbx hbn hb hrd hgt hdr
      have ALL : Hid (∀ w2, Keeps (fun _ => False) wr w2 → (L.alive tk v.1 && !L.alive tk v.2) = false → WakeIn L kp t F rv (.slice (some ⟨g, o, none⟩) wait.length wc) regs wait wb w2 (k + 1) woke) := fun w2 h1 h2 => WakeIn.skip GP.out HDR.out GJ.out HS.out GA.out GK.out GF.out HD.out HM.out h1 h2
      go_wp2_with fail
      have hk0 := (Keeps.refl (fun _ => False) wr).alloc (.cells #[Value.int IntKind.i64 v.fst, Value.int IntKind.i64 v.snd] 40)
      refine (L.alive_c _ tk Fk v.1 (L.J_keep GJ.out hk0 (fun _ _ h => h)) HV.out.1).mono ?_
      rintro e w1 ⟨rfl, hk1⟩
      have HK1 := Lib.hid (hk0.trans hk1)
      have HE1 := Lib.hid (hk1.blk (Blk.newAt (w := wr) _ rfl rfl) (fun h => h))
      have x0 := (HK1.out.blk HX.out (fun h => h)).cell 0
      have xl := (HK1.out.blk HX.out (fun h => h)).lt
      have e1 := HE1.out.cell 1
      have el := HE1.out.lt
      simp only [List.getElem?_cons_zero, List.getElem?_cons_succ] at x0 e1
      clear hk0 hk1
      cases ha : L.alive tk v.1
      · go_wp2_with fail
        go_roundw
        case rel => exact ⟨k + 1, woke, by omega, by go_num, rfl, ALL.out _ HK1.out (by rw [ha]; rfl)⟩
        case measure => simp [intOf]; omega
      · go_wp2_with fail
        refine (L.alive_c _ tk Fk v.2 (L.J_keep GJ.out HK1.out (fun _ _ h => h)) HV.out.2).mono ?_
        rintro e w2 ⟨rfl, hk2⟩
        have HK2 := Lib.hid (HK1.out.trans hk2)
        have HE2 := Lib.hid (hk2.blk HE1.out (fun h => h))
        clear x0 xl e1 el
        have x0 := (HK2.out.blk HX.out (fun h => h)).cell 1
        have xl := (HK2.out.blk HX.out (fun h => h)).lt
        have e1 := HE2.out.cell 1
        have el := HE2.out.lt
        simp only [List.getElem?_cons_zero, List.getElem?_cons_succ] at x0 e1
        clear hk2
        cases hb : L.alive tk v.2
        · go_wp2_with fail
          refine (L.keep_c _ tk Fk rv _ regs _ v.2 (L.J_keep GJ.out HK2.out (fun _ _ h => h)) (HS.out.keep HK2.out (fun _ _ h => h)) GA.out (HDK.out _ _ HV.out.2 hb) HD.out).mono ?_
          rintro e w3 ⟨rfl, F3, hJ3, hS3, hA3, hk3, hF3⟩
          have hdk : ∀ e ∈ pre ++ v :: wait.drop (k + 1), L.D (kp tk v.2).1 e.1 ∧ L.D (kp tk v.2).1 e.2 := by
            intro e he
            have := HD.out e he
            have a1 := L.D_keep (wait := pre ++ v :: wait.drop (k + 1)) (HDK.out _ _ HV.out.2 hb) this.1
            have a2 := L.D_keep (wait := pre ++ v :: wait.drop (k + 1)) (HDK.out _ _ HV.out.2 hb) this.2
            rw [HSM.out] at a1 a2
            exact ⟨a1, a2⟩
          have hdn := L.D_new (wait := pre ++ v :: wait.drop (k + 1)) (HDK.out _ _ HV.out.2 hb)
          have e3 : (L.keep tk (pre ++ v :: wait.drop (k + 1)) v.2).2.2 = (kp tk v.2).2 := by rw [HSM.out]
          rw [e3]
          rw [HSM.out] at hJ3 hS3 hdn
          replace hJ3 : L.J w3 (kp tk v.2).1 F3 := hJ3
          replace hS3 : SideAt w3 p rv (.slice (some ⟨g, o, none⟩) wait.length wc) regs (pre ++ v :: wait.drop (k + 1)) := hS3
          replace hdn : L.D (kp tk v.2).1 (kp tk v.2).2 := hdn
          clear e3
          have hpg : p ≠ g := fun e => hS3.pw (by subst e; rfl)
          obtain ⟨g3, o3, cap3, cur3, he3, hb3, _, _, _, _⟩ := hS3.hw.some (by omega)
          rw [hln] at he3
          cases he3
          have HS3 := Lib.hid (hS3.setThing (kp tk v.2).2)
          have hk3' : Keeps (fun b => Fk b ∨ SideFp p rv (.slice (some ⟨g, o, none⟩) wait.length wc) b) wr w3 := (HK2.out.mono fun _ _ h => h.elim).trans hk3
          have HF3 : Hid (∀ b, F3 b → Fk b ∨ wr.heap.size ≤ b) := fun b hb => by
            rcases hF3 b hb with h | h
            · exact .inl h
            · exact .inr (Nat.le_trans HK2.out.size h)
          have hng : ¬ F3 g := fun h => hA3 g ⟨h, .inr (.inr rfl)⟩
          have HJ3 := Lib.hid (L.J_keep hJ3 ((Keeps.refl (· = g) w3).setCell (p := ⟨g, o + pre.length * 2 + 1, none⟩) (.inl rfl) (.int .i64 (kp tk v.2).2)) (by rintro b hb rfl; exact hng hb))
          have HK3 := Lib.hid (hk3'.setCell (p := ⟨g, o + pre.length * 2 + 1, none⟩) (.inl (.inr (.inr (.inr rfl)))) (.int .i64 (kp tk v.2).2))
          have HA3 := Lib.hid hA3
          have p1 := hS3.hp.cell 1
          have fz := hb3.free (o + k * 2 + 1)
          obtain ⟨_, _, e3, hrd3, _, _⟩ := hS3.hw.rd
          rw [hln] at e3
          cases e3
          obtain ⟨g3, o3, e3, _, q0, q1⟩ := hrd3.ent k (by omega)
          cases e3
          have gl := hb3.lt
          have pl := hS3.hp.lt
          simp only [List.getElem?_cons_zero, List.getElem?_cons_succ] at p1
          rw [GP.out] at HJ3 HK3 HS3
          have HDN : Hid (∀ e ∈ pre ++ (v.1, (kp tk v.2).2) :: wait.drop (k + 1), L.D (kp tk v.2).1 e.1 ∧ L.D (kp tk v.2).1 e.2) := by
            intro e he
            simp only [List.mem_append, List.mem_cons] at he
            rcases he with he | rfl | he
            · exact hdk e (by simp [he])
            · exact ⟨(hdk v (by simp)).1, hdn⟩
            · exact hdk e (by simp [he])
          have HX3 : Hid (w.heap.size < w3.heap.size) := Nat.lt_of_lt_of_le xl hk3.size
          have hx3 := HX3.out
          clear hrd3 hJ3 hS3 hA3 hk3 hF3 hdk hdn hk3' hng hb3 x0 xl e1 el
          clear HX3
          go_wp2_with fail
          go_roundw
          case rel => exact ⟨k + 1, true, by omega, by go_num, rfl, WakeIn.kept GP.out GK.out GF.out HM.out HJ3.out HS3.out HA3.out HK3.out HF3.out HDN.out (by rw [ha, hb]; rfl)⟩
          case measure => simp [intOf]; omega
        · go_wp2_with fail
          go_roundw
          case rel => exact ⟨k + 1, woke, by omega, by go_num, rfl, ALL.out _ HK2.out (by rw [ha, hb]; rfl)⟩
          case measure => simp [intOf]; omega
    · obtain rfl : k = wait.length := by omega
      go_wp2_with fail
      go_ret
      have hm := GM.out
      have hs := GS.out
      have hd := GD.out
      rw [List.drop_length] at hm hs hd
      simp only [wakeM, List.append_nil, Bool.or_false] at hm hs hd
      refine ⟨by rw [hm]; rfl, Fk, by rw [hm]; exact GJ.out, by rw [hm]; exact hs, GA.out, HKB.out.trans GK.out, fun b hb => ?_, by rw [hm]; exact hd⟩
      rcases GF.out b hb with h | h
      · exact .inl h
      · exact .inr (by rw [HSZ.out] at h; omega)

end Go.Proofs.Ytjifdalflepcoaa
