/-
  The reference's Settled (ref.go): its closures is and keep.
-/
import Derived.Test.YtjifdalflepcoaaSideOnceM
namespace Go.Proofs.Ytjifdalflepcoaa
open Go.RowKit
set_option linter.unusedVariables false
set_option linter.unusedSimpArgs false

/-- The numbers to which the slice variable at A leads. -/
def aliveOf (w : World) (A : Nat) : List Int :=
  match w.cell? ⟨A, 0, none⟩ with
  | some (.slice (some ad) n _) => (List.range n).map fun j => match w.cell? (ad.add j) with
    | some v => intOf v
    | none => 0
  | _ => []

theorem aliveOf_eq {w : World} {A T : Nat} {av : Value} {a : List Int} (h : Blk w A [av] T) (hs : Sl w 2 1 av a.length (a.map (Value.int .i64))) : aliveOf w A = a := by
  have c0 := h.cell 0
  simp only [List.getElem?_cons_zero] at c0
  unfold aliveOf
  rw [c0]
  obtain ⟨_, ⟨rfl, h0⟩ | ⟨g, o, cap, cur, rfl, hb, h1, h2, h3, h4⟩⟩ := hs
  · simp at h0; subst h0; rfl
  · simp only
    apply List.ext_getElem?
    intro j
    rw [List.getElem?_map]
    by_cases hj : j < a.length
    · rw [List.getElem?_range hj]
      simp only [Option.map_some]
      have : w.cell? ((⟨g, o, none⟩ : Addr).add j) = some (.int .i64 a[j]) := by
        rw [addr_add, hb.cell]
        have : ((cur.drop o).take (a.length * 1))[j]? = some (.int .i64 a[j]) := by rw [h4]; simp [hj]
        rw [List.getElem?_take, if_pos (by omega), List.getElem?_drop] at this
        exact this
      rw [this, List.getElem?_eq_getElem hj]
      rfl
    · rw [List.getElem?_eq_none (by simpa using hj), List.getElem?_eq_none (by omega)]; rfl

set_option maxHeartbeats 1000000 in
set_option maxRecDepth 100000 in
theorem Ris_c (A : Nat) (av : Value) (t : List Int) (x : Int) (w : World) (hA : Blk w A [av] 32) (hs : Sl w 2 1 av t.length (t.map (Value.int .i64))) (hl : t.length ≤ 1000000) :
    Calls Try.prog 72 #[.int .i64 x, .pointer (some ⟨A, 0, none⟩)] w fun e w' => e = .returned (.bool (t.contains x)) ∧ w = w' := by
  obtain ⟨ao, ac, rfl, hrd, -, -⟩ := hs.rd
  have c0 := hA.cell 0
  have ql := hA.lt
  simp only [List.getElem?_cons_zero] at c0
  have HR := Lib.hid hrd
  clear hA hs hrd
  go_enter Try.func72, Try.ntmps72
  go_wp2_with fail
  go_loopw [4] (fun i wr => ∃ k : Nat, k ≤ t.length ∧ i = .int .i64 k ∧ Hid (∀ j, j < k → t.getD j 0 ≠ x) ∧ w = wr) (fun i _ => t.length - (intOf i).toNat)
  case atStart => exact ⟨0, Nat.zero_le _, rfl, (fun j hj => by omega), rfl⟩
  case round =>
    obtain ⟨k, hk, rfl, hno, rfl⟩ := hrel
    by_cases hlt : k < t.length
    · obtain ⟨g, o, rfl, d0⟩ := HR.out.int k hlt
      have hgd : t.getD k 0 = t[k] := by simp [List.getD, hlt]
      have HG := Lib.hid hgd; clear hgd
      generalize hv : t.getD k 0 = v at *
      have HV := Lib.hid hv; clear hv
      by_cases he : v = x
      · subst he
        have HE := Lib.hid (show t.contains v = true by
          rw [List.contains_iff_mem, HG.out]
          exact List.getElem_mem hlt)
        go_wp2_with fail
        go_ret
        exact ⟨by rw [HE.out]; rfl, rfl⟩
      · have hb : (v == x) = false := by simpa using he
        go_wp2_with fail
        go_roundw
        case rel => exact ⟨k + 1, by omega, by go_num, fun j hj => by
          by_cases e : j = k
          · subst e; rw [HV.out]; exact he
          · exact hno.out j (by omega), by first | rfl | trivial⟩
        case measure => simp [intOf]; omega
    · obtain rfl : k = t.length := by omega
      have HE := Lib.hid (show t.contains x = false by
        rw [Bool.eq_false_iff]
        intro hc
        rw [List.contains_iff_mem] at hc
        obtain ⟨j, hj, e⟩ := List.mem_iff_getElem.1 hc
        exact hno.out j hj (by simp [List.getD, hj, e]))
      go_wp2_with fail
      go_ret
      exact ⟨by rw [HE.out]; rfl, rfl⟩

theorem RisA (args : Array Value) (w : World) : (callFunc 72 args).run Try.prog w = .ok (.enter 72 args) w := by kernel_rfl
theorem RkeepA (args : Array Value) (w : World) : (callFunc 73 args).run Try.prog w = .ok (.enter 73 args) w := by kernel_rfl

theorem int_one {a : Int} : ∀ u ∈ [Value.int .i64 a], u.oneCell' = true := by
  intro u hu; simp at hu; subst hu; rfl

/-- What Settled's closures capture: what is alive at A, the pairs at Lb, is at Ib. -/
structure RAt (w : World) (A Lb Ib : Nat) (av : Value) (lo : Option Addr) (lc : Nat) (t : List Int) (leads : List (Int × Int)) : Prop where
  hA : Blk w A [av] 32
  hs : Sl w 2 1 av t.length (t.map (Value.int .i64))
  hL : Blk w Lb [.slice lo leads.length lc] 33
  hI : Blk w Ib [.func (.func 72) #[] #[.pointer (some ⟨A, 0, none⟩)]] 46
  hR : Rd w lo (pairV leads)
  nR : ∀ a, lo = some a → a.block ≠ A ∧ ¬ ownB av a.block

theorem RAt.nA {w : World} {A Lb Ib : Nat} {av : Value} {lo : Option Addr} {lc : Nat} {t : List Int} {leads : List (Int × Int)} (h : RAt w A Lb Ib av lo lc t leads) : ¬ ownB av A := fun hb => by
  obtain ⟨_, cur, hc⟩ := h.hs.own hb
  exact h.hA.ne hc (by decide) rfl

theorem RAt.keep {w w' : World} {A Lb Ib : Nat} {av : Value} {lo : Option Addr} {lc : Nat} {t : List Int} {leads : List (Int × Int)} {S : Nat → Prop} (h : RAt w A Lb Ib av lo lc t leads) (k : Keeps S w w') (hn : ∀ b, (b = A ∨ b = Lb ∨ b = Ib ∨ ownB av b ∨ ∃ a, lo = some a ∧ a.block = b) → b < w.heap.size → ¬ S b) : RAt w' A Lb Ib av lo lc t leads :=
  ⟨k.blk h.hA (hn _ (.inl rfl) h.hA.lt), h.hs.keep k (fun b hb => hn b (.inr (.inr (.inr (.inl hb)))) (h.hs.own hb).1), k.blk h.hL (hn _ (.inr (.inl rfl)) h.hL.lt), k.blk h.hI (hn _ (.inr (.inr (.inl rfl))) h.hI.lt),
    h.hR.keep k (fun a ha hl => hn _ (.inr (.inr (.inr (.inr ⟨a, ha, rfl⟩)))) hl), h.nR⟩

/-- Another word is alive. -/
theorem RAt.app {w w2 : World} {A Lb Ib : Nat} {av v2 : Value} {lo : Option Addr} {lc : Nat} {t : List Int} {x : Int} {leads : List (Int × Int)} (h : RAt w A Lb Ib av lo lc t leads) (hs : Sl w2 2 1 v2 (t.length + 1) (t.map (Value.int .i64) ++ [.int .i64 x])) (hk : Keeps (ownB av) w w2)
    (ho : ∀ k, ownB v2 k → ownB av k ∨ w.heap.size ≤ k) (hlt : ∀ a, lo = some a → a.block < w.heap.size) : RAt (w2.setCell ⟨A, 0, none⟩ v2) A Lb Ib v2 lo lc (t ++ [x]) leads := by
  have kp := (Keeps.refl (· = A) w2).setCell (p := ⟨A, 0, none⟩) (.inl rfl) v2
  have hA2 := hk.blk h.hA h.nA
  have hv2 : ¬ ownB v2 A := fun hb => by
    rcases ho A hb with h1 | h1
    · exact h.nA h1
    · have := h.hA.lt; omega
  have nL : ¬ ownB av Lb := fun hb => by
    obtain ⟨_, cur, hc⟩ := h.hs.own hb
    exact h.hL.ne hc (by decide) rfl
  have nI : ¬ ownB av Ib := fun hb => by
    obtain ⟨_, cur, hc⟩ := h.hs.own hb
    exact h.hI.ne hc (by decide) rfl
  refine ⟨by simpa using hA2.setSame 0 v2, ?_, (hk.blk h.hL nL).setOther (h.hL.ne h.hA (by decide)) _, (hk.blk h.hI nI).setOther (h.hI.ne h.hA (by decide)) _, ?_, ?_⟩
  · have := hs.keep kp (by rintro b hb rfl; exact hv2 hb)
    simpa using this
  · exact (h.hR.keep hk (fun a ha _ => (h.nR a ha).2)).keep kp (fun a ha _ => (h.nR a ha).1)
  · intro a ha
    refine ⟨(h.nR a ha).1, fun hb => ?_⟩
    rcases ho _ hb with h1 | h1
    · exact (h.nR a ha).2 h1
    · have := hlt a ha; omega

theorem goesTo_step (leads : List (Int × Int)) (x : Int) (k : Nat) (hk : k < leads.length) : goesTo (leads.take (k + 1)) x = goesTo (leads.take k) x ++ if (leads.getD k (0, 0)).1 = x then [(leads.getD k (0, 0)).2] else [] := by
  have hg : leads.getD k (0, 0) = leads[k] := by simp [List.getD, hk]
  rw [hg]
  unfold goesTo
  rw [List.take_succ_eq_append_getElem hk, List.filter_append, List.map_append]
  congr 1
  by_cases h : leads[k].1 = x <;> simp [List.filter_cons, h]

theorem goesTo_take_le (leads : List (Int × Int)) (x : Int) (k : Nat) : (goesTo (leads.take k) x).length ≤ k := by
  unfold goesTo
  rw [List.length_map]
  have h1 := List.length_filter_le (fun e : Int × Int => decide (e.1 = x)) (leads.take k)
  have h2 : (leads.take k).length ≤ k := List.length_take_le _ _
  omega

theorem cntL_le (leads : List (Int × Int)) (a : List Int) : cntL leads a ≤ leads.length := List.length_filter_le _ _

theorem keepB_len (leads : List (Int × Int)) : ∀ (n : Nat) (a todo : List Int), (keepB leads n a todo).length ≤ a.length + n
  | 0, a, _ => by simp [keepB]
  | n + 1, a, [] => by simp [keepB]
  | n + 1, a, x :: todo => by
    unfold keepB
    split
    · have := keepB_len leads n a todo; omega
    · have := keepB_len leads n (a ++ [x]) (todo ++ goesTo leads x)
      simp at this; omega

/-- What keep leaves behind. -/
def RKept (w : World) (A Lb Ib : Nat) (av : Value) (lo : Option Addr) (lc : Nat) (t' : List Int) (leads : List (Int × Int)) (e : Ending) (w' : World) : Prop :=
  e = .returned (.tuple #[]) ∧ ∃ av', RAt w' A Lb Ib av' lo lc t' leads ∧ Keeps (fun b => b = A ∨ ownB av b) w w' ∧ ∀ b, ownB av' b → ownB av b ∨ w.heap.size ≤ b

/-- In the midst of keep. -/
def KIn (w : World) (A Lb Ib : Nat) (av : Value) (lo : Option Addr) (lc : Nat) (t : List Int) (leads : List (Int × Int)) (x : Int) (N : Nat) (wr : World) (tv : Value) : Prop :=
  ∃ n a todo av', Sl wr 2 1 tv todo.length (todo.map (Value.int .i64)) ∧ RAt wr A Lb Ib av' lo lc a leads ∧ (∀ k, ownB tv k → w.heap.size ≤ k ∧ ¬ ownB av' k) ∧ Keeps (fun b => b = A ∨ ownB av b) w wr ∧ (∀ b, ownB av' b → ownB av b ∨ w.heap.size ≤ b) ∧
    keepB leads N t [x] = keepB leads n a todo ∧ todo.length + cntL leads a ≤ n ∧ n ≤ N ∧ a.length + n ≤ t.length + N

def sliceLen (v : Value) : Nat := match v with | .slice _ n _ => n | _ => 0

theorem goesTo_zero (leads : List (Int × Int)) (x : Int) : goesTo (leads.take 0) x = [] := rfl

/-- In the midst of the pairs. -/
def KLoop (w : World) (A Lb Ib : Nat) (av : Value) (lo : Option Addr) (lc : Nat) (av2 : Value) (a2 : List Int) (leads : List (Int × Int)) (rest : List Int) (y : Int) (wr : World) (k : Nat) (tv : Value) : Prop :=
  Sl wr 2 1 tv (rest ++ goesTo (leads.take k) y).length ((rest ++ goesTo (leads.take k) y).map (Value.int .i64)) ∧ RAt wr A Lb Ib av2 lo lc a2 leads ∧ (∀ k, ownB tv k → w.heap.size ≤ k ∧ ¬ ownB av2 k) ∧ Keeps (fun b => b = A ∨ ownB av b) w wr

set_option maxHeartbeats 4000000 in
set_option maxRecDepth 100000 in
theorem Rkeep_c (A Lb Ib : Nat) (av : Value) (lo : Option Addr) (lc : Nat) (t : List Int) (leads : List (Int × Int)) (x : Int) (w : World) (h : RAt w A Lb Ib av lo lc t leads) (hlo : ∀ a, lo = some a → a.block < w.heap.size) (hl : leads.length ≤ 1000) (ht : t.length ≤ 100000) :
    Calls Try.prog 73 #[.int .i64 x, .pointer (some ⟨Ib, 0, none⟩), .pointer (some ⟨A, 0, none⟩), .pointer (some ⟨Lb, 0, none⟩)] w fun e w' => RKept w A Lb Ib av lo lc (keepB leads (1 + cntL leads t) t [x]) leads e w' := by
  obtain ⟨ii, hi, hz0, hz1, hz2⟩ := info_parts info_int64'
  have Ii := Lib.hid hi; have Iz0 := Lib.hid hz0; have Iz1 := Lib.hid hz1; have Iz2 := Lib.hid hz2; clear hi hz0 hz1 hz2
  obtain ⟨N, hN⟩ : ∃ N, N = 1 + cntL leads t := ⟨_, rfl⟩
  have hN1 : N ≤ 1001 := by have := cntL_le leads t; omega
  have h0 : KIn w A Lb Ib av lo lc t leads x N (w.alloc (.cells #[.int .i64 x] 2)) (.slice (some ⟨w.heap.size, 0, none⟩) 1 1) := by
    have ka := (Keeps.refl (fun _ => False) w).alloc (.cells #[.int .i64 x] 2)
    refine ⟨N, t, [x], av, ⟨rfl, .inr ⟨_, 0, 1, _, rfl, Blk.newAt _ rfl rfl, Nat.le_refl _, by unfold maxLen; omega, by simp, rfl⟩⟩, h.keep ka (fun _ _ _ h => h), ?_, ka.mono (fun _ _ h => h.elim), fun b hb => .inl hb, rfl, by rw [hN]; simp, Nat.le_refl _, Nat.le_refl _⟩
    intro k hk
    simp [ownB, Value.ownBlock] at hk
    subst hk
    exact ⟨Nat.le_refl _, fun hb => by have := (h.hs.own hb).1; omega⟩
  have H0 := Lib.hid h0; have HLO := Lib.hid hlo
  rw [← hN]
  clear h h0 hN hlo
  have ea := RisA
  go_enter Try.func73, Try.ntmps73
  go_wp2_with fail
  go_loopw [5] (fun tv wr => KIn w A Lb Ib av lo lc t leads x N wr tv) (fun tv wr => sliceLen tv + cntL leads (aliveOf wr A))
  case atStart => exact H0.out
  case round =>
    clear H0
    obtain ⟨n, a, todo, av', hs, hr, ho, hk, hav, hE, hn, hnN, hlen⟩ := hrel
    have GS := Lib.hid hs; have GR := Lib.hid hr; have GO := Lib.hid ho; have GK := Lib.hid hk; have GV := Lib.hid hav; have GE := Lib.hid hE; have GN := Lib.hid hn; have GL := Lib.hid hlen; have GNN := Lib.hid hnN
    clear hs hr ho hk hav hE hn hlen hnN
    cases todo with
    | nil =>
      obtain ⟨to, tc, rfl, -, -, -⟩ := GS.out.rd
      have HE := Lib.hid (show keepB leads N t [x] = a by rw [GE.out]; cases n <;> rfl)
      simp only [List.length_nil]
      go_wp2_with fail
      go_end0
      exact ⟨rfl, av', by rw [HE.out]; exact GR.out, GK.out, GV.out⟩
    | cons y rest =>
      have hs := GS.out
      simp only [List.length_cons] at hs
      obtain ⟨hsl, ⟨rfl, h0⟩ | ⟨g, o, cap, cur, rfl, hb, h1, h2, h3, h4⟩⟩ := hs
      · omega
      have hnn : rest.length + 1 + cntL leads a ≤ n := by have := GN.out; simpa using this
      have d0 : wr.cell? ⟨g, o, none⟩ = some (.int .i64 y) := by
        rw [hb.cell]
        have : ((cur.drop o).take ((rest.length + 1) * 1))[0]? = some (.int .i64 y) := by rw [h4]; rfl
        rw [List.getElem?_take, if_pos (by omega), List.getElem?_drop] at this
        exact this
      have hs' : ∃ tv', tv' = (if cap = 1 then Value.slice (some ⟨g, o, none⟩) 0 0 else Value.slice (some ⟨g, o + 1, none⟩) rest.length (cap - 1)) ∧ Sl wr 2 1 tv' rest.length (rest.map (Value.int .i64)) ∧ ∀ k, ownB tv' k → k = g := by
        by_cases hc : cap = 1
        · subst hc
          have hr0 : rest = [] := List.eq_nil_of_length_eq_zero (by omega)
          subst hr0
          refine ⟨_, rfl, ?_, ?_⟩
          · rw [if_pos rfl]
            exact ⟨rfl, .inr ⟨g, o, 0, cur, rfl, hb, Nat.le_refl _, Nat.zero_le _, by omega, by simp⟩⟩
          · rw [if_pos rfl]; intro k hk; simp [ownB, Value.ownBlock] at hk; exact hk.symm
        · refine ⟨_, rfl, ?_, ?_⟩
          · rw [if_neg hc]
            refine ⟨by simp, .inr ⟨g, o + 1, cap - 1, cur, rfl, hb, by omega, by omega, by omega, ?_⟩⟩
            have : ((cur.drop o).take ((rest.length + 1) * 1)).drop 1 = rest.map (Value.int .i64) := by rw [h4]; rfl
            rw [List.drop_take, List.drop_drop] at this
            rw [← this]; congr 1
          · rw [if_neg hc]; intro k hk; simp [ownB, Value.ownBlock] at hk; exact hk.symm
      obtain ⟨tv', htv, hst, hot⟩ := hs'
      have gl := hb.lt
      have i0 := GR.out.hI.cell 0
      have il := GR.out.hI.lt
      simp only [List.getElem?_cons_zero] at i0
      have KT := Lib.hid hst
      have KO : Hid (∀ k, ownB tv' k → w.heap.size ≤ k ∧ ¬ ownB av' k) := fun k hk => GO.out k (by rw [hot k hk]; rfl)
      by_cases hc : cap = 1
      · rw [if_pos hc] at htv
        subst hc
        go_wp2_with fail
        refine (Ris_c A av' a y _ GR.out.hA GR.out.hs (by have := GL.out; omega)).mono ?_
        rintro e w1 ⟨rfl, rfl⟩
        have hcnt : aliveOf wr A = a := aliveOf_eq GR.out.hA GR.out.hs
        have HCN := Lib.hid hcnt
        clear hcnt
        cases hin : a.contains y
        · obtain ⟨ao, ac, rfl, -, -, -⟩ := GR.out.hs.rd
          have a0 := GR.out.hA.cell 0; have af := GR.out.hA.free 0; have al := GR.out.hA.lt
          simp only [List.getElem?_cons_zero] at a0
          have hal : a.length ≤ 200000 := by have := GL.out; omega
          go_wp2_with (at_builtin; refine wpList_app rfl (.tmp 21) (.tmp 23) 32 rfl 2 ii (.int .i64 0) 1 8 Try.underlying32 Ii.out Iz0.out Iz1.out Iz2.out rfl (by decide) _ a.length (a.map (Value.int .i64)) rfl (GR.out.hs.keep ((Keeps.refl (fun _ => False) wr).alloc _) (fun _ _ h => h)) ⟨wr.heap.size, 0, none⟩ 1 1 [.int .i64 y] rfl rfl (news_at wr 2 #[.int .i64 y]) int_one (by unfold maxLen; omega) (by omega) ?_)
          intro v2 w2 hs2 hk2 ho2
          have hka := (Keeps.refl (fun _ => False) wr).alloc (.cells #[.int .i64 y] 2)
          have hra := GR.out.keep hka (fun _ _ _ h => h)
          have ho2' : ∀ k, ownB v2 k → ownB (.slice ao a.length ac) k ∨ wr.heap.size ≤ k := fun k hk => (ho2 k hk).imp id (by omega)
          have hlo2 : ∀ b, lo = some b → b.block < wr.heap.size := fun b hb => Nat.lt_of_lt_of_le (HLO.out b hb) GK.out.size
          have hr3 := hra.app hs2 hk2 (by simpa using ho2) (fun b hb => by have := hlo2 b hb; simp; omega)
          obtain ⟨vo, vc, rfl, -, -, -⟩ := hs2.rd
          have nA : ¬ ownB (.slice ao a.length ac) A := GR.out.nA
          have a0 := (hk2.blk (hka.blk GR.out.hA (fun h => h)) nA).cell 0; have af := (hk2.blk (hka.blk GR.out.hA (fun h => h)) nA).free 0; have al := (hk2.blk (hka.blk GR.out.hA (fun h => h)) nA).lt
          simp only [List.getElem?_cons_zero] at a0
          have hst2 := ((KT.out.keep hka (fun _ _ h => h)).keep hk2 (fun k h1 h2 => (KO.out k h1).2 h2))
          have nT : ∀ k, ownB tv' k → k ≠ A := by
            rintro k hk rfl
            obtain ⟨_, cur, hc⟩ := KT.out.own hk
            exact hc.ne GR.out.hA (by decide) rfl
          have kset := (Keeps.refl (· = A) w2).setCell (p := ⟨A, 0, none⟩) (.inl rfl) (.slice vo (a.length + 1) vc)
          have hst3 := hst2.keep kset (fun k h1 h2 => nT k h1 h2)
          have hk3 : Keeps (fun b => b = A ∨ ownB av b) w (w2.setCell ⟨A, 0, none⟩ (.slice vo (a.length + 1) vc)) := ((GK.out.trans (hka.mono fun _ _ h => h.elim)).then hk2 (fun b hb => (GV.out b hb).imp (fun h => .inr h) id)).setCell (p := ⟨A, 0, none⟩) (.inl (.inl rfl)) _
          have HV3 : Hid (∀ b, ownB (.slice vo (a.length + 1) vc) b → ownB av b ∨ w.heap.size ≤ b) := fun b hb => by
            rcases ho2' b hb with h1 | h1
            · exact GV.out b h1
            · exact .inr (Nat.le_trans GK.out.size h1)
          have HT3 : Hid (∀ k, ownB tv' k → w.heap.size ≤ k ∧ ¬ ownB (.slice vo (a.length + 1) vc) k) := fun k hk => ⟨(KO.out k hk).1, fun h => by
            rcases ho2' k h with h1 | h1
            · exact (KO.out k hk).2 h1
            · have := (KT.out.own hk).1; omega⟩
          have HR3 := Lib.hid hr3; have HS3 := Lib.hid hst3; have HK3 := Lib.hid hk3
          have HOA : Hid (A < w2.heap.size) := al
          have hrl : rest.length ≤ 2000 := by have := GNN.out; omega
          subst htv
          clear hka hra ho2' hlo2 hr3 hst2 nT kset hst3 hk3 hs2 hk2 ho2 nA
          go_wp2_with fail
          generalize hw3 : w2.setCell ⟨A, 0, none⟩ (.slice vo (a.length + 1) vc) = w3 at *
          clear hw3 a0 af al d0 gl i0 il
          have l0 := HR3.out.hL.cell 0; have ll := HR3.out.hL.lt
          simp only [List.getElem?_cons_zero] at l0
          have HX : Hid (KLoop w A Lb Ib av lo lc (.slice vo (a.length + 1) vc) (a ++ [y]) leads rest y w3 0 _) := ⟨by rw [goesTo_zero, List.append_nil]; exact HS3.out, HR3.out, HT3.out, HK3.out⟩
          go_loopw [5, 7] (fun tdv i wx => ∃ k : Nat, k ≤ leads.length ∧ i = .int .i64 k ∧ KLoop w A Lb Ib av lo lc (.slice vo (a.length + 1) vc) (a ++ [y]) leads rest y wx k tdv) (fun _ i _ => leads.length - (intOf i).toNat)
          case atStart => exact ⟨0, Nat.zero_le _, rfl, HX.out⟩
          case round =>
            clear HX l0 ll
            obtain ⟨k, hk, rfl, hs4, hr4, ho4, hk4⟩ := hrel
            have l0 := hr4.hL.cell 0; have ll := hr4.hL.lt
            simp only [List.getElem?_cons_zero] at l0
            have JS := Lib.hid hs4; have JR := Lib.hid hr4; have JO := Lib.hid ho4; have JK := Lib.hid hk4
            have hrd := hr4.hR
            clear hs4 hr4 ho4 hk4
            have hg := goesTo_take_le leads y k
            obtain ⟨tl, hq⟩ : ∃ tl, tl = rest ++ goesTo (leads.take k) y := ⟨_, rfl⟩
            have htl : tl.length ≤ 4000 := by rw [hq, List.length_append]; omega
            have HQ := Lib.hid hq
            rw [← hq] at JS
            obtain ⟨to, tc, rfl, -, -, -⟩ := JS.out.rd
            clear hq
            by_cases hlt : k < leads.length
            · obtain ⟨g2, o2, rfl, hgl, d0, d1⟩ := hrd.ent k hlt
              have hstep := goesTo_step leads y k hlt
              generalize leads.getD k (0, 0) = v at *
              have JST := Lib.hid hstep
              clear hstep hrd hg
              by_cases hv : v.1 = y
              · have hvb : (v.1 == y) = true := by simpa using hv
                go_wp2_with (at_builtin; refine wpList_app rfl (.tmp 38) (.tmp 44) 32 rfl 2 ii (.int .i64 0) 1 8 Try.underlying32 Ii.out Iz0.out Iz1.out Iz2.out rfl (by decide) _ tl.length (tl.map (Value.int .i64)) rfl (JS.out.keep ((Keeps.refl (fun _ => False) wr).alloc _) (fun _ _ h => h)) ⟨wr.heap.size, 0, none⟩ 1 1 [.int .i64 v.2] rfl rfl (news_at wr 2 #[.int .i64 v.2]) int_one (by unfold maxLen; omega) (by omega) ?_)
                intro v5 w5 hs5 hk5 ho5
                have hka := (Keeps.refl (fun _ => False) wr).alloc (.cells #[.int .i64 v.2] 2)
                have nT : ∀ b, ownB (.slice to tl.length tc) b → ∃ cur, Blk wr b cur 2 := fun b hb => (JS.out.own hb).2
                have hra := (JR.out.keep hka (fun _ _ _ h => h)).keep hk5 (by
                  rintro b (rfl | rfl | rfl | hb | ⟨b', hb', rfl⟩) _ h2
                  · obtain ⟨cur, hc⟩ := nT _ h2
                    exact hc.ne JR.out.hA (by decide) rfl
                  · obtain ⟨cur, hc⟩ := nT _ h2
                    exact hc.ne JR.out.hL (by decide) rfl
                  · obtain ⟨cur, hc⟩ := nT _ h2
                    exact hc.ne JR.out.hI (by decide) rfl
                  · exact (JO.out b h2).2 hb
                  · have := (JO.out _ h2).1
                    have := HLO.out b' hb'
                    omega)
                have hk6 := (JK.out.trans (hka.mono fun _ _ h => h.elim)).then hk5 (fun b hb => .inr (JO.out b hb).1)
                have hrw : rest ++ goesTo (leads.take (k + 1)) y = tl ++ [v.2] := by rw [JST.out, if_pos hv, HQ.out, List.append_assoc]
                have HX : Hid (KLoop w A Lb Ib av (some ⟨g2, o2, none⟩) lc (.slice vo (a.length + 1) vc) (a ++ [y]) leads rest y w5 (k + 1) v5) := by
                  refine ⟨?_, hra, fun b hb => ?_, hk6⟩
                  · rw [hrw]
                    have := hs5
                    simpa using this
                  · rcases ho5 b hb with h1 | h1
                    · exact JO.out b h1
                    · refine ⟨?_, fun h2 => ?_⟩
                      · have := JK.out.size; omega
                      · have := (JR.out.hs.own h2).1; omega
                clear hka nT hra hk6 hrw hs5 hk5 ho5
                go_wp2_with fail
                go_roundw
                case rel => exact ⟨k + 1, by omega, by go_num, HX.out⟩
                case measure => simp [intOf]; omega
              · have hvb : (v.1 == y) = false := by simpa using hv
                go_wp2_with fail
                go_roundw
                case rel => exact ⟨k + 1, by omega, by go_num, by rw [JST.out, if_neg hv, List.append_nil, ← HQ.out]; exact JS.out, JR.out, JO.out, JK.out⟩
                case measure => simp [intOf]; omega
            · obtain rfl : k = leads.length := by omega
              go_wp2_with fail
              go_roundw
              case rel =>
                have hu := cntL_app leads hin
                obtain ⟨m, rfl⟩ : ∃ m, n = m + 1 := ⟨n - 1, by omega⟩
                have hq2 : tl = rest ++ goesTo leads y := by rw [HQ.out, List.take_length]
                have hql : tl.length = rest.length + (goesTo leads y).length := by rw [hq2, List.length_append]
                refine ⟨m, a ++ [y], tl, _, JS.out, JR.out, JO.out, JK.out, HV3.out, ?_, by omega, by have := GNN.out; omega, by have := GL.out; simp; omega⟩
                rw [GE.out, hq2]
                show (if a.contains y then _ else _) = _
                rw [hin]; rfl
              case measure =>
                have hu := cntL_app leads hin
                have h2 : aliveOf wr A = a ++ [y] := aliveOf_eq JR.out.hA (by have := JR.out.hs; simpa using this)
                have hql : tl.length = rest.length + (goesTo leads y).length := by rw [HQ.out, List.take_length, List.length_append]
                rw [HCN.out, h2]
                simp [sliceLen]
                try omega
        · have HNX : Hid (KIn w A Lb Ib av lo lc t leads x N wr tv') := by
            obtain ⟨m, rfl⟩ : ∃ m, n = m + 1 := ⟨n - 1, by omega⟩
            refine ⟨m, a, rest, av', KT.out, GR.out, KO.out, GK.out, GV.out, ?_, by omega, by have := GNN.out; omega, by have := GL.out; omega⟩
            rw [GE.out]
            show (if a.contains y then _ else _) = _
            rw [hin]; rfl
          subst htv
          go_wp2_with fail
          go_roundw
          case rel => exact HNX.out
          case measure => rw [HCN.out]; simp [sliceLen]; try omega
      · rw [if_neg hc] at htv
        have hc2 : 2 ≤ cap := by omega
        clear hc
        go_wp2_with fail
        refine (Ris_c A av' a y _ GR.out.hA GR.out.hs (by have := GL.out; omega)).mono ?_
        rintro e w1 ⟨rfl, rfl⟩
        have hcnt : aliveOf wr A = a := aliveOf_eq GR.out.hA GR.out.hs
        have HCN := Lib.hid hcnt
        clear hcnt
        cases hin : a.contains y
        · obtain ⟨ao, ac, rfl, -, -, -⟩ := GR.out.hs.rd
          have a0 := GR.out.hA.cell 0; have af := GR.out.hA.free 0; have al := GR.out.hA.lt
          simp only [List.getElem?_cons_zero] at a0
          have hal : a.length ≤ 200000 := by have := GL.out; omega
          go_wp2_with (at_builtin; refine wpList_app rfl (.tmp 21) (.tmp 23) 32 rfl 2 ii (.int .i64 0) 1 8 Try.underlying32 Ii.out Iz0.out Iz1.out Iz2.out rfl (by decide) _ a.length (a.map (Value.int .i64)) rfl (GR.out.hs.keep ((Keeps.refl (fun _ => False) wr).alloc _) (fun _ _ h => h)) ⟨wr.heap.size, 0, none⟩ 1 1 [.int .i64 y] rfl rfl (news_at wr 2 #[.int .i64 y]) int_one (by unfold maxLen; omega) (by omega) ?_)
          intro v2 w2 hs2 hk2 ho2
          have hka := (Keeps.refl (fun _ => False) wr).alloc (.cells #[.int .i64 y] 2)
          have hra := GR.out.keep hka (fun _ _ _ h => h)
          have ho2' : ∀ k, ownB v2 k → ownB (.slice ao a.length ac) k ∨ wr.heap.size ≤ k := fun k hk => (ho2 k hk).imp id (by omega)
          have hlo2 : ∀ b, lo = some b → b.block < wr.heap.size := fun b hb => Nat.lt_of_lt_of_le (HLO.out b hb) GK.out.size
          have hr3 := hra.app hs2 hk2 (by simpa using ho2) (fun b hb => by have := hlo2 b hb; simp; omega)
          obtain ⟨vo, vc, rfl, -, -, -⟩ := hs2.rd
          have nA : ¬ ownB (.slice ao a.length ac) A := GR.out.nA
          have a0 := (hk2.blk (hka.blk GR.out.hA (fun h => h)) nA).cell 0; have af := (hk2.blk (hka.blk GR.out.hA (fun h => h)) nA).free 0; have al := (hk2.blk (hka.blk GR.out.hA (fun h => h)) nA).lt
          simp only [List.getElem?_cons_zero] at a0
          have hst2 := ((KT.out.keep hka (fun _ _ h => h)).keep hk2 (fun k h1 h2 => (KO.out k h1).2 h2))
          have nT : ∀ k, ownB tv' k → k ≠ A := by
            rintro k hk rfl
            obtain ⟨_, cur, hc⟩ := KT.out.own hk
            exact hc.ne GR.out.hA (by decide) rfl
          have kset := (Keeps.refl (· = A) w2).setCell (p := ⟨A, 0, none⟩) (.inl rfl) (.slice vo (a.length + 1) vc)
          have hst3 := hst2.keep kset (fun k h1 h2 => nT k h1 h2)
          have hk3 : Keeps (fun b => b = A ∨ ownB av b) w (w2.setCell ⟨A, 0, none⟩ (.slice vo (a.length + 1) vc)) := ((GK.out.trans (hka.mono fun _ _ h => h.elim)).then hk2 (fun b hb => (GV.out b hb).imp (fun h => .inr h) id)).setCell (p := ⟨A, 0, none⟩) (.inl (.inl rfl)) _
          have HV3 : Hid (∀ b, ownB (.slice vo (a.length + 1) vc) b → ownB av b ∨ w.heap.size ≤ b) := fun b hb => by
            rcases ho2' b hb with h1 | h1
            · exact GV.out b h1
            · exact .inr (Nat.le_trans GK.out.size h1)
          have HT3 : Hid (∀ k, ownB tv' k → w.heap.size ≤ k ∧ ¬ ownB (.slice vo (a.length + 1) vc) k) := fun k hk => ⟨(KO.out k hk).1, fun h => by
            rcases ho2' k h with h1 | h1
            · exact (KO.out k hk).2 h1
            · have := (KT.out.own hk).1; omega⟩
          have HR3 := Lib.hid hr3; have HS3 := Lib.hid hst3; have HK3 := Lib.hid hk3
          have HOA : Hid (A < w2.heap.size) := al
          have hrl : rest.length ≤ 2000 := by have := GNN.out; omega
          subst htv
          clear hka hra ho2' hlo2 hr3 hst2 nT kset hst3 hk3 hs2 hk2 ho2 nA
          go_wp2_with fail
          generalize hw3 : w2.setCell ⟨A, 0, none⟩ (.slice vo (a.length + 1) vc) = w3 at *
          clear hw3 a0 af al d0 gl i0 il
          have l0 := HR3.out.hL.cell 0; have ll := HR3.out.hL.lt
          simp only [List.getElem?_cons_zero] at l0
          have HX : Hid (KLoop w A Lb Ib av lo lc (.slice vo (a.length + 1) vc) (a ++ [y]) leads rest y w3 0 _) := ⟨by rw [goesTo_zero, List.append_nil]; exact HS3.out, HR3.out, HT3.out, HK3.out⟩
          go_loopw [5, 7] (fun tdv i wx => ∃ k : Nat, k ≤ leads.length ∧ i = .int .i64 k ∧ KLoop w A Lb Ib av lo lc (.slice vo (a.length + 1) vc) (a ++ [y]) leads rest y wx k tdv) (fun _ i _ => leads.length - (intOf i).toNat)
          case atStart => exact ⟨0, Nat.zero_le _, rfl, HX.out⟩
          case round =>
            clear HX l0 ll
            obtain ⟨k, hk, rfl, hs4, hr4, ho4, hk4⟩ := hrel
            have l0 := hr4.hL.cell 0; have ll := hr4.hL.lt
            simp only [List.getElem?_cons_zero] at l0
            have JS := Lib.hid hs4; have JR := Lib.hid hr4; have JO := Lib.hid ho4; have JK := Lib.hid hk4
            have hrd := hr4.hR
            clear hs4 hr4 ho4 hk4
            have hg := goesTo_take_le leads y k
            obtain ⟨tl, hq⟩ : ∃ tl, tl = rest ++ goesTo (leads.take k) y := ⟨_, rfl⟩
            have htl : tl.length ≤ 4000 := by rw [hq, List.length_append]; omega
            have HQ := Lib.hid hq
            rw [← hq] at JS
            obtain ⟨to, tc, rfl, -, -, -⟩ := JS.out.rd
            clear hq
            by_cases hlt : k < leads.length
            · obtain ⟨g2, o2, rfl, hgl, d0, d1⟩ := hrd.ent k hlt
              have hstep := goesTo_step leads y k hlt
              generalize leads.getD k (0, 0) = v at *
              have JST := Lib.hid hstep
              clear hstep hrd hg
              by_cases hv : v.1 = y
              · have hvb : (v.1 == y) = true := by simpa using hv
                go_wp2_with (at_builtin; refine wpList_app rfl (.tmp 38) (.tmp 44) 32 rfl 2 ii (.int .i64 0) 1 8 Try.underlying32 Ii.out Iz0.out Iz1.out Iz2.out rfl (by decide) _ tl.length (tl.map (Value.int .i64)) rfl (JS.out.keep ((Keeps.refl (fun _ => False) wr).alloc _) (fun _ _ h => h)) ⟨wr.heap.size, 0, none⟩ 1 1 [.int .i64 v.2] rfl rfl (news_at wr 2 #[.int .i64 v.2]) int_one (by unfold maxLen; omega) (by omega) ?_)
                intro v5 w5 hs5 hk5 ho5
                have hka := (Keeps.refl (fun _ => False) wr).alloc (.cells #[.int .i64 v.2] 2)
                have nT : ∀ b, ownB (.slice to tl.length tc) b → ∃ cur, Blk wr b cur 2 := fun b hb => (JS.out.own hb).2
                have hra := (JR.out.keep hka (fun _ _ _ h => h)).keep hk5 (by
                  rintro b (rfl | rfl | rfl | hb | ⟨b', hb', rfl⟩) _ h2
                  · obtain ⟨cur, hc⟩ := nT _ h2
                    exact hc.ne JR.out.hA (by decide) rfl
                  · obtain ⟨cur, hc⟩ := nT _ h2
                    exact hc.ne JR.out.hL (by decide) rfl
                  · obtain ⟨cur, hc⟩ := nT _ h2
                    exact hc.ne JR.out.hI (by decide) rfl
                  · exact (JO.out b h2).2 hb
                  · have := (JO.out _ h2).1
                    have := HLO.out b' hb'
                    omega)
                have hk6 := (JK.out.trans (hka.mono fun _ _ h => h.elim)).then hk5 (fun b hb => .inr (JO.out b hb).1)
                have hrw : rest ++ goesTo (leads.take (k + 1)) y = tl ++ [v.2] := by rw [JST.out, if_pos hv, HQ.out, List.append_assoc]
                have HX : Hid (KLoop w A Lb Ib av (some ⟨g2, o2, none⟩) lc (.slice vo (a.length + 1) vc) (a ++ [y]) leads rest y w5 (k + 1) v5) := by
                  refine ⟨?_, hra, fun b hb => ?_, hk6⟩
                  · rw [hrw]
                    have := hs5
                    simpa using this
                  · rcases ho5 b hb with h1 | h1
                    · exact JO.out b h1
                    · refine ⟨?_, fun h2 => ?_⟩
                      · have := JK.out.size; omega
                      · have := (JR.out.hs.own h2).1; omega
                clear hka nT hra hk6 hrw hs5 hk5 ho5
                go_wp2_with fail
                go_roundw
                case rel => exact ⟨k + 1, by omega, by go_num, HX.out⟩
                case measure => simp [intOf]; omega
              · have hvb : (v.1 == y) = false := by simpa using hv
                go_wp2_with fail
                go_roundw
                case rel => exact ⟨k + 1, by omega, by go_num, by rw [JST.out, if_neg hv, List.append_nil, ← HQ.out]; exact JS.out, JR.out, JO.out, JK.out⟩
                case measure => simp [intOf]; omega
            · obtain rfl : k = leads.length := by omega
              go_wp2_with fail
              go_roundw
              case rel =>
                have hu := cntL_app leads hin
                obtain ⟨m, rfl⟩ : ∃ m, n = m + 1 := ⟨n - 1, by omega⟩
                have hq2 : tl = rest ++ goesTo leads y := by rw [HQ.out, List.take_length]
                have hql : tl.length = rest.length + (goesTo leads y).length := by rw [hq2, List.length_append]
                refine ⟨m, a ++ [y], tl, _, JS.out, JR.out, JO.out, JK.out, HV3.out, ?_, by omega, by have := GNN.out; omega, by have := GL.out; simp; omega⟩
                rw [GE.out, hq2]
                show (if a.contains y then _ else _) = _
                rw [hin]; rfl
              case measure =>
                have hu := cntL_app leads hin
                have h2 : aliveOf wr A = a ++ [y] := aliveOf_eq JR.out.hA (by have := JR.out.hs; simpa using this)
                have hql : tl.length = rest.length + (goesTo leads y).length := by rw [HQ.out, List.take_length, List.length_append]
                rw [HCN.out, h2]
                simp [sliceLen]
                try omega
        · have HNX : Hid (KIn w A Lb Ib av lo lc t leads x N wr tv') := by
            obtain ⟨m, rfl⟩ : ∃ m, n = m + 1 := ⟨n - 1, by omega⟩
            refine ⟨m, a, rest, av', KT.out, GR.out, KO.out, GK.out, GV.out, ?_, by omega, by have := GNN.out; omega, by have := GL.out; omega⟩
            rw [GE.out]
            show (if a.contains y then _ else _) = _
            rw [hin]; rfl
          subst htv
          go_wp2_with fail
          go_roundw
          case rel => exact HNX.out
          case measure => rw [HCN.out]; simp [sliceLen]; try omega

end Go.Proofs.Ytjifdalflepcoaa
