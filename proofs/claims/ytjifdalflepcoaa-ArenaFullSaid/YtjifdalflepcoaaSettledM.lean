/-
  The reference's Settled (ref.go): the state in the midst of it.
-/
import Derived.Test.YtjifdalflepcoaaSettledK
namespace Go.Proofs.Ytjifdalflepcoaa
open Go.RowKit
set_option linter.unusedVariables false
set_option linter.unusedSimpArgs false

structure RMid (w0 wr : World) (A Lb Ib D M : Nat) (av0 : Value) (lo : Option Addr) (lc : Nat) (leads : List (Int × Int)) (items : List It) (came : List (Int × Int)) (t : List Int) (av cv : Value) : Prop where
  hr : RAt wr A Lb Ib av lo lc t leads
  hd : Blk wr D (items.map fun i => .bool i.2.1) 4
  hm : Blk wr M (items.map fun i => .bool i.2.2) 4
  hc : Sl wr 41 2 cv came.length (entV came)
  hK : Keeps (ownB av0) w0 wr
  fA : w0.heap.size ≤ A
  fL : w0.heap.size ≤ Lb
  fI : w0.heap.size ≤ Ib
  fD : w0.heap.size ≤ D
  fM : w0.heap.size ≤ M
  fc : ∀ k, ownB cv k → w0.heap.size ≤ k
  fv : ∀ k, ownB av k → ownB av0 k ∨ w0.heap.size ≤ k
  hDM : D ≠ M
  hlo : ∀ a, lo = some a → a.block < w0.heap.size ∧ ¬ ownB av0 a.block

section
variable {w0 wr w2 : World} {A Lb Ib D M : Nat} {av0 : Value} {lo : Option Addr} {lc : Nat} {leads : List (Int × Int)} {items : List It} {came : List (Int × Int)} {t : List Int} {av cv : Value}

theorem RMid.keep (h : RMid w0 wr A Lb Ib D M av0 lo lc leads items came t av cv) (k : Keeps (fun _ => False) wr w2) : RMid w0 w2 A Lb Ib D M av0 lo lc leads items came t av cv :=
  ⟨h.hr.keep k (fun _ _ _ h => h), k.blk h.hd (fun h => h), k.blk h.hm (fun h => h), h.hc.keep k (fun _ _ h => h), h.hK.trans (k.mono fun _ _ h => h.elim), h.fA, h.fL, h.fI, h.fD, h.fM, h.fc, h.fv, h.hDM, h.hlo⟩

/-- What Settled's keep has done. -/
theorem RMid.kept {e : Ending} {t' : List Int} (h : RMid w0 wr A Lb Ib D M av0 lo lc leads items came t av cv) (hk : RKept wr A Lb Ib av lo lc t' leads e w2) : ∃ av', RMid w0 w2 A Lb Ib D M av0 lo lc leads items came t' av' cv := by
  obtain ⟨_, av', hr, k, ho⟩ := hk
  have nb : ∀ {b : Nat} {c : List Value} {T : TypeId}, Blk wr b c T → T ≠ 32 → T ≠ 2 → ¬ (b = A ∨ ownB av b) := fun {b c T} hb h1 h2 => by
    rintro (rfl | h3)
    · exact hb.ne h.hr.hA h1 rfl
    · obtain ⟨_, cur, hc⟩ := h.hr.hs.own h3
      exact hb.ne hc h2 rfl
  refine ⟨av', hr, k.blk h.hd (nb h.hd (by decide) (by decide)), k.blk h.hm (nb h.hm (by decide) (by decide)), h.hc.keep k (fun b hb => ?_), h.hK.then k ?_, h.fA, h.fL, h.fI, h.fD, h.fM, h.fc, ?_, h.hDM, h.hlo⟩
  · obtain ⟨_, cur, hc⟩ := h.hc.own hb
    exact nb hc (by decide) (by decide)
  · rintro b (rfl | hb)
    · exact .inr h.fA
    · exact h.fv b hb
  · intro b hb
    rcases ho b hb with h1 | h1
    · exact h.fv b h1
    · exact .inr (Nat.le_trans h.hK.size h1)

/-- came grows. -/
theorem RMid.grow {cv' : Value} {came' : List (Int × Int)} (h : RMid w0 wr A Lb Ib D M av0 lo lc leads items came t av cv) (hs : Sl w2 41 2 cv' came'.length (entV came')) (k : Keeps (ownB cv) wr w2) (ho : ∀ b, ownB cv' b → ownB cv b ∨ wr.heap.size ≤ b) :
    RMid w0 w2 A Lb Ib D M av0 lo lc leads items came' t av cv' := by
  have nb : ∀ {b : Nat} {c : List Value} {T : TypeId}, Blk wr b c T → T ≠ 41 → ¬ ownB cv b := fun {b c T} hb h1 h3 => by
    obtain ⟨_, cur, hc⟩ := h.hc.own h3
    exact hb.ne hc h1 rfl
  refine ⟨h.hr.keep k ?_, k.blk h.hd (nb h.hd (by decide)), k.blk h.hm (nb h.hm (by decide)), hs, h.hK.then k (fun b hb => .inr (h.fc b hb)), h.fA, h.fL, h.fI, h.fD, h.fM, ?_, h.fv, h.hDM, h.hlo⟩
  · rintro b (rfl | rfl | rfl | hb | ⟨a, ha, rfl⟩) _
    · exact nb h.hr.hA (by decide)
    · exact nb h.hr.hL (by decide)
    · exact nb h.hr.hI (by decide)
    · obtain ⟨_, cur, hc⟩ := h.hr.hs.own hb
      exact nb hc (by decide)
    · intro hb
      have := (h.hlo a ha).1
      have := h.fc _ hb
      omega
  · intro b hb
    rcases ho b hb with h1 | h1
    · exact h.fc b h1
    · exact Nat.le_trans h.hK.size h1

/-- One more was moved. -/
theorem RMid.move {i : It} {a b : List It} (h : RMid w0 wr A Lb Ib D M av0 lo lc leads (a ++ i :: b) came t av cv) : RMid w0 (wr.setCell ⟨M, a.length, none⟩ (.bool true)) A Lb Ib D M av0 lo lc leads (a ++ (i.1, i.2.1, true) :: b) came t av cv := by
  have k := (Keeps.refl (· = M) wr).setCell (p := ⟨M, a.length, none⟩) (.inl rfl) (.bool true)
  have nb : ∀ {b : Nat} {c : List Value} {T : TypeId}, Blk wr b c T → T ≠ 4 → ¬ b = M := fun {b c T} hb h1 h3 => by
    subst h3; exact hb.ne h.hm h1 rfl
  refine ⟨h.hr.keep k ?_, ?_, ?_, h.hc.keep k (fun b hb => ?_), h.hK.then k (fun b hb => .inr (by rw [hb]; exact h.fM)), h.fA, h.fL, h.fI, h.fD, h.fM, h.fc, h.fv, h.hDM, h.hlo⟩
  · rintro b (rfl | rfl | rfl | hb | ⟨a, ha, rfl⟩) _
    · exact nb h.hr.hA (by decide)
    · exact nb h.hr.hL (by decide)
    · exact nb h.hr.hI (by decide)
    · obtain ⟨_, cur, hc⟩ := h.hr.hs.own hb
      exact nb hc (by decide)
    · intro hb
      have := (h.hlo a ha).1
      have := h.fM
      omega
  · have := k.blk h.hd h.hDM
    simpa using this
  · have := h.hm.setSame a.length (.bool true)
    simpa using this
  · obtain ⟨_, cur, hc⟩ := h.hc.own hb
    exact nb hc (by decide)
end

/-- In the midst of a pass. -/
def RScan (w0 : World) (A Lb Ib D M : Nat) (av0 : Value) (lo : Option Addr) (lc : Nat) (leads : List (Int × Int)) (t1 : List Int) (q1 : List (Int × Int)) (items : List It) (N : Nat) (cv : Value) (wr : World) (k : Nat) (more : Bool) : Prop :=
  ∃ t' q' av done, done.length = k ∧ RMid w0 wr A Lb Ib D M av0 lo lc leads (done ++ items.drop k) q' t' av cv ∧ q'.length + unN (done ++ items.drop k) ≤ N ∧ t'.length + 1001 * unN (done ++ items.drop k) ≤ 70000 ∧
    scanM liveR (keepR leads) t1 q1 items = ((scanM liveR (keepR leads) t' q' (items.drop k)).1, (scanM liveR (keepR leads) t' q' (items.drop k)).2.1, done ++ (scanM liveR (keepR leads) t' q' (items.drop k)).2.2.1, more || (scanM liveR (keepR leads) t' q' (items.drop k)).2.2.2)

theorem RScan.skip {w0 : World} {A Lb Ib D M : Nat} {av0 : Value} {lo : Option Addr} {lc : Nat} {leads : List (Int × Int)} {t1 : List Int} {q1 : List (Int × Int)} {items : List It} {N : Nat} {cv : Value} {wr w2 : World} {k : Nat} {more : Bool}
    {t' : List Int} {q' : List (Int × Int)} {av : Value} {done : List It} {i : It} (hd : done.length = k) (hdr : items.drop k = i :: items.drop (k + 1)) (hm : RMid w0 wr A Lb Ib D M av0 lo lc leads (done ++ i :: items.drop (k + 1)) q' t' av cv) (hN : q'.length + unN (done ++ i :: items.drop (k + 1)) ≤ N) (hT : t'.length + 1001 * unN (done ++ i :: items.drop (k + 1)) ≤ 70000)
    (he : scanM liveR (keepR leads) t1 q1 items = ((scanM liveR (keepR leads) t' q' (i :: items.drop (k + 1))).1, (scanM liveR (keepR leads) t' q' (i :: items.drop (k + 1))).2.1, done ++ (scanM liveR (keepR leads) t' q' (i :: items.drop (k + 1))).2.2.1, more || (scanM liveR (keepR leads) t' q' (i :: items.drop (k + 1))).2.2.2))
    (hk2 : Keeps (fun _ => False) wr w2) (hc : ((i.2.1 && !i.2.2) && liveR t' i.1.1) = false) : RScan w0 A Lb Ib D M av0 lo lc leads t1 q1 items N cv w2 (k + 1) more := by
  have e : done ++ i :: items.drop (k + 1) = (done ++ [i]) ++ items.drop (k + 1) := by simp
  refine ⟨t', q', av, done ++ [i], by simp [hd], ?_, ?_, ?_, ?_⟩
  · rw [← e]; exact hm.keep hk2
  · rw [← e]; exact hN
  · rw [← e]; exact hT
  · rw [he]
    simp only [scanM, hc, if_neg (show ¬ (false = true) by decide), List.append_assoc, List.cons_append, List.nil_append]

theorem RScan.took {w0 : World} {A Lb Ib D M : Nat} {av0 : Value} {lo : Option Addr} {lc : Nat} {leads : List (Int × Int)} {t1 : List Int} {q1 : List (Int × Int)} {items : List It} {N : Nat} {cv2 : Value} {w2 : World} {k : Nat} {more : Bool}
    {t' : List Int} {q' : List (Int × Int)} {av2 : Value} {done : List It} {i : It} (hd : done.length = k) (hN : q'.length + unN (done ++ i :: items.drop (k + 1)) ≤ N) (hT : t'.length + 1001 * unN (done ++ i :: items.drop (k + 1)) ≤ 70000) (hl : leads.length ≤ 1000)
    (he : scanM liveR (keepR leads) t1 q1 items = ((scanM liveR (keepR leads) t' q' (i :: items.drop (k + 1))).1, (scanM liveR (keepR leads) t' q' (i :: items.drop (k + 1))).2.1, done ++ (scanM liveR (keepR leads) t' q' (i :: items.drop (k + 1))).2.2.1, more || (scanM liveR (keepR leads) t' q' (i :: items.drop (k + 1))).2.2.2))
    (hm : RMid w0 w2 A Lb Ib D M av0 lo lc leads (done ++ (i.1, i.2.1, true) :: items.drop (k + 1)) (q' ++ [i.1]) (keepB leads (1 + cntL leads t') t' [i.1.2]) av2 cv2)
    (hc : ((i.2.1 && !i.2.2) && liveR t' i.1.1) = true) : RScan w0 A Lb Ib D M av0 lo lc leads t1 q1 items N cv2 w2 (k + 1) true := by
  have e : done ++ (i.1, i.2.1, true) :: items.drop (k + 1) = (done ++ [(i.1, i.2.1, true)]) ++ items.drop (k + 1) := by simp
  have hc' := hc
  simp only [Bool.and_eq_true, Bool.not_eq_true'] at hc'
  refine ⟨keepB leads (1 + cntL leads t') t' [i.1.2], q' ++ [i.1], av2, done ++ [(i.1, i.2.1, true)], by simp [hd], ?_, ?_, ?_, ?_⟩
  · rw [← e]; exact hm
  · rw [← e]
    simp only [List.length_append, unN_app, unN_cons, hc'.1.2] at hN ⊢
    simp at hN ⊢
    omega
  · rw [← e]
    have h1 := keepB_len leads (1 + cntL leads t') t' [i.1.2]
    have h2 := cntL_le leads t'
    simp only [unN_app, unN_cons, hc'.1.2] at hT ⊢
    simp at hT ⊢
    omega
  · rw [he]
    simp only [scanM, hc, if_true, List.append_assoc, List.cons_append, List.nil_append, Bool.or_true, Bool.true_or]
    rfl

/-- Between passes. -/
def RMore (w0 : World) (A Lb Ib D M : Nat) (av0 : Value) (lo : Option Addr) (lc : Nat) (leads : List (Int × Int)) (t : List Int) (regs : List (Int × Int)) (N : Nat) (cv : Value) (wr : World) (more : Bool) (items : List It) : Prop :=
  ∃ n t' q' av, RMid w0 wr A Lb Ib D M av0 lo lc leads items q' t' av cv ∧ items.map (·.1) = regs ∧ q'.length + unN items ≤ N ∧ t'.length + 1001 * unN items ≤ 70000 ∧ (more = true → unN items < n) ∧
    passM liveR (keepR leads) t regs [] = if more then roundsM liveR (keepR leads) n t' q' items else (t', q', items)

theorem RMore.next {w0 : World} {A Lb Ib D M : Nat} {av0 : Value} {lo : Option Addr} {lc : Nat} {leads : List (Int × Int)} {t : List Int} {regs : List (Int × Int)} {N n : Nat} {cv : Value} {t' : List Int} {q' : List (Int × Int)} {items : List It} {w2 : World} {more : Bool}
    (hf : items.map (·.1) = regs) (hn : unN items < n) (he : passM liveR (keepR leads) t regs [] = roundsM liveR (keepR leads) n t' q' items) (hs : RScan w0 A Lb Ib D M av0 lo lc leads t' q' items N cv w2 regs.length more) :
    ∃ done, RMore w0 A Lb Ib D M av0 lo lc leads t regs N cv w2 more done ∧ unN done ≤ unN items ∧ (more = true → unN done < unN items) ∧ Blk w2 M (done.map fun i => .bool i.2.2) 4 := by
  obtain ⟨t2, q2, av2, done, hd, hm, hN, hT, hE⟩ := hs
  have hl : items.length = regs.length := by rw [← hf]; simp
  rw [← hl, List.drop_length, List.append_nil] at hm hN hT
  rw [← hl, List.drop_length] at hE
  simp only [scanM, List.append_nil, Bool.or_false] at hE
  have h1 := scanM_fst liveR (keepR leads) items t' q'
  have h2 := scanM_un liveR (keepR leads) items t' q'
  rw [hE] at h1 h2
  simp only at h1 h2
  cases n with
  | zero => omega
  | succ n =>
    refine ⟨done, ⟨n, t2, q2, av2, hm, ?_, hN, hT, fun h => ?_, ?_⟩, h2.1, h2.2, hm.hm⟩
    · have := congrArg (List.map Prod.fst) h1
      simp only [List.map_map] at this
      rw [← hf]
      simpa [Function.comp_def] using this
    · have := h2.2 h; omega
    · rw [he]
      simp only [roundsM, hE]

/-- A list of the reference's entries, made anew. -/
def NewR (w wr : World) (v : Value) (l : List (Int × Int)) : Prop := Sl wr 41 2 v l.length (entV l) ∧ Keeps (fun _ => False) w wr ∧ ∀ b, ownB v b → w.heap.size ≤ b

theorem NewR.nil (w : World) : NewR w w (.slice none 0 0) [] := ⟨Sl.nil w 41 2, Keeps.refl _ _, by intro k hk; simp [ownB, Value.ownBlock] at hk⟩

theorem NewR.keep {w wr w2 : World} {v : Value} {l : List (Int × Int)} (h : NewR w wr v l) (k : Keeps (fun _ => False) wr w2) : NewR w w2 v l := ⟨h.1.keep k (fun _ _ h => h), h.2.1.trans k, h.2.2⟩

theorem NewR.app {w wr w1 w2 : World} {v v2 : Value} {l : List (Int × Int)} {e : Int × Int} (h : NewR w wr v l) (k1 : Keeps (fun _ => False) wr w1) (hs : Sl w2 41 2 v2 (l.length + 1) (entV l ++ [.int .i64 e.1, .int .i64 e.2])) (hk : Keeps (ownB v) w1 w2) (ho : ∀ b, ownB v2 b → ownB v b ∨ w1.heap.size ≤ b) : NewR w w2 v2 (l ++ [e]) := by
  refine ⟨by simpa [entV] using hs, (h.2.1.trans k1).then hk (fun b hb => .inr (h.2.2 b hb)), fun b hb => ?_⟩
  rcases ho b hb with h1 | h1
  · exact h.2.2 b h1
  · exact Nat.le_trans (Nat.le_trans h.2.1.size k1.size) h1

end Go.Proofs.Ytjifdalflepcoaa
