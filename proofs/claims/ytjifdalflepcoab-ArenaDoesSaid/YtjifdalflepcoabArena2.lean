/-
  arena.take, make, Copy, Words, New.
-/
import Derived.Test.YtjifdalflepcoabArena
import Derived.Laws.CopyRow
import Derived.Deep.DeepCutAuto
namespace Go.Proofs.Ytjifdalflepcoab
open Go.RowKit
set_option linter.unusedVariables false
set_option linter.unusedSimpArgs false

/-- copy of one-celled elements within a region that draws. -/
theorem gRun_copy {P : Program} {w : World} {o : Oper} {a : Act} {K : Act → World → Prop} (d s : Operand) (t : TypeId)
    (ho : o.op = .call { callee := .builtin .copy, args := #[d, s], argTypes := #[t, t] })
    (e : TypeId) (hu : P.underlying t = some (.slice e)) (hsz : (P.info? e).map (·.size) = some 1)
    (g off dLen dCap : Nat) (ad : Addr) (sLen sCap : Nat) (hd : a.eval d = .slice (some ⟨g, off, none⟩) dLen dCap) (hs : a.eval s = .slice (some ad) sLen sCap)
    (cur : List Value) (hb : Blk w g cur e) (cs : List Value) (hn : cs.length = Nat.min sLen dLen)
    (hsrc : ∀ j v, cs[j]? = some v → w.cell? (ad.add j) = some v) (hfit : off + cs.length ≤ cur.length) (h1 : ∀ v ∈ cs, v.oneCell' = true)
    (h : K (a.put o.dst (goInt cs.length)) (w.setRow g (cur.take off ++ cs ++ cur.drop (off + cs.length)).toArray)) : gRun P o a w K := by
  have hrun := run_copy_row (P := P) w t t o.type e g off dLen dCap ad sLen sCap cur.toArray e cs hu hsz hb hn hsrc (by simpa using hfit) h1
  unfold gRun execOp
  simp only [ho, resolve, invoke, builtin, Sem.run_bind, Sem.run_pure, Result.andThen_ok, List.map_toArray, List.map_cons, List.map_nil, hd, hs, hrun]
  exact h

theorem lay_map {l m : List Int} {i : Nat} (f : Int → Value) : (lay l i m).map f = (l.map f).take i ++ m.map f ++ (l.map f).drop (i + (m.map f).length) := by
  unfold lay; simp [List.map_take, List.map_drop]

theorem lay_set {l : List Int} {i j : Nat} {h : Int} (hl : i + 1 + j < l.length) : (lay l i (h :: List.replicate j 2)).set (i + 1 + j) 2 = lay l i (h :: List.replicate (j + 1) 2) := by
  apply List.ext_getElem?
  intro k
  have e1 : (h :: List.replicate j (2 : Int)).length = j + 1 := by simp
  have e2 : (h :: List.replicate (j + 1) (2 : Int)).length = j + 2 := by simp
  have hl1 : (lay l i (h :: List.replicate j 2)).length = l.length := lay_length (by rw [e1]; omega)
  rw [List.getElem?_set, lay_get (by rw [e1]; omega), lay_get (by rw [e2]; omega), e1, e2, hl1]
  by_cases hk : i + 1 + j = k
  · subst hk
    rw [if_pos rfl, if_pos hl, if_pos (by omega)]
    rw [show i + 1 + j - i = j + 1 by omega, List.getElem?_cons_succ, List.getElem?_replicate, if_pos (by omega)]
  · rw [if_neg hk]
    by_cases h2 : i ≤ k ∧ k < i + (j + 1)
    · rw [if_pos h2, if_pos (by omega)]
      obtain ⟨m, rfl⟩ : ∃ m, k = i + m := ⟨k - i, by omega⟩
      rw [show i + m - i = m by omega]
      cases m with
      | zero => rfl
      | succ m => rw [List.getElem?_cons_succ, List.getElem?_cons_succ, List.getElem?_replicate, List.getElem?_replicate, if_pos (by omega), if_pos (by omega)]
    · rw [if_neg h2, if_neg (by omega)]

theorem lay_one {l : List Int} {i : Nat} {h : Int} (hl : i < l.length) : l.set i h = lay l i [h] := by
  unfold lay
  rw [List.set_eq_take_append_cons_drop, if_pos hl]
  simp

theorem Keeps.self {S : Nat → Prop} {w w' : World} (h : Keeps (fun _ => False) w w') : Keeps S w w' := h.mono fun _ _ h => h.elim

section
variable {p g : Nat} {A : Ar}

theorem ArenaTo.refl {w w' : World} (h : ArenaAt w p g A) (k : Keeps (fun _ => False) w w') : ArenaTo w p g w' A := ⟨h.keep k (fun h => h) (fun h => h), k.self⟩
theorem ArenaTo.trans {w w1 w2 : World} {B C : Ar} (h : ArenaTo w p g w1 B) (k : ArenaTo w1 p g w2 C) : ArenaTo w p g w2 C := ⟨k.at_, h.k.trans k.k⟩

set_option maxHeartbeats 2000000 in
set_option maxRecDepth 100000 in
theorem takeY_c (n : Int) (w : World) (h : ArenaAt w p g A) (h0 : 0 ≤ n) (h1 : n ≤ 1000) :
    Calls Try.prog 83 #[.pointer (some ⟨p, 0, none⟩), .int .i64 n, .bool false] w fun e w' => e = .returned (.int .i64 (A.takeY n).1) ∧ ArenaTo w p g w' (A.takeY n).2 := by
  have H := Lib.hid h
  have o1 := h.ok.h1; have o2 := h.ok.h2; have o3 := h.ok.h3; have o4 := h.ok.h4
  have hn : decide ((0 : Int) ≤ n) = true := by simpa using h0
  clear h
  by_cases hc : n ≤ ((A.nur - A.yng : Nat) : Int)
  · have hcb : decide (n ≤ ((A.nur - A.yng : Nat) : Int)) = true := by simpa using hc
    have HE := Lib.hid (show A.takeY n = ((A.yng : Int), { A with yng := A.yng + n.toNat }) from if_pos ⟨h0, by omega⟩)
    go_enter Try.func83, Try.ntmps83
    go_wp2_with fail
    refine (Free_c _ H.out).mono ?_
    rintro e w1 ⟨rfl, hk⟩
    have H1 := Lib.hid (H.out.keep hk (fun h => h) (fun h => h)); have HK := Lib.hid hk
    obtain ⟨-, -, c2, -⟩ := H1.out.cells
    have f2 := H1.out.hp.free 2; have pl := H1.out.hp.lt
    clear hk
    go_wp2_with fail
    go_ret
    refine ⟨by rw [HE.out]; exact ret_int (by dsimp only; try omega), ?_⟩
    rw [HE.out]
    refine ⟨⟨?_, ?_, ?_⟩, (HK.out.self).setCell (p := ⟨p, 2, none⟩) (.inl (.inl rfl)) _⟩
    · have := H1.out.hp.setSame 2 (.int .i64 ((A.yng : Int) + n))
      have e : ((A.yng : Int) + n) = ((A.yng + n.toNat : Nat) : Int) := by omega
      rw [e] at this ⊢
      simpa using this
    · exact H1.out.hg.setOther (a := ⟨p, 2, none⟩) (Ne.symm H.out.ne) _
    · exact ⟨by show A.yng + n.toNat ≤ A.nur; omega, o2, o3, o4, H.out.ok.hw⟩
  · have hcb : decide (n ≤ ((A.nur - A.yng : Nat) : Int)) = false := by simpa using hc
    have HE := Lib.hid (show A.takeY n = (-1, A) from if_neg (by omega))
    go_enter Try.func83, Try.ntmps83
    go_wp2_with fail
    refine (Free_c _ H.out).mono ?_
    rintro e w1 ⟨rfl, hk⟩
    go_wp2_with fail
    go_ret
    refine ⟨by rw [HE.out]; rfl, ?_⟩
    rw [HE.out]
    exact ArenaTo.refl H.out hk

set_option maxHeartbeats 2000000 in
set_option maxRecDepth 100000 in
theorem takeO_c (n : Int) (w : World) (h : ArenaAt w p g A) (h0 : 0 ≤ n) (h1 : n ≤ 1000) :
    Calls Try.prog 83 #[.pointer (some ⟨p, 0, none⟩), .int .i64 n, .bool true] w fun e w' => e = .returned (.int .i64 (A.takeO n).1) ∧ ArenaTo w p g w' (A.takeO n).2 := by
  have H := Lib.hid h
  have o1 := h.ok.h1; have o2 := h.ok.h2; have o3 := h.ok.h3; have o4 := h.ok.h4
  have hn : decide ((0 : Int) ≤ n) = true := by simpa using h0
  clear h
  by_cases hc : n ≤ ((A.ws.length - A.grn : Nat) : Int)
  · have hcb : decide (n ≤ ((A.ws.length - A.grn : Nat) : Int)) = true := by simpa using hc
    have HE := Lib.hid (show A.takeO n = ((A.grn : Int), { A with grn := A.grn + n.toNat }) from if_pos ⟨h0, by omega⟩)
    go_enter Try.func83, Try.ntmps83
    go_wp2_with fail
    refine (Free_c _ H.out).mono ?_
    rintro e w1 ⟨rfl, hk⟩
    have H1 := Lib.hid (H.out.keep hk (fun h => h) (fun h => h)); have HK := Lib.hid hk
    obtain ⟨-, -, -, c2⟩ := H1.out.cells
    have f2 := H1.out.hp.free 3; have pl := H1.out.hp.lt
    clear hk
    go_wp2_with fail
    go_ret
    refine ⟨by rw [HE.out]; exact ret_int (by dsimp only; try omega), ?_⟩
    rw [HE.out]
    refine ⟨⟨?_, ?_, ?_⟩, (HK.out.self).setCell (p := ⟨p, 3, none⟩) (.inl (.inl rfl)) _⟩
    · have := H1.out.hp.setSame 3 (.int .i64 ((A.grn : Int) + n))
      have e : ((A.grn : Int) + n) = ((A.grn + n.toNat : Nat) : Int) := by omega
      rw [e] at this ⊢
      simpa using this
    · exact H1.out.hg.setOther (a := ⟨p, 3, none⟩) (Ne.symm H.out.ne) _
    · exact ⟨o1, by show A.nur ≤ A.grn + n.toNat; omega, by show A.grn + n.toNat ≤ A.ws.length; omega, o4, H.out.ok.hw⟩
  · have hcb : decide (n ≤ ((A.ws.length - A.grn : Nat) : Int)) = false := by simpa using hc
    have HE := Lib.hid (show A.takeO n = (-1, A) from if_neg (by omega))
    go_enter Try.func83, Try.ntmps83
    go_wp2_with fail
    refine (Free_c _ H.out).mono ?_
    rintro e w1 ⟨rfl, hk⟩
    go_wp2_with fail
    go_ret
    refine ⟨by rw [HE.out]; rfl, ?_⟩
    rw [HE.out]
    exact ArenaTo.refl H.out hk

set_option maxHeartbeats 4000000 in
set_option maxRecDepth 100000 in
theorem make_c (k f : Int) (w : World) (h : ArenaAt w p g A) (hf : R64 f) :
    Calls Try.prog 79 #[.pointer (some ⟨p, 0, none⟩), .int .i64 k, .int .i64 f, .bool false] w fun e w' => e = .returned (.int .i64 (A.make k f).1) ∧ ArenaTo w p g w' (A.make k f).2 := by
  have H := Lib.hid h
  have o1 := h.ok.h1; have o2 := h.ok.h2; have o3 := h.ok.h3; have o4 := h.ok.h4
  have HOK := Lib.hid (h.ok.make k f)
  have HF := Lib.hid hf
  clear h hf
  cases hfit : fitsW k f
  · have HE := Lib.hid (Ar.make_no (A := A) (k := k) (f := f) (by rw [hfit]; simp))
    have hcode := (headW_code hfit).2
    clear hfit
    go_enter Try.func79, Try.ntmps79
    go_wp2_with fail
    refine (Head_c k f _ HF.out.1 HF.out.2).mono ?_
    rintro e w1 ⟨rfl, rfl⟩
    go_wp2_with fail
    go_ret
    rw [HE.out]
    exact ⟨rfl, ArenaTo.refl H.out (Keeps.refl _ _)⟩
  · have hs := fitsW_spec hfit
    obtain ⟨n, rfl⟩ : ∃ n : Nat, f = n := ⟨f.toNat, by omega⟩
    have hn : n ≤ 12 := by omega
    have HH := Lib.hid (headW_fits hfit)
    by_cases hroom : 1 + (n : Int) ≤ (A.nur : Int) - A.yng
    · have HE := Lib.hid (show A.make k n = ((A.yng : Int), { A with yng := A.yng + (1 + (n : Int)).toNat, ws := lay A.ws A.yng (thingW k n) }) from if_pos ⟨hfit, hroom⟩)
      have HT := Lib.hid (show A.takeY (1 + (n : Int)) = ((A.yng : Int), { A with yng := A.yng + (1 + (n : Int)).toNat }) from if_pos ⟨by omega, hroom⟩)
      have hk1 := hs.1; have hk2 := hs.2.1
      clear hfit hs
      go_enter Try.func79, Try.ntmps79
      go_wp2_with fail
      refine (Head_c k n _ HF.out.1 HF.out.2).mono ?_
      rintro e w1 ⟨rfl, rfl⟩
      rw [HH.out]
      go_wp2_with fail
      refine (takeY_c (1 + (n : Int)) _ H.out (by omega) (by omega)).mono ?_
      rintro e w2 ⟨rfl, hto⟩
      rw [HT.out] at hto ⊢
      dsimp only at hto ⊢
      have HTO := Lib.hid hto
      obtain ⟨c0, -, -, -⟩ := hto.at_.cells
      have pl := hto.at_.hp.lt; have gl := hto.at_.hg.lt
      have c4 := hto.at_.word A.yng (by dsimp only; omega)
      have f4 := hto.at_.hg.free A.yng
      dsimp only at c0 c4
      have hlt : (A.yng : Int) < A.ws.length := by omega
      clear hto
      go_wp2_with fail
      have hb0 := HTO.out.at_.hg.setSame A.yng (.int .i64 (16 * (n : Int) + k))
      have hp0 := HTO.out.at_.hp.setOther (a := ⟨g, A.yng, none⟩) H.out.ne (.int .i64 (16 * (n : Int) + k))
      have hk0 := HTO.out.k.setCell (p := ⟨g, A.yng, none⟩) (.inl (.inr rfl)) (.int .i64 (16 * (n : Int) + k))
      dsimp only at hb0 hp0
      rw [← List.map_set, lay_one (by omega)] at hb0
      generalize w2.setCell ⟨g, A.yng, none⟩ (.int .i64 (16 * (n : Int) + k)) = w3 at *
      have HB0 := Lib.hid hb0; have HP0 := Lib.hid hp0; have HK0 := Lib.hid hk0
      clear hb0 hp0 hk0 c0 c4 f4 HTO
      go_loopw [36] (fun i wr => ∃ j : Nat, j ≤ n ∧ i = .int .i64 j ∧ Blk wr g ((lay A.ws A.yng ((16 * (n : Int) + k) :: List.replicate j 2)).map (Value.int .i64)) 2 ∧ Keeps (fun b => b = g) w3 wr) (fun i _ => n - (intOf i).toNat)
      case atStart => exact ⟨0, Nat.zero_le _, rfl, HB0.out, Keeps.refl _ _⟩
      case round =>
        obtain ⟨j, hj, rfl, hb, hk⟩ := hrel
        have HB := Lib.hid hb; have HK := Lib.hid hk
        have hpr := hk.blk HP0.out H.out.ne
        have c0 := hpr.cell 0
        have pl := hpr.lt; have gl := hb.lt
        simp only [List.getElem?_cons_zero] at c0
        have HPR := Lib.hid hpr
        by_cases hlt2 : j < n
        · have f4 := hb.free (A.yng + 1 + j)
          have c4 : ∃ v, wr.cell? ⟨g, A.yng + 1 + j, none⟩ = some v := by
            have hl : (lay A.ws A.yng ((16 * (n : Int) + k) :: List.replicate j 2)).length = A.ws.length := lay_length (by simp; omega)
            rw [hb.cell, List.getElem?_map, List.getElem?_eq_getElem (by rw [hl]; omega)]
            exact ⟨_, rfl⟩
          obtain ⟨v4, c4⟩ := c4
          have hix : (A.yng : Int) + 1 + j < A.ws.length := by omega
          have hw1 : IntKind.i64.wrap ((A.yng : Int) + 1) = (A.yng : Int) + 1 := IntWalk.i64_in _ (by omega)
          have hw2 : IntKind.i64.wrap ((A.yng : Int) + 1 + j) = (A.yng : Int) + 1 + j := IntWalk.i64_in _ (by omega)
          have hw3 : ((A.yng : Int) + 1 + j).toNat = A.yng + 1 + j := by omega
          have hw4 : (0 : Int) ≤ (A.yng : Int) + 1 + j := by omega
          clear hb hk hpr
          go_wp2_with fail
          refine wp_region_ro (.free 0 (.free 1 (.free 2 (.free 4 (.free 5 (.free 6 (.free 7 (.pure 3 (.run 8 (.free 9 (.run 10 (.swi [] (.fin))))))))))))) [10] (fun w' => w'.cell? ⟨p, 0, none⟩ = some (.slice (some ⟨g, 0, none⟩) A.ws.length A.ws.length)) (by kernel_rfl) (by kernel_rfl) c0 ?_
          first | (refine wpRO_free rfl rfl _ (fun w' => by go_simp; exact Gives.mk _ _) (fun K hK => ?_); go_simp; refine hK _ ?_; clear hK K) | (refine wpRO_skipF rfl rfl (fun K hK => ?_); go_simp; refine hK _ ?_; clear hK K)
          first | (refine wpRO_free rfl rfl _ (fun w' => by go_simp; exact Gives.mk _ _) (fun K hK => ?_); go_simp; refine hK _ ?_; clear hK K) | (refine wpRO_skipF rfl rfl (fun K hK => ?_); go_simp; refine hK _ ?_; clear hK K)
          first | (refine wpRO_free rfl rfl _ (fun w' => by go_simp; exact Gives.mk _ _) (fun K hK => ?_); go_simp; refine hK _ ?_; clear hK K) | (refine wpRO_skipF rfl rfl (fun K hK => ?_); go_simp; refine hK _ ?_; clear hK K)
          first | (refine wpRO_free rfl rfl _ (fun w' => by go_simp; exact Gives.mk _ _) (fun K hK => ?_); go_simp; refine hK _ ?_; clear hK K) | (refine wpRO_skipF rfl rfl (fun K hK => ?_); go_simp; refine hK _ ?_; clear hK K)
          first | (refine wpRO_free rfl rfl _ (fun w' => by go_simp; exact Gives.mk _ _) (fun K hK => ?_); go_simp; refine hK _ ?_; clear hK K) | (refine wpRO_skipF rfl rfl (fun K hK => ?_); go_simp; refine hK _ ?_; clear hK K)
          first | (refine wpRO_free rfl rfl _ (fun w' => by go_simp; exact Gives.mk _ _) (fun K hK => ?_); go_simp; refine hK _ ?_; clear hK K) | (refine wpRO_skipF rfl rfl (fun K hK => ?_); go_simp; refine hK _ ?_; clear hK K)
          first | (refine wpRO_free rfl rfl _ (fun w' => by go_simp; exact Gives.mk _ _) (fun K hK => ?_); go_simp; refine hK _ ?_; clear hK K) | (refine wpRO_skipF rfl rfl (fun K hK => ?_); go_simp; refine hK _ ?_; clear hK K)
          first | (refine wpRO_pure rfl rfl _ (fun w' hG => by obtain g0 := hG; exact gives_agg2 rfl (by decide +kernel) rfl (by assumption) (by assumption)) (fun K hK => ?_); go_simp; refine hK _ ?_; clear hK K) | (refine wpRO_pure rfl rfl _ (fun w' hG => by obtain g0 := hG; go_simp; exact Gives.mk _ _) (fun K hK => ?_); go_simp; refine hK _ ?_; clear hK K) | (refine wpRO_skip rfl rfl (fun K hK => ?_); go_simp; refine hK _ ?_; clear hK K)
          refine wpRO_run rfl rfl (fun K hK => ?_); unfold gRun; go_simp
          refine (Nil_c _).mono ?_
          rintro e w5 ⟨rfl, rfl⟩
          refine hK _ _ (fun hg => c0) ?_
          clear hK K
          first | (refine wpRO_free rfl rfl _ (fun w' => by go_simp; exact Gives.mk _ _) (fun K hK => ?_); go_simp; refine hK _ ?_; clear hK K) | (refine wpRO_skipF rfl rfl (fun K hK => ?_); go_simp; refine hK _ ?_; clear hK K)
          refine wpRO_chg rfl rfl rfl (fun K hK => ?_); unfold gRun; go_simp
          refine hK _ _ ?_
          clear hK K
          refine wpRO_swi (fun _ => True) trivial (wpRO_fin ?_)
          clear hw1 hw2 hw3 hw4
          have hset := lay_set (l := A.ws) (i := A.yng) (j := j) (h := 16 * (n : Int) + k) (by omega)
          have hb2 : Blk (wr.setCell ⟨g, A.yng + 1 + j, none⟩ (.int .i64 2)) g ((lay A.ws A.yng ((16 * (n : Int) + k) :: List.replicate (j + 1) 2)).map (Value.int .i64)) 2 := by
            rw [← hset, List.map_set]; exact HB.out.setSame _ _
          have HB2 := Lib.hid hb2
          have HK2 := Lib.hid (HK.out.setCell (p := ⟨g, A.yng + 1 + j, none⟩) (.inl rfl) (.int .i64 2))
          clear hset hb2 c0 c4 f4
          go_wp2_with fail
          go_roundw
          case rel => exact ⟨j + 1, by omega, by go_num, HB2.out.drew, HK2.out.drew⟩
          case measure => simp [intOf]; omega
        · obtain rfl : j = n := by omega
          clear hb hk hpr
          go_wp2_with fail
          go_ret
          have hok := HOK.out
          rw [HE.out] at hok ⊢
          have hl : (lay A.ws A.yng (thingW k j)).length = A.ws.length := lay_length (by rw [thingW_length (by omega)]; omega)
          refine ⟨rfl, ⟨?_, HB.out, hok⟩, HK0.out.trans (HK.out.mono fun _ _ h => .inr h)⟩
          have := HPR.out
          dsimp only
          rw [hl]; exact this
    · have HE := Lib.hid (Ar.make_no (A := A) (k := k) (f := n) (fun h => hroom h.2))
      have HT := Lib.hid (show A.takeY (1 + (n : Int)) = (-1, A) from if_neg (fun h => hroom h.2))
      clear hfit hs hroom
      go_enter Try.func79, Try.ntmps79
      go_wp2_with fail
      refine (Head_c k n _ HF.out.1 HF.out.2).mono ?_
      rintro e w1 ⟨rfl, rfl⟩
      rw [HH.out]
      go_wp2_with fail
      refine (takeY_c (1 + (n : Int)) _ H.out (by omega) (by omega)).mono ?_
      rintro e w2 ⟨rfl, hto⟩
      rw [HT.out] at hto ⊢
      dsimp only at hto ⊢
      go_wp2_with fail
      go_ret
      rw [HE.out]
      exact ⟨rfl, hto⟩

set_option maxHeartbeats 1000000 in
set_option maxRecDepth 100000 in
theorem Make_c (k f : Int) (w : World) (h : ArenaAt w p g A) (hf : R64 f) :
    Calls Try.prog 16 #[.pointer (some ⟨p, 0, none⟩), .int .i64 k, .int .i64 f] w fun e w' => e = .returned (.int .i64 (A.make k f).1) ∧ ArenaTo w p g w' (A.make k f).2 := by
  go_enter Try.func16, Try.ntmps16
  go_wp2_with fail
  refine (make_c k f _ h hf).mono ?_
  rintro e w1 ⟨rfl, hto⟩
  go_wp2_with fail
  go_ret
  exact ⟨rfl, hto⟩
end

end Go.Proofs.Ytjifdalflepcoab
