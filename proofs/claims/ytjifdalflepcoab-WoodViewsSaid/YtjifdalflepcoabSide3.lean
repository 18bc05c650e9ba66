/-
  side.Pop, side.At, side.Copy.
-/
import Derived.Test.YtjifdalflepcoabSide2
namespace Go.Proofs.Ytjifdalflepcoab
open Go.RowKit
set_option linter.unusedVariables false
set_option linter.unusedSimpArgs false

set_option maxHeartbeats 1000000 in
set_option maxRecDepth 100000 in
theorem Pop_none (p : Nat) (rv wv : Value) (regs wait : List (Int × Int)) (x : Int) (w : World) (h : SideAt w p rv wv regs wait) (h2 : wait.length ≤ 1000000) (hf : ¬ findG x wait < wait.length) :
    Calls Try.prog 136 #[.pointer (some ⟨p, 0, none⟩), .int .i64 x] w fun e w' => e = .returned (.tuple #[.int .i64 0, .bool false]) ∧ Keeps (fun _ => False) w w' := by
  obtain ⟨wo, wc, rfl, hrd, _, _⟩ := h.hw.rd
  have hka := (Keeps.refl (fun _ => False) w).alloc (.cells #[.int .i64 x] 2)
  have H := Lib.hid (h.keep hka (fun _ _ h => h))
  have c1 := H.out.hp.cell 1
  simp only [List.getElem?_cons_zero, List.getElem?_cons_succ] at c1
  have HR := Lib.hid (hrd.keep hka (fun _ _ _ h => h))
  have HE := Lib.hid (show idxG x wait = -1 by unfold idxG; rw [if_neg hf])
  have hbx : (w.alloc (.cells #[.int .i64 x] 2)).cell? ⟨w.heap.size, 0, none⟩ = some (.int .i64 x) := by simp
  have HBX := Lib.hid hbx
  clear h hrd hka hf hbx
  go_enter Try.func136, Try.ntmps136
  go_wp2_with fail
  refine (IndexFunc_c wo wc w.heap.size x wait _ HR.out HBX.out (by omega) (by simp)).mono ?_
  rintro e w1 ⟨rfl, hk⟩
  rw [HE.out]
  go_wp2_with fail
  go_ret2
  exact ⟨rfl, ((Keeps.refl _ _).alloc _).trans hk⟩

theorem Sl.some {w : World} {e size : Nat} {v : Value} {n : Nat} {xs : List Value} (h : Sl w e size v n xs) (hn : 0 < n) :
    ∃ g o cap cur, v = .slice (some ⟨g, o, none⟩) n cap ∧ Blk w g cur e ∧ n ≤ cap ∧ cap ≤ maxLen ∧ o + cap * size ≤ cur.length ∧ (cur.drop o).take (n * size) = xs := by
  rcases h.2 with ⟨_, h0⟩ | h
  · omega
  · exact h

set_option maxHeartbeats 2000000 in
set_option maxRecDepth 100000 in
theorem Pop_some (p : Nat) (rv wv : Value) (regs wait : List (Int × Int)) (x : Int) (i m : Nat) (w : World) (h : SideAt w p rv wv regs wait) (h2 : wait.length ≤ 1000000) (hf : findG x wait = i) (hm : wait.length = i + 1 + m) :
    Calls Try.prog 136 #[.pointer (some ⟨p, 0, none⟩), .int .i64 x] w fun e w' => e = .returned (.tuple #[.int .i64 (wait.getD i (0, 0)).2, .bool true]) ∧ SideTo w p rv wv w' regs (wait.eraseIdx i) := by
  have HW := Lib.hid h
  have hka := (Keeps.refl (fun _ => False) w).alloc (.cells #[.int .i64 x] 2)
  have h1 := h.keep hka (fun _ _ h => h)
  obtain ⟨g, o, cap, cur, rfl, hb, hnc, hcm, hoc, hx⟩ := h1.hw.some (by omega)
  obtain ⟨_, _, e, hrd, _, _⟩ := h1.hw.rd
  cases e
  have H := Lib.hid h1
  have c1 := H.out.hp.cell 1
  simp only [List.getElem?_cons_zero, List.getElem?_cons_succ] at c1
  have HR := Lib.hid hrd
  have HE := Lib.hid (show idxG x wait = (i : Int) by unfold idxG; rw [hf, if_pos (by omega)])
  have hbx : (w.alloc (.cells #[.int .i64 x] 2)).cell? ⟨w.heap.size, 0, none⟩ = some (.int .i64 x) := by simp
  have HBX := Lib.hid hbx
  have HM := Lib.hid hm
  have hcm' : cap ≤ 9223372036854775807 := by simpa [maxLen] using hcm
  have HX := Lib.hid hx; have HB := Lib.hid hb
  have hlo : i + 1 + m ≤ wait.length := by omega
  have h2' : i + 1 + m ≤ 1000000 := by omega
  have hlt : i < wait.length := by omega
  clear h hrd hf hbx hm h1 hka hx hb hcm
  go_enter Try.func136, Try.ntmps136
  go_wp2_with fail
  refine (IndexFunc_c (some ⟨g, o, none⟩) cap w.heap.size x wait _ HR.out HBX.out (by omega) (by simp)).mono ?_
  rintro e w1 ⟨rfl, hk⟩
  rw [HE.out]
  have HK1 := Lib.hid (((Keeps.refl (SideFp p rv (.slice (some ⟨g, o, none⟩) wait.length cap)) w).alloc (.cells #[.int .i64 x] 2)).trans (hk.mono fun _ _ h => h.elim))
  have H1 := Lib.hid (H.out.keep hk (fun _ _ h => h))
  have HB1 := Lib.hid (hk.blk HB.out (fun h => h))
  obtain ⟨g', o', e', _, d0, d1⟩ := ((HR.out.keep hk (fun _ _ _ h => h))).ent i (by omega)
  cases e'
  clear hk c1
  have c1 := H1.out.hp.cell 1
  simp only [List.getElem?_cons_zero, List.getElem?_cons_succ] at c1
  have ht : (i : Int) < ((wait.length : Nat) : Int) := by omega
  generalize hv : wait.getD i (0, 0) = v at *
  have HV := Lib.hid hv; clear hv
  go_wp2_with fail
  rw [HM.out]
  refine (Delete_c g o cap i m wait cur _ HB1.out HM.out (by omega) hcm' hoc HX.out).mono ?_
  rintro e w2 ⟨rfl, hs2, hk2⟩
  have hpg : p ≠ g := fun e => by subst e; exact (HB1.out.ne H1.out.hp (by decide)) rfl
  have HP2 := Lib.hid (hk2.blk H1.out.hp hpg)
  have HR2 := Lib.hid (H1.out.hr.keep hk2 (by rintro b hb rfl; exact H1.out.ap b ⟨hb, rfl⟩))
  have HK2 : Hid (Keeps (SideFp p rv (.slice (some ⟨g, o, none⟩) wait.length cap)) w w2) := HK1.out.trans (hk2.mono (by rintro k _ rfl; exact .inr (.inr rfl)))
  have HS2 := Lib.hid hs2
  have e1 := HP2.out.cell 1
  have f1 := HP2.out.free 1
  simp only [List.getElem?_cons_zero, List.getElem?_cons_succ] at e1
  clear hs2 hk2 c1 d0 d1
  go_wp2_with fail
  go_ret2
  have hlen : (wait.eraseIdx i).length = i + m := by rw [List.length_eraseIdx_of_lt hlt, HM.out]; omega
  refine ⟨by rw [HV.out]; rfl, rv, .slice (some ⟨g, o, none⟩) (i + m) cap, ⟨by simpa using HP2.out.setSame 1 _, HR2.out.keep ((Keeps.refl (· = p) w2).setCell (p := ⟨p, 1, none⟩) (.inl rfl) _) ?_, ?_, ?_⟩, HK2.out.setCell (p := ⟨p, 1, none⟩) (.inl (.inl rfl)) _, ?_⟩
  · rintro b hb rfl
    exact HW.out.pr hb
  · rw [hlen]
    exact HS2.out.keep ((Keeps.refl (· = p) w2).setCell (p := ⟨p, 1, none⟩) (.inl rfl) _) (by rintro b hb rfl; simp [ownB, Value.ownBlock] at hb; exact hpg hb.symm)
  · rintro k ⟨a1, a2⟩
    exact HW.out.ap k ⟨a1, a2⟩
  · rintro k (a | a | a)
    · exact .inl (.inl a)
    · exact .inl (.inr (.inl a))
    · exact .inl (.inr (.inr a))

theorem info_int64 : (Try.prog.info? 2).map (fun i => (i.zero, i.size, i.bytes)) = some (some (.int .i64 0), 1, 8) := by kernel_rfl

/-- What waits at a guardian. -/
def atG (x : Int) (l : List (Int × Int)) : List Int := (l.filter fun e => e.1 == x).map (·.2)

theorem atG_step {x : Int} {l : List (Int × Int)} {k : Nat} (h : k < l.length) : atG x (l.take (k + 1)) = atG x (l.take k) ++ if ((l.getD k (0, 0)).1 == x) = true then [(l.getD k (0, 0)).2] else [] := by
  unfold atG
  rw [List.take_succ_eq_append_getElem h, List.filter_append, List.map_append]
  congr 1
  have hg : l.getD k (0, 0) = l[k] := by simp [List.getD, h]
  rw [hg]
  cases hc : (l[k].1 == x) <;> simp [hc]

theorem atG_le (x : Int) (l : List (Int × Int)) : (atG x l).length ≤ l.length := by
  unfold atG; rw [List.length_map]; exact List.length_filter_le _ _

/-- A new slice of numbers is returned; nothing that was there has turned. -/
def LongsRet (w : World) (e : Ending) (w' : World) (l : List Int) : Prop :=
  ∃ ao cap, e = .returned (.slice ao l.length cap) ∧ Sl w' 2 1 (.slice ao l.length cap) l.length (l.map (Value.int .i64)) ∧ Keeps (fun _ => False) w w' ∧ ∀ k, ownB (.slice ao l.length cap) k → w.heap.size ≤ k

set_option maxHeartbeats 2000000 in
set_option maxRecDepth 100000 in
theorem At_c (p : Nat) (rv wv : Value) (regs wait : List (Int × Int)) (x : Int) (w : World) (h : SideAt w p rv wv regs wait) (h2 : wait.length ≤ 1000000) :
    Calls Try.prog 155 #[.pointer (some ⟨p, 0, none⟩), .int .i64 x] w fun e w' => LongsRet w e w' (atG x wait) := by
  obtain ⟨i0, hi, hz0, hz1, hz2⟩ := info_parts info_int64
  have Hi := Lib.hid hi; have Hz0 := Lib.hid hz0; have Hz1 := Lib.hid hz1; have Hz2 := Lib.hid hz2; clear hi hz0 hz1 hz2
  obtain ⟨wo, wc, rfl, hrd, _, _⟩ := h.hw.rd
  have c1 := h.hp.cell 1
  simp only [List.getElem?_cons_zero, List.getElem?_cons_succ] at c1
  have H := Lib.hid h; have HR := Lib.hid hrd
  clear h hrd
  go_enter Try.func155, Try.ntmps155
  go_wp2_with fail
  go_loopw [5, 13] (fun v i wr => ∃ k : Nat, k ≤ wait.length ∧ i = .int .i64 k ∧ Sl wr 2 1 v (atG x (wait.take k)).length ((atG x (wait.take k)).map (Value.int .i64)) ∧ Keeps (fun _ => False) w wr ∧ ∀ k, ownB v k → w.heap.size ≤ k) (fun _ i _ => wait.length - (intOf i).toNat)
  case atStart => exact ⟨0, Nat.zero_le _, rfl, by simpa [atG] using Sl.nil w 2 1, Keeps.refl _ _, by intro k hk; simp [ownB, Value.ownBlock] at hk⟩
  case round =>
    obtain ⟨k, hk, rfl, hs, hkk, how⟩ := hrel
    have HK := Lib.hid hkk; have HS := Lib.hid hs; have HO := Lib.hid how; clear hkk hs how
    have hal : (atG x (wait.take k)).length ≤ k := Nat.le_trans (atG_le _ _) (List.length_take_le _ _)
    by_cases hlt : k < wait.length
    · obtain ⟨g, o, rfl, _, d0, d1⟩ := ((HR.out.keep HK.out (fun _ _ _ h => h))).ent k hlt
      have HST := Lib.hid (atG_step (x := x) hlt)
      generalize wait.getD k (0, 0) = v at *
      cases hv : (v.1 == x)
      · go_wp2_with fail
        go_roundw
        case rel => exact ⟨k + 1, by omega, by go_num, by rw [HST.out, hv]; simpa using HS.out.keep ((Keeps.refl (fun _ => False) wr).alloc _) (fun _ _ h => h), HK.out.alloc _, HO.out⟩
        case measure => simp [intOf]; omega
      · go_wp2_with (at_builtin; refine wpList_app rfl (.tmp 21) (.tmp 24) 22 rfl 2 i0 (.int .i64 0) 1 8 Try.underlying22 Hi.out Hz0.out Hz1.out Hz2.out rfl (by decide) _ (atG x (wait.take k)).length ((atG x (wait.take k)).map (Value.int .i64)) rfl ?ha ⟨wr.heap.size + 1, 0, none⟩ 1 1 [.int .i64 v.2] rfl rfl ?hb ?hc ?hd ?he ?hf)
        case ha => exact HS.out.keep (((Keeps.refl (fun _ => False) wr).alloc _).alloc _) (fun _ _ h => h)
        case hb =>
          have := news_at (wr.alloc (Obj.cells #[.int .i64 v.1, .int .i64 v.2] 170)) 2 #[.int .i64 v.2]
          simpa using this
        case hc => intro u hu; simp at hu; subst hu; rfl
        case hd => unfold maxLen; omega
        case he => omega
        case hf =>
          intro v2 w2 hs2 hk2 ho2
          have HK2 := Lib.hid (((HK.out.alloc (Obj.cells #[.int .i64 v.1, .int .i64 v.2] 170)).alloc (Obj.cells #[.int .i64 v.2] 2)).then hk2 (fun j hj => .inr (HO.out j hj)))
          have HO2 : Hid (∀ j, ownB v2 j → w.heap.size ≤ j) := fun j hj => by
            rcases ho2 j hj with h | h
            · exact HO.out j h
            · have := HK.out.size; first | omega | (simp at h; omega)
          have HS2 := Lib.hid hs2
          clear hs2 hk2 ho2
          go_wp2_with fail
          go_roundw
          case rel => exact ⟨k + 1, by omega, by go_num, by rw [HST.out, if_pos hv]; simpa using HS2.out, HK2.out, HO2.out⟩
          case measure => simp [intOf]; omega
    · obtain rfl : k = wait.length := by omega
      go_wp2_with fail
      go_ret
      have hs := HS.out
      rw [List.take_length] at hs
      obtain ⟨ao, cap, rfl, _, _, _⟩ := hs.rd
      exact ⟨ao, cap, rfl, hs, HK.out, HO.out⟩

/-- A slice of entries is returned, in memory of its own; nothing that was there has turned. -/
def EntsRet (w : World) (e : Ending) (w' : World) (l : List (Int × Int)) : Prop :=
  ∃ ao cap, e = .returned (.slice ao l.length cap) ∧ Sl w' 170 2 (.slice ao l.length cap) l.length (entV l) ∧ Keeps (fun _ => False) w w' ∧ ∀ k, ownB (.slice ao l.length cap) k → w.heap.size ≤ k

set_option maxHeartbeats 2000000 in
set_option maxRecDepth 100000 in
theorem Clone_c (v : Value) (l : List (Int × Int)) (w : World) (h : Sl w 170 2 v l.length (entV l)) (hl : l.length ≤ 1000000) :
    Calls Try.prog 161 #[v] w fun e w' => EntsRet w e w' l := by
  obtain ⟨i0, hi, hz0, hz1, hz2⟩ := info_parts info_entry
  have Hi := Lib.hid hi; have Hz0 := Lib.hid hz0; have Hz1 := Lib.hid hz1; have Hz2 := Lib.hid hz2; clear hi hz0 hz1 hz2
  have hxl := h.1
  rcases h.2 with ⟨rfl, hn⟩ | ⟨g, o, cap, cur, rfl, hb, hnc, hcm, hoc, hx⟩
  · have hl0 : l = [] := List.eq_nil_of_length_eq_zero hn
    subst hl0
    have hne := fun (wx : World) => Lib.run_eql_slice_nil (P := Try.prog) wx 127 170 none 0 0 0 0 Try.underlying127
    go_enter Try.func161, Try.ntmps161
    go_wp2_with fail
    go_ret
    exact ⟨none, 0, rfl, Sl.nil _ _ _, Keeps.refl _ _, by intro k hk; simp [ownB, Value.ownBlock] at hk⟩
  · have hne := fun (wx : World) => Lib.run_eql_slice_nil (P := Try.prog) wx 127 170 (some ⟨g, o, none⟩) l.length cap 0 0 Try.underlying127
    have HX := Lib.hid hx; have HB := Lib.hid hb
    clear hx hb h hxl
    go_enter Try.func161, Try.ntmps161
    go_wp2_with (at_builtin; refine wpList_app rfl (.tmp 5) (.tmp 6) 127 rfl 170 i0 (.agg #[.int .i64 0, .int .i64 0]) 2 16 Try.underlying127 Hi.out Hz0.out Hz1.out Hz2.out rfl (by decide) _ 0 [] rfl ?ha ⟨g, o, none⟩ l.length cap (entV l) rfl ?hl ?hb ?hc ?hd ?he ?hf)
    case ha => exact ⟨rfl, .inr ⟨w.heap.size, 0, 0, [], rfl, Blk.newAt _ rfl rfl, Nat.le_refl _, Nat.zero_le _, by simp, by simp⟩⟩
    case hl => exact entV_length l
    case hb =>
      intro j u hu
      have hj := (List.getElem?_eq_some_iff.1 hu).1
      rw [entV_length] at hj
      rw [addr_add, (HB.out.alloc _).cell, ← hu, ← HX.out, List.getElem?_take, if_pos hj, List.getElem?_drop]
    case hc => intro u hu; exact one_entV hu
    case hd => unfold maxLen; omega
    case he => omega
    case hf =>
      intro v2 w2 hs2 hk2 ho2
      go_wp2_with fail
      go_ret
      obtain ⟨ao, c2, rfl, _, _, _⟩ := hs2.rd
      refine ⟨ao, c2, rfl, hs2, ((Keeps.refl (fun _ => False) w).alloc _).then hk2 (fun j hj => by simp [ownB, Value.ownBlock] at hj; exact .inr (by omega)), fun j hj => ?_⟩
      rcases ho2 j hj with h | h
      · simp [ownB, Value.ownBlock] at h; omega
      · first | omega | (simp at h; omega)

/-- A new Side is returned; nothing that was there has turned. -/
def SideRet (w : World) (e : Ending) (w' : World) (regs wait : List (Int × Int)) : Prop :=
  ∃ p' rv' wv', e = .returned (.pointer (some ⟨p', 0, none⟩)) ∧ SideAt w' p' rv' wv' regs wait ∧ Keeps (fun _ => False) w w' ∧ ∀ k, SideFp p' rv' wv' k → w.heap.size ≤ k

set_option maxHeartbeats 2000000 in
set_option maxRecDepth 100000 in
theorem Copy_c (p : Nat) (rv wv : Value) (regs wait : List (Int × Int)) (w : World) (h : SideAt w p rv wv regs wait) (h1 : regs.length ≤ 1000000) (h2 : wait.length ≤ 1000000) :
    Calls Try.prog 138 #[.pointer (some ⟨p, 0, none⟩)] w fun e w' => SideRet w e w' regs wait := by
  obtain ⟨ro, rc, rfl, _, _, _⟩ := h.hr.rd
  obtain ⟨wo, wc, rfl, _, _, _⟩ := h.hw.rd
  have c0 := h.hp.cell 0
  have c1 := h.hp.cell 1
  simp only [List.getElem?_cons_zero, List.getElem?_cons_succ] at c0 c1
  have H := Lib.hid h; clear h
  go_enter Try.func138, Try.ntmps138
  go_wp2_with fail
  refine wp_region_ord [(0, 0), (1, 0), (2, 0), (5, 0), (6, 0), (7, 0), (3, 0), (8, 0), (4, 1), (9, 1), (10, 0), (11, 1), (12, 0)] (fun w' => w'.cell? ⟨p, 0, none⟩ = some (.slice ro regs.length rc) ∧ w'.cell? ⟨p, 1, none⟩ = some (.slice wo wait.length wc)) (by kernel_rfl) (by kernel_rfl) ⟨c0, c1⟩ ?_
  iterate 8 (refine wpOrd_pure rfl rfl _ (fun w' hG => by obtain ⟨g0, g1⟩ := hG; go_simp; exact Gives.mk _ _) (fun K hK => ?_); go_simp; refine hK _ ?_; clear hK K)
  refine wpOrd_run rfl rfl (fun K hK => ?_); unfold gRun; go_simp
  refine (Clone_c _ regs _ (H.out.hr.keep ((Keeps.refl (fun _ => False) w).drew) (fun _ _ h => h)) h1).mono ?_
  rintro e w1 ⟨ao, ac, rfl, hs, hk, ho⟩
  have HK1 := Lib.hid (((Keeps.refl (fun _ => False) w).drew).trans hk)
  have H1 := Lib.hid (H.out.keep HK1.out (fun _ _ h => h))
  have HS := Lib.hid hs
  have HO := Lib.hid ho
  have HSL : Hid (∀ k, ownB (.slice ao regs.length ac) k → k < w1.heap.size) := fun k hk => (HS.out.own hk).1
  clear hs hk ho
  refine hK _ _ ⟨H1.out.hp.cell 0, H1.out.hp.cell 1⟩ ?_
  clear hK K
  refine wpOrd_run rfl rfl (fun K hK => ?_); unfold gRun; go_simp
  refine (Clone_c _ wait _ H1.out.hw h2).mono ?_
  rintro e w2 ⟨bo, bc, rfl, hs, hk, ho⟩
  have HK2 := Lib.hid (HK1.out.trans hk)
  have H2 := Lib.hid (H1.out.keep hk (fun _ _ h => h))
  have HS1 := Lib.hid (HS.out.keep hk (fun _ _ h => h))
  have HS2 := Lib.hid hs
  have HO2 := Lib.hid ho
  have hsz := HK1.out.size
  clear hs hk ho HS
  refine hK _ _ ⟨H2.out.hp.cell 0, H2.out.hp.cell 1⟩ ?_
  clear hK K
  iterate 1 (refine wpOrd_pure rfl rfl _ (fun w' hG => by obtain ⟨g0, g1⟩ := hG; go_simp; exact Gives.mk _ _) (fun K hK => ?_); go_simp; refine hK _ ?_; clear hK K)
  refine wpOrd_run rfl rfl (fun K hK => ?_); unfold gRun; go_simp
  refine hK _ _ ?_ ?_
  · have := H2.out.hp.alloc (Obj.cells #[Value.slice ao regs.length ac, Value.slice bo wait.length bc] 129)
    exact ⟨this.cell 0, this.cell 1⟩
  clear hK K
  iterate 1 (refine wpOrd_pure rfl rfl _ (fun w' hG => by obtain ⟨g0, g1⟩ := hG; go_simp; exact Gives.mk _ _) (fun K hK => ?_); go_simp; refine hK _ ?_; clear hK K)
  refine wpOrd_end ?_
  go_wp2_with fail
  go_ret
  refine ⟨w2.heap.size, .slice ao regs.length ac, .slice bo wait.length bc, rfl, ⟨.newAt _ rfl rfl, HS1.out.keep ((Keeps.refl (fun _ => False) w2).alloc _) (fun _ _ h => h), HS2.out.keep ((Keeps.refl (fun _ => False) w2).alloc _) (fun _ _ h => h), ?_⟩, HK2.out.alloc _, ?_⟩
  · rintro k ⟨a1, a2⟩
    have := HO2.out k a2
    have := HSL.out k a1
    omega
  · rintro k (a | a | a)
    · subst a; exact HK2.out.size
    · exact HO.out k a
    · exact Nat.le_trans hsz (HO2.out k a)

end Go.Proofs.Ytjifdalflepcoab
