/-
  The reference's Settled (ref.go), walked.
-/
import Derived.Test.YtjifdalflepcoaaSettledM
import Derived.Laws.EntriesVeiled
namespace Go.Proofs.Ytjifdalflepcoaa
open Go.RowKit
set_option linter.unusedVariables false
set_option linter.unusedSimpArgs false

theorem info_bool' : (Try.prog.info? 4).map (fun i => (i.zero, i.size, i.bytes)) = some (some (.bool false), 1, 1) := by kernel_rfl
theorem info_rentry : (Try.prog.info? 41).map (fun i => (i.zero, i.size, i.bytes)) = some (some (.agg #[.int .i64 0, .int .i64 0]), 2, 16) := by kernel_rfl

/-- Settled's outcome. -/
def RSettled (w : World) (av0 : Value) (leads regs wait : List (Int × Int)) (alive : List Int) (e : Ending) (w' : World) : Prop :=
  ∃ rv wv av, e = .returned (.tuple #[rv, wv, av]) ∧ Sl w' 41 2 rv (settledM leads regs wait alive).1.length (entV (settledM leads regs wait alive).1) ∧ Sl w' 41 2 wv (settledM leads regs wait alive).2.length (entV (settledM leads regs wait alive).2) ∧
    Keeps (ownB av0) w w' ∧ (∀ k, ownB rv k → w.heap.size ≤ k) ∧ (∀ k, ownB wv k → w.heap.size ≤ k) ∧ ∀ k, ¬ (ownB rv k ∧ ownB wv k)

set_option maxHeartbeats 8000000 in
set_option maxRecDepth 100000 in
theorem Settled_c (ro wo lo : Option Addr) (rc wc lc : Nat) (av0 : Value) (regs wait leads : List (Int × Int)) (alive : List Int) (w : World)
    (h0 : Rd w ro (entV regs)) (h1 : Rd w wo (entV wait)) (hs : Sl w 2 1 av0 alive.length (alive.map (Value.int .i64))) (h3 : Rd w lo (pairV leads))
    (n0 : ∀ a, ro = some a → a.block < w.heap.size → ¬ ownB av0 a.block) (n1 : ∀ a, wo = some a → a.block < w.heap.size → ¬ ownB av0 a.block) (n3 : ∀ a, lo = some a → a.block < w.heap.size ∧ ¬ ownB av0 a.block)
    (l0 : regs.length ≤ 60) (l1 : wait.length ≤ 60) (l2 : alive.length ≤ 100) (l3 : leads.length ≤ 100) :
    Calls Try.prog 27 #[.slice ro regs.length rc, .slice wo wait.length wc, av0, .slice lo leads.length lc] w fun e w' => RSettled w av0 leads regs wait alive e w' := by
  obtain ⟨ib, hi, hz0, hz1, hz2⟩ := info_parts info_bool'
  have hmk := fun (wx : World) (n : Nat) (h1 : n ≤ 9223372036854775807) (h2 : n ≤ 281474976710656) => run_make_one (P := Try.prog) wx 100 4 ib (.bool false) Try.underlying100 hi hz0 rfl hz1 n (by rw [hz2]; omega) h1
  have HMK := Lib.hid hmk; clear hmk hi hz0 hz1 hz2
  obtain ⟨ie, hie, hez0, hez1, hez2⟩ := info_parts info_rentry
  have Hi := Lib.hid hie; have Hz0 := Lib.hid hez0; have Hz1 := Lib.hid hez1; have Hz2 := Lib.hid hez2; clear hie hez0 hez1 hez2
  have H0 := Lib.hid h0; have H1 := Lib.hid h1; have HS := Lib.hid hs; have H3 := Lib.hid h3; have N0 := Lib.hid n0; have N1 := Lib.hid n1; have N3 := Lib.hid n3
  clear h0 h1 h3 n0 n1 n3
  obtain ⟨ao, ac, rfl, -, -, -⟩ := hs.rd
  clear hs
  have m0 := HMK.out
  have m1 : ∀ wx, (Instr.makeSlice 100 (.int .i64 regs.length) (.int .i64 regs.length)).run Try.prog wx = .ok (.slice (some ⟨wx.heap.size, 0, none⟩) regs.length regs.length) (wx.alloc (.cells (List.replicate regs.length (.bool false)).toArray 4)) := fun wx => m0 wx _ (by omega) (by omega)
  clear m0
  have ea := RisA; have eb := RkeepA
  go_enter Try.func27, Try.ntmps27
  go_wp2_with fail
  have b0 := Blk.newAt (w := w) (b := w.heap.size) (T := 32) #[.slice ao alive.length ac] rfl rfl
  generalize hw5 : ((((w.alloc (.cells #[.slice ao alive.length ac] 32)).alloc (.cells #[.slice lo leads.length lc] 33)).alloc (.cells #[.func (.func 72) #[] #[.pointer (some ⟨w.heap.size, 0, none⟩)]] 46)).alloc (.cells (Array.replicate regs.length (.bool false)) 4)).alloc (.cells (Array.replicate regs.length (.bool false)) 4) = w5
  have k5 : Keeps (fun _ => False) w w5 := by rw [← hw5]; exact (((((Keeps.refl _ _).alloc _).alloc _).alloc _).alloc _).alloc _
  have c0 : Blk w5 w.heap.size [.slice ao alive.length ac] 32 := by rw [← hw5]; exact (((b0.alloc _).alloc _).alloc _).alloc _
  have c1 : Blk w5 (w.heap.size + 1) [.slice lo leads.length lc] 33 := by rw [← hw5]; exact (((Blk.newAt _ (by simp) rfl).alloc _).alloc _).alloc _
  have c2 : Blk w5 (w.heap.size + 1 + 1) [.func (.func 72) #[] #[.pointer (some ⟨w.heap.size, 0, none⟩)]] 46 := by rw [← hw5]; exact ((Blk.newAt _ (by simp) rfl).alloc _).alloc _
  have c3 : Blk w5 (w.heap.size + 1 + 1 + 1) (deadL liveR alive regs 0) 4 := by rw [← hw5]; exact (Blk.newAt _ (by simp) (by simp [deadL])).alloc _
  have c4 : Blk w5 (w.heap.size + 1 + 1 + 1 + 1) (List.replicate regs.length (.bool false)) 4 := by rw [← hw5]; exact Blk.newAt _ (by simp) (by simp)
  have hra : RAt w5 w.heap.size (w.heap.size + 1) (w.heap.size + 1 + 1) (.slice ao alive.length ac) lo lc alive leads :=
    ⟨c0, HS.out.keep k5 (fun _ _ h => h), c1, c2, H3.out.keep k5 (fun _ _ _ h => h), fun a ha => ⟨by have := (N3.out a ha).1; omega, (N3.out a ha).2⟩⟩
  have HR5 := Lib.hid hra; have C3 := Lib.hid c3; have C4 := Lib.hid c4; have K5 := Lib.hid k5
  have HAV : Hid (∀ k, ownB (.slice ao alive.length ac) k → k < w.heap.size) := fun k hk => (HS.out.own hk).1
  clear hw5 k5 b0 c0 c1 c2 c3 c4 hra
  obtain ⟨A, hA⟩ : ∃ A, A = w.heap.size := ⟨_, rfl⟩
  rw [← hA] at HR5 C3 C4 ⊢
  have HA := Lib.hid hA
  clear hA
  go_loopw [15] (fun i wr => ∃ k : Nat, k ≤ regs.length ∧ i = .int .i64 k ∧ Blk wr (A + 1 + 1 + 1) (deadL liveR alive regs k) 4 ∧ Keeps (· = A + 1 + 1 + 1) w5 wr) (fun i _ => regs.length - (intOf i).toNat)
  case atStart => exact ⟨0, Nat.zero_le _, rfl, C3.out, Keeps.refl _ _⟩
  case round =>
    obtain ⟨k, hk, rfl, hbl, hkr⟩ := hrel
    have GB := Lib.hid hbl; have GK := Lib.hid hkr
    have hra : RAt wr A (A + 1) (A + 1 + 1) (.slice ao alive.length ac) lo lc alive leads := HR5.out.keep hkr (by
      rintro b (rfl | rfl | rfl | hb | ⟨a, ha, rfl⟩) _ h
      · omega
      · omega
      · omega
      · have := HAV.out b hb; have := HA.out; omega
      · have := (N3.out a ha).1; have := HA.out; omega)
    have hkw : Keeps (ownB (.slice ao alive.length ac)) w wr := (K5.out.mono fun _ _ h => h.elim).then hkr (fun b hb => .inr (by rw [hb]; have := HA.out; omega))
    have GR := Lib.hid hra; have GW := Lib.hid hkw
    clear hbl hkr hra hkw
    by_cases hlt : k < regs.length
    · have hrd := H0.out.keep GW.out N0.out
      obtain ⟨g, o, rfl, hgl, d0, d1⟩ := hrd.ent k hlt
      have HDS := Lib.hid (deadL_set (alive := liveR) (t := alive) hlt)
      generalize regs.getD k (0, 0) = v at *
      have i0 := GR.out.hI.cell 0
      simp only [List.getElem?_cons_zero] at i0
      clear hrd
      go_wp2_with fail
      refine wp_region_ro (.free 0 (.free 1 (.free 3 (.free 4 (.free 5 (.free 6 (.pure 2 (.pure 7 (.run 8 (.swi [11] (.free 9 (.free 10 (.run 11 (.swi [] (.fin))))))))))))))) [8, 9, 10, 11] (fun w' => w'.cell? ⟨A + 1 + 1, 0, none⟩ = some (.func (.func 72) #[] #[.pointer (some ⟨A, 0, none⟩)]) ∧ w'.cell? ⟨g, o + k * 2 + 1, none⟩ = some (.int .i64 v.2)) (by kernel_rfl) (by kernel_rfl) ⟨i0, d1⟩ ?_
      first | (refine wpRO_free rfl rfl _ (fun w' => by go_simp; exact Gives.mk _ _) (fun K hK => ?_); go_simp; refine hK _ ?_; clear hK K) | (refine wpRO_skipF rfl rfl (fun K hK => ?_); go_simp; refine hK _ ?_; clear hK K)
      first | (refine wpRO_free rfl rfl _ (fun w' => by go_simp; exact Gives.mk _ _) (fun K hK => ?_); go_simp; refine hK _ ?_; clear hK K) | (refine wpRO_skipF rfl rfl (fun K hK => ?_); go_simp; refine hK _ ?_; clear hK K)
      first | (refine wpRO_free rfl rfl _ (fun w' => by go_simp; exact Gives.mk _ _) (fun K hK => ?_); go_simp; refine hK _ ?_; clear hK K) | (refine wpRO_skipF rfl rfl (fun K hK => ?_); go_simp; refine hK _ ?_; clear hK K)
      first | (refine wpRO_free rfl rfl _ (fun w' => by go_simp; exact Gives.mk _ _) (fun K hK => ?_); go_simp; refine hK _ ?_; clear hK K) | (refine wpRO_skipF rfl rfl (fun K hK => ?_); go_simp; refine hK _ ?_; clear hK K)
      first | (refine wpRO_free rfl rfl _ (fun w' => by go_simp; exact Gives.mk _ _) (fun K hK => ?_); go_simp; refine hK _ ?_; clear hK K) | (refine wpRO_skipF rfl rfl (fun K hK => ?_); go_simp; refine hK _ ?_; clear hK K)
      first | (refine wpRO_free rfl rfl _ (fun w' => by go_simp; exact Gives.mk _ _) (fun K hK => ?_); go_simp; refine hK _ ?_; clear hK K) | (refine wpRO_skipF rfl rfl (fun K hK => ?_); go_simp; refine hK _ ?_; clear hK K)
      first | (refine wpRO_pure rfl rfl _ (fun w' hG => by obtain ⟨g0, g1⟩ := hG; exact gives_agg2 rfl (by decide +kernel) rfl (by assumption) (by assumption)) (fun K hK => ?_); go_simp; refine hK _ ?_; clear hK K) | (refine wpRO_pure rfl rfl _ (fun w' hG => by obtain ⟨g0, g1⟩ := hG; go_simp; exact Gives.mk _ _) (fun K hK => ?_); go_simp; refine hK _ ?_; clear hK K) | (refine wpRO_skip rfl rfl (fun K hK => ?_); go_simp; refine hK _ ?_; clear hK K)
      first | (refine wpRO_pure rfl rfl _ (fun w' hG => by obtain ⟨g0, g1⟩ := hG; exact gives_agg2 rfl (by decide +kernel) rfl (by assumption) (by assumption)) (fun K hK => ?_); go_simp; refine hK _ ?_; clear hK K) | (refine wpRO_pure rfl rfl _ (fun w' hG => by obtain ⟨g0, g1⟩ := hG; go_simp; exact Gives.mk _ _) (fun K hK => ?_); go_simp; refine hK _ ?_; clear hK K) | (refine wpRO_skip rfl rfl (fun K hK => ?_); go_simp; refine hK _ ?_; clear hK K)
      refine wpRO_chg rfl rfl rfl (fun K hK => ?_); unfold gRun; go_simp
      refine (Ris_c A _ alive v.2 _ (GR.out.keep ((Keeps.refl (fun _ => False) wr).drew) (fun _ _ _ h => h)).hA (GR.out.keep ((Keeps.refl (fun _ => False) wr).drew) (fun _ _ _ h => h)).hs (by omega)).mono ?_
      rintro e w6 ⟨he, rfl⟩
      obtain ⟨bb, hbb⟩ : ∃ b, b = alive.contains v.2 := ⟨_, rfl⟩
      rw [← hbb] at he
      subst he
      have HBB := Lib.hid hbb
      clear hbb
      refine hK _ _ ?_
      clear hK K
      refine wpRO_swi (fun _ => True) trivial ?_
      obtain ⟨old, q0⟩ : ∃ old, wr.drew.cell? ⟨A + 1 + 1 + 1, k, none⟩ = some old := ⟨_, by rw [(GB.out.drew).cell, List.getElem?_eq_getElem (by rw [deadL_length (Nat.le_of_lt hlt)]; exact hlt)]⟩
      have qf := (GB.out.drew).free k
      have ql := (GB.out.drew).lt
      first | (refine wpRO_free rfl rfl _ (fun w' => by go_simp; exact Gives.mk _ _) (fun K hK => ?_); go_simp; refine hK _ ?_; clear hK K) | (refine wpRO_skipF rfl rfl (fun K hK => ?_); go_simp; refine hK _ ?_; clear hK K)
      first | (refine wpRO_free rfl rfl _ (fun w' => by go_simp; exact Gives.mk _ _) (fun K hK => ?_); go_simp; refine hK _ ?_; clear hK K) | (refine wpRO_skipF rfl rfl (fun K hK => ?_); go_simp; refine hK _ ?_; clear hK K)
      refine wpRO_chg rfl rfl rfl (fun K hK => ?_); unfold gRun; go_simp
      refine hK _ _ ?_
      clear hK K
      refine wpRO_swi (fun _ => True) trivial (wpRO_fin ?_)
      have HNX := Lib.hid (show Blk (wr.setCell ⟨A + 1 + 1 + 1, k, none⟩ (.bool (!bb))).drew (A + 1 + 1 + 1) (deadL liveR alive regs (k + 1)) 4 by rw [HDS.out, HBB.out]; exact ((GB.out).setSame k _).drew)
      have HKX := Lib.hid (((GK.out).setCell (p := ⟨A + 1 + 1 + 1, k, none⟩) (.inl rfl) (.bool (!bb))).drew)
      clear q0 qf ql i0 d0 d1
      go_wp2_with fail
      go_roundw
      case rel => exact ⟨k + 1, by omega, by go_num, HNX.out, HKX.out⟩
      case measure => simp [intOf]; omega
    · obtain rfl : k = regs.length := by omega
      have hm : RMid w wr A (A + 1) (A + 1 + 1) (A + 1 + 1 + 1) (A + 1 + 1 + 1 + 1) (.slice ao alive.length ac) lo lc leads (itemsM liveR alive regs) [] alive (.slice ao alive.length ac) nilS := by
        have hA := HA.out
        refine ⟨GR.out, ?_, ?_, Sl.nil _ _ _, GW.out, by omega, by omega, by omega, by omega, by omega, fun k hk => (own_nil hk).elim, fun k hk => .inl hk, by omega, fun a ha => N3.out a ha⟩
        · rw [← deadL_full]; exact GB.out
        · rw [← itemsM_moved]; exact GK.out.blk C4.out (by omega)
      have hst : RMore w A (A + 1) (A + 1 + 1) (A + 1 + 1 + 1) (A + 1 + 1 + 1 + 1) (.slice ao alive.length ac) lo lc leads alive regs regs.length nilS wr true (itemsM liveR alive regs) :=
        ⟨regs.length + 1, alive, [], _, hm, itemsM_fst _ _ _, by rw [itemsM_un]; simp, by rw [itemsM_un]; omega, fun _ => by rw [itemsM_un]; omega, by rw [if_pos rfl]; rfl⟩
      have HST := Lib.hid hst
      clear hm hst GB GK GR GW C3 C4 K5 HR5 HAV
      generalize A + 1 = Lb at *
      generalize Lb + 1 = Ib at *
      generalize Ib + 1 = D at *
      generalize D + 1 = M at *
      go_wp2_with fail
      go_loopw [16, 17] (fun cv v wx => ∃ more items, v = .bool more ∧ RMore w A Lb Ib D M (.slice ao alive.length ac) lo lc leads alive regs regs.length cv wx more items) (fun cv v wx => 2 * cntF wx M + bit v)
      case atStart => exact ⟨true, _, rfl, HST.out⟩
      case round =>
        clear HST
        obtain ⟨more, items, rfl, n, t', q', av, hm, hf, hN, hT, hun, he⟩ := hrel
        have GM := Lib.hid hm; have GF := Lib.hid hf; have GN := Lib.hid hN; have GT := Lib.hid hT; have GU := Lib.hid hun; have GE := Lib.hid he
        have hcn := cntF_blk hm.hm
        have HCN := Lib.hid hcn
        clear hm hf hN hT hun he hcn
        cases more
        · have he := GE.out
          simp only [Bool.false_eq_true, if_false] at he
          have GE2 := Lib.hid he
          have hil : items.length = regs.length := by rw [← GF.out]; simp
          have HIL := Lib.hid hil
          have htl : t'.length ≤ 70000 := by have := GT.out; omega
          have hql : q'.length ≤ 60 := by have := GN.out; omega
          clear he GE hil
          obtain ⟨cno, cnc, rfl, -, -, -⟩ := GM.out.hc.rd
          go_wp2_with fail
          go_loopw [19, 21] (fun v i wx => ∃ (k : Nat), k ≤ regs.length ∧ i = .int .i64 k ∧ NewR wr wx v (newRegs liveR (fun _ x => x) t' (items.take k))) (fun _ i _ => regs.length - (intOf i).toNat)
          case atStart => exact ⟨0, Nat.zero_le _, rfl, NewR.nil wr⟩
          case round =>
            obtain ⟨k, hk, rfl, hnl⟩ := hrel
            have KNL := Lib.hid hnl
            have hmk := GM.out.keep hnl.2.1
            clear hnl
            by_cases hlt : k < regs.length
            · have hki : k < items.length := by rw [HIL.out]; exact hlt
              have hrd := (H0.out.keep hmk.hK N0.out)
              obtain ⟨g, o, rfl, hgl, d0, d1⟩ := hrd.ent k hlt
              have hgi : regs.getD k (0, 0) = items[k].1 := by
                have : regs[k]? = (items.map (·.1))[k]? := by rw [GF.out]
                simp only [List.getElem?_map, List.getElem?_eq_getElem hki, List.getElem?_eq_getElem hlt, Option.map_some, Option.some.injEq] at this
                simp [List.getD, hlt, this]
              have HGI := Lib.hid hgi
              rw [hgi] at d0 d1
              have hst := newRegs_step (alive := liveR) (now := fun _ x => x) (t := t') hki
              have r1 := hmk.hd.cell k
              have r1l := hmk.hd.lt
              rw [List.getElem?_map, List.getElem?_eq_getElem hki] at r1
              simp only [Option.map_some] at r1
              have hle := newRegs_le (alive := liveR) (now := fun _ x => x) (t := t') (l := items.take k)
              have hle2 : (newRegs liveR (fun _ x => x) t' (items.take k)).length ≤ 60 := by have := List.length_take_le k items; omega
              generalize items[k] = it at *
              obtain ⟨v, dd, mv⟩ := it
              generalize newRegs liveR (fun _ x => x) t' (items.take k) = nl at *
              obtain ⟨no, nc, rfl, -, -, -⟩ := KNL.out.1.rd
              have KST := Lib.hid hst; have KM := Lib.hid hmk
              clear hst hmk hrd hgi hle
              simp only at d0 d1 r1
              cases dd
              · have i0 := KM.out.hr.hI.cell 0
                simp only [List.getElem?_cons_zero] at i0
                go_wp2_with fail
                refine wp_region_ro (.free 0 (.free 1 (.free 2 (.pure 3 (.free 4 (.free 5 (.free 7 (.free 8 (.free 9 (.free 10 (.pure 6 (.pure 11 (.run 12 (.swi [] (.free 13 (.fin)))))))))))))))) [12, 13] (fun w' => w'.cell? ⟨D, k, none⟩ = some (.bool false) ∧ w'.cell? ⟨Ib, 0, none⟩ = some (.func (.func 72) #[] #[.pointer (some ⟨A, 0, none⟩)]) ∧ w'.cell? ⟨g, o + k * 2, none⟩ = some (.int .i64 v.1)) (by kernel_rfl) (by kernel_rfl) ⟨r1, i0, d0⟩ ?_
                first | (refine wpRO_free rfl rfl _ (fun w' => by go_simp; exact Gives.mk _ _) (fun K hK => ?_); go_simp; refine hK _ ?_; clear hK K) | (refine wpRO_skipF rfl rfl (fun K hK => ?_); go_simp; refine hK _ ?_; clear hK K)
                first | (refine wpRO_free rfl rfl _ (fun w' => by go_simp; exact Gives.mk _ _) (fun K hK => ?_); go_simp; refine hK _ ?_; clear hK K) | (refine wpRO_skipF rfl rfl (fun K hK => ?_); go_simp; refine hK _ ?_; clear hK K)
                first | (refine wpRO_free rfl rfl _ (fun w' => by go_simp; exact Gives.mk _ _) (fun K hK => ?_); go_simp; refine hK _ ?_; clear hK K) | (refine wpRO_skipF rfl rfl (fun K hK => ?_); go_simp; refine hK _ ?_; clear hK K)
                first | (refine wpRO_pure rfl rfl _ (fun w' hG => by obtain ⟨g0, g1, g2⟩ := hG; exact gives_agg2 rfl (by decide +kernel) rfl (by assumption) (by assumption)) (fun K hK => ?_); go_simp; refine hK _ ?_; clear hK K) | (refine wpRO_pure rfl rfl _ (fun w' hG => by obtain ⟨g0, g1, g2⟩ := hG; go_simp; exact Gives.mk _ _) (fun K hK => ?_); go_simp; refine hK _ ?_; clear hK K) | (refine wpRO_skip rfl rfl (fun K hK => ?_); go_simp; refine hK _ ?_; clear hK K)
                first | (refine wpRO_free rfl rfl _ (fun w' => by go_simp; exact Gives.mk _ _) (fun K hK => ?_); go_simp; refine hK _ ?_; clear hK K) | (refine wpRO_skipF rfl rfl (fun K hK => ?_); go_simp; refine hK _ ?_; clear hK K)
                first | (refine wpRO_free rfl rfl _ (fun w' => by go_simp; exact Gives.mk _ _) (fun K hK => ?_); go_simp; refine hK _ ?_; clear hK K) | (refine wpRO_skipF rfl rfl (fun K hK => ?_); go_simp; refine hK _ ?_; clear hK K)
                first | (refine wpRO_free rfl rfl _ (fun w' => by go_simp; exact Gives.mk _ _) (fun K hK => ?_); go_simp; refine hK _ ?_; clear hK K) | (refine wpRO_skipF rfl rfl (fun K hK => ?_); go_simp; refine hK _ ?_; clear hK K)
                first | (refine wpRO_free rfl rfl _ (fun w' => by go_simp; exact Gives.mk _ _) (fun K hK => ?_); go_simp; refine hK _ ?_; clear hK K) | (refine wpRO_skipF rfl rfl (fun K hK => ?_); go_simp; refine hK _ ?_; clear hK K)
                first | (refine wpRO_free rfl rfl _ (fun w' => by go_simp; exact Gives.mk _ _) (fun K hK => ?_); go_simp; refine hK _ ?_; clear hK K) | (refine wpRO_skipF rfl rfl (fun K hK => ?_); go_simp; refine hK _ ?_; clear hK K)
                first | (refine wpRO_free rfl rfl _ (fun w' => by go_simp; exact Gives.mk _ _) (fun K hK => ?_); go_simp; refine hK _ ?_; clear hK K) | (refine wpRO_skipF rfl rfl (fun K hK => ?_); go_simp; refine hK _ ?_; clear hK K)
                first | (refine wpRO_pure rfl rfl _ (fun w' hG => by obtain ⟨g0, g1, g2⟩ := hG; exact gives_agg2 rfl (by decide +kernel) rfl (by assumption) (by assumption)) (fun K hK => ?_); go_simp; refine hK _ ?_; clear hK K) | (refine wpRO_pure rfl rfl _ (fun w' hG => by obtain ⟨g0, g1, g2⟩ := hG; go_simp; exact Gives.mk _ _) (fun K hK => ?_); go_simp; refine hK _ ?_; clear hK K) | (refine wpRO_skip rfl rfl (fun K hK => ?_); go_simp; refine hK _ ?_; clear hK K)
                first | (refine wpRO_pure rfl rfl _ (fun w' hG => by obtain ⟨g0, g1, g2⟩ := hG; exact gives_agg2 rfl (by decide +kernel) rfl (by assumption) (by assumption)) (fun K hK => ?_); go_simp; refine hK _ ?_; clear hK K) | (refine wpRO_pure rfl rfl _ (fun w' hG => by obtain ⟨g0, g1, g2⟩ := hG; go_simp; exact Gives.mk _ _) (fun K hK => ?_); go_simp; refine hK _ ?_; clear hK K) | (refine wpRO_skip rfl rfl (fun K hK => ?_); go_simp; refine hK _ ?_; clear hK K)
                refine wpRO_chg rfl rfl rfl (fun K hK => ?_); unfold gRun; go_simp
                refine (Ris_c A av t' v.1 _ (KM.out.keep ((Keeps.refl (fun _ => False) _).drew)).hr.hA (KM.out.keep ((Keeps.refl (fun _ => False) _).drew)).hr.hs (by omega)).mono ?_
                rintro e w6 ⟨rfl, rfl⟩
                refine hK _ _ ?_
                clear hK K
                refine wpRO_swi (fun _ => True) trivial ?_
                cases hc : t'.contains v.1
                · first | (refine wpRO_free rfl rfl _ (fun w' => by go_simp; exact Gives.mk _ _) (fun K hK => ?_); go_simp; refine hK _ ?_; clear hK K) | (refine wpRO_skipF rfl rfl (fun K hK => ?_); go_simp; refine hK _ ?_; clear hK K)
                  refine wpRO_fin ?_
                  go_wp2_with fail
                  go_roundw
                  case rel => exact ⟨k + 1, by omega, by go_num, by rw [KST.out]; simp only [liveR, hc]; simpa using KNL.out.keep ((Keeps.refl _ _).drew)⟩
                  case measure => simp [intOf]; omega
                · first | (refine wpRO_free rfl rfl _ (fun w' => by go_simp; exact Gives.mk _ _) (fun K hK => ?_); go_simp; refine hK _ ?_; clear hK K) | (refine wpRO_skipF rfl rfl (fun K hK => ?_); go_simp; refine hK _ ?_; clear hK K)
                  refine wpRO_fin ?_
                  have hkd := (Keeps.refl (fun _ => False) wr).drew
                  have HST2 := Lib.hid (show newRegs liveR (fun _ x => x) t' (items.take (k + 1)) = nl ++ [v] by rw [KST.out]; simp [liveR, List.contains_iff_mem.1 hc])
                  generalize wr.drew = w7 at *
                  have KM7 := Lib.hid (KM.out.keep hkd); have KNL7 := Lib.hid (KNL.out.keep hkd)
                  clear hkd d0 d1 hgl r1 r1l i0 KST
                  have hrd := (H0.out.keep KM7.out.hK N0.out)
                  obtain ⟨g2, o2, e', hgl, d0, d1⟩ := hrd.ent k hlt
                  cases e'
                  rw [HGI.out] at d0 d1
                  try simp only at d0 d1
                  clear hrd
                  go_wp2_with (at_builtin; refine wpList_app rfl (.tmp 113) (.tmp 118) 38 rfl 41 ie (.agg #[.int .i64 0, .int .i64 0]) 2 16 Try.underlying38 Hi.out Hz0.out Hz1.out Hz2.out rfl (by decide) _ nl.length (entV nl) rfl (KNL7.out.keep ((Keeps.refl (fun _ => False) _).alloc _)).1 ⟨w7.heap.size, 0, none⟩ 1 1 [.int .i64 v.1, .int .i64 v.2] rfl rfl (news_at w7 41 #[.int .i64 v.1, .int .i64 v.2]) ent_one (by unfold maxLen; omega) (by omega) ?_)
                  intro v8 w8 hs8 hk8 ho8
                  have hnx := KNL7.out.app (e := v) ((Keeps.refl (fun _ => False) w7).alloc (.cells #[.int .i64 v.1, .int .i64 v.2] 41)) hs8 hk8 (by simpa using ho8)
                  have HNX := Lib.hid hnx
                  clear hnx hs8 hk8 ho8
                  go_wp2_with fail
                  go_roundw
                  case rel => exact ⟨k + 1, by omega, by go_num, by rw [HST2.out]; exact HNX.out⟩
                  case measure => simp [intOf]; omega
              · go_wp2_with fail
                refine wp_region_ro (.free 0 (.free 1 (.free 2 (.pure 3 (.free 4 (.free 5 (.free 7 (.free 8 (.free 9 (.free 10 (.pure 6 (.pure 11 (.run 12 (.swi [] (.free 13 (.fin)))))))))))))))) [12, 13] (fun w' => w'.cell? ⟨D, k, none⟩ = some (.bool true)) (by kernel_rfl) (by kernel_rfl) r1 ?_
                first | (refine wpRO_free rfl rfl _ (fun w' => by go_simp; exact Gives.mk _ _) (fun K hK => ?_); go_simp; refine hK _ ?_; clear hK K) | (refine wpRO_skipF rfl rfl (fun K hK => ?_); go_simp; refine hK _ ?_; clear hK K)
                first | (refine wpRO_free rfl rfl _ (fun w' => by go_simp; exact Gives.mk _ _) (fun K hK => ?_); go_simp; refine hK _ ?_; clear hK K) | (refine wpRO_skipF rfl rfl (fun K hK => ?_); go_simp; refine hK _ ?_; clear hK K)
                first | (refine wpRO_free rfl rfl _ (fun w' => by go_simp; exact Gives.mk _ _) (fun K hK => ?_); go_simp; refine hK _ ?_; clear hK K) | (refine wpRO_skipF rfl rfl (fun K hK => ?_); go_simp; refine hK _ ?_; clear hK K)
                first | (refine wpRO_pure rfl rfl _ (fun w' hG => by obtain g0 := hG; exact gives_agg2 rfl (by decide +kernel) rfl (by assumption) (by assumption)) (fun K hK => ?_); go_simp; refine hK _ ?_; clear hK K) | (refine wpRO_pure rfl rfl _ (fun w' hG => by obtain g0 := hG; go_simp; exact Gives.mk _ _) (fun K hK => ?_); go_simp; refine hK _ ?_; clear hK K) | (refine wpRO_skip rfl rfl (fun K hK => ?_); go_simp; refine hK _ ?_; clear hK K)
                first | (refine wpRO_free rfl rfl _ (fun w' => by go_simp; exact Gives.mk _ _) (fun K hK => ?_); go_simp; refine hK _ ?_; clear hK K) | (refine wpRO_skipF rfl rfl (fun K hK => ?_); go_simp; refine hK _ ?_; clear hK K)
                first | (refine wpRO_free rfl rfl _ (fun w' => by go_simp; exact Gives.mk _ _) (fun K hK => ?_); go_simp; refine hK _ ?_; clear hK K) | (refine wpRO_skipF rfl rfl (fun K hK => ?_); go_simp; refine hK _ ?_; clear hK K)
                first | (refine wpRO_free rfl rfl _ (fun w' => by go_simp; exact Gives.mk _ _) (fun K hK => ?_); go_simp; refine hK _ ?_; clear hK K) | (refine wpRO_skipF rfl rfl (fun K hK => ?_); go_simp; refine hK _ ?_; clear hK K)
                first | (refine wpRO_free rfl rfl _ (fun w' => by go_simp; exact Gives.mk _ _) (fun K hK => ?_); go_simp; refine hK _ ?_; clear hK K) | (refine wpRO_skipF rfl rfl (fun K hK => ?_); go_simp; refine hK _ ?_; clear hK K)
                first | (refine wpRO_free rfl rfl _ (fun w' => by go_simp; exact Gives.mk _ _) (fun K hK => ?_); go_simp; refine hK _ ?_; clear hK K) | (refine wpRO_skipF rfl rfl (fun K hK => ?_); go_simp; refine hK _ ?_; clear hK K)
                first | (refine wpRO_free rfl rfl _ (fun w' => by go_simp; exact Gives.mk _ _) (fun K hK => ?_); go_simp; refine hK _ ?_; clear hK K) | (refine wpRO_skipF rfl rfl (fun K hK => ?_); go_simp; refine hK _ ?_; clear hK K)
                first | (refine wpRO_pure rfl rfl _ (fun w' hG => by obtain g0 := hG; exact gives_agg2 rfl (by decide +kernel) rfl (by assumption) (by assumption)) (fun K hK => ?_); go_simp; refine hK _ ?_; clear hK K) | (refine wpRO_pure rfl rfl _ (fun w' hG => by obtain g0 := hG; go_simp; exact Gives.mk _ _) (fun K hK => ?_); go_simp; refine hK _ ?_; clear hK K) | (refine wpRO_skip rfl rfl (fun K hK => ?_); go_simp; refine hK _ ?_; clear hK K)
                first | (refine wpRO_pure rfl rfl _ (fun w' hG => by obtain g0 := hG; exact gives_agg2 rfl (by decide +kernel) rfl (by assumption) (by assumption)) (fun K hK => ?_); go_simp; refine hK _ ?_; clear hK K) | (refine wpRO_pure rfl rfl _ (fun w' hG => by obtain g0 := hG; go_simp; exact Gives.mk _ _) (fun K hK => ?_); go_simp; refine hK _ ?_; clear hK K) | (refine wpRO_skip rfl rfl (fun K hK => ?_); go_simp; refine hK _ ?_; clear hK K)
                refine wpRO_skipR rfl rfl (fun K hK => ?_)
                go_simp
                refine hK _ ?_
                clear hK K
                refine wpRO_swi (fun _ => True) trivial ?_
                first | (refine wpRO_free rfl rfl _ (fun w' => by go_simp; exact Gives.mk _ _) (fun K hK => ?_); go_simp; refine hK _ ?_; clear hK K) | (refine wpRO_skipF rfl rfl (fun K hK => ?_); go_simp; refine hK _ ?_; clear hK K)
                refine wpRO_fin ?_
                go_wp2_with fail
                go_roundw
                case rel => exact ⟨k + 1, by omega, by go_num, by rw [KST.out]; simpa using KNL.out.keep ((Keeps.refl _ _).drew)⟩
                case measure => simp [intOf]; omega
            · obtain rfl : k = regs.length := by omega
              have hnl := KNL.out
              have htk : items.take regs.length = items := by rw [← HIL.out]; exact List.take_length
              rw [htk] at hnl
              have hr1 : newRegs liveR (fun _ x => x) t' items = (settledM leads regs wait alive).1 := by
                unfold settledM newRegs
                rw [GE2.out]
              have hle := newRegs_le (alive := liveR) (now := fun _ x => x) (t := t') (l := items)
              generalize newRegs liveR (fun _ x => x) t' items = rl at *
              obtain ⟨no, nc, rfl, -, -, -⟩ := hnl.1.rd
              have HRL := Lib.hid hr1
              have hmk2 := GM.out.keep hnl.2.1
              have KNR := Lib.hid hnl; have GM2 := Lib.hid hmk2
              clear hnl htk hr1 hmk hmk2 KNL hle
              obtain ⟨wb, rfl⟩ : ∃ wb : World, wb = wr := ⟨_, rfl⟩
              have HWL := Lib.hid (show ∀ l : List (Int × Int), (newWait liveR (fun _ x => x) t' l).length ≤ l.length from fun l => newWait_le)
              go_wp2_with fail
              go_loopw [20, 22] (fun v i wx => ∃ (k : Nat), k ≤ wait.length ∧ i = .int .i64 k ∧ NewR wb wx v (newWait liveR (fun _ x => x) t' (wait.take k))) (fun _ i _ => wait.length - (intOf i).toNat)
              case atStart => exact ⟨0, Nat.zero_le _, rfl, NewR.nil wb⟩
              case round =>
                obtain ⟨k, hk, rfl, hnl⟩ := hrel
                have KNL := Lib.hid hnl
                have KM := Lib.hid (GM2.out.keep hnl.2.1)
                clear hnl
                by_cases hlt : k < wait.length
                · have hrd := (H1.out.keep KM.out.hK N1.out)
                  obtain ⟨g, o, rfl, hgl, d0, d1⟩ := hrd.ent k hlt
                  have hst := newWait_step (alive := liveR) (now := fun _ x => x) (t := t') hlt
                  have hle2 : (newWait liveR (fun _ x => x) t' (wait.take k)).length ≤ 60 := by have := HWL.out (wait.take k); have := List.length_take_le k wait; omega
                  obtain ⟨v, hgv⟩ : ∃ v, v = wait.getD k (0, 0) := ⟨_, rfl⟩
                  rw [← hgv] at d0 d1 hst
                  have HGV := Lib.hid hgv
                  generalize newWait liveR (fun _ x => x) t' (wait.take k) = nl at *
                  obtain ⟨wno, wnc, rfl, -, -, -⟩ := KNL.out.1.rd
                  have KST := Lib.hid hst
                  have i0 := KM.out.hr.hI.cell 0
                  simp only [List.getElem?_cons_zero] at i0
                  clear hst hrd hgv
                  go_wp2_with fail
                  refine wp_region_ro (.free 1 (.free 2 (.free 3 (.free 4 (.pure 0 (.pure 5 (.run 6 (.swi [] (.fin))))))))) [6] (fun w' => w'.cell? ⟨Ib, 0, none⟩ = some (.func (.func 72) #[] #[.pointer (some ⟨A, 0, none⟩)]) ∧ w'.cell? ⟨g, o + k * 2, none⟩ = some (.int .i64 v.1)) (by kernel_rfl) (by kernel_rfl) ⟨i0, d0⟩ ?_
                  first | (refine wpRO_free rfl rfl _ (fun w' => by go_simp; exact Gives.mk _ _) (fun K hK => ?_); go_simp; refine hK _ ?_; clear hK K) | (refine wpRO_skipF rfl rfl (fun K hK => ?_); go_simp; refine hK _ ?_; clear hK K)
                  first | (refine wpRO_free rfl rfl _ (fun w' => by go_simp; exact Gives.mk _ _) (fun K hK => ?_); go_simp; refine hK _ ?_; clear hK K) | (refine wpRO_skipF rfl rfl (fun K hK => ?_); go_simp; refine hK _ ?_; clear hK K)
                  first | (refine wpRO_free rfl rfl _ (fun w' => by go_simp; exact Gives.mk _ _) (fun K hK => ?_); go_simp; refine hK _ ?_; clear hK K) | (refine wpRO_skipF rfl rfl (fun K hK => ?_); go_simp; refine hK _ ?_; clear hK K)
                  first | (refine wpRO_free rfl rfl _ (fun w' => by go_simp; exact Gives.mk _ _) (fun K hK => ?_); go_simp; refine hK _ ?_; clear hK K) | (refine wpRO_skipF rfl rfl (fun K hK => ?_); go_simp; refine hK _ ?_; clear hK K)
                  first | (refine wpRO_pure rfl rfl _ (fun w' hG => by obtain ⟨g0, g1⟩ := hG; exact gives_agg2 rfl (by decide +kernel) rfl (by assumption) (by assumption)) (fun K hK => ?_); go_simp; refine hK _ ?_; clear hK K) | (refine wpRO_pure rfl rfl _ (fun w' hG => by obtain ⟨g0, g1⟩ := hG; go_simp; exact Gives.mk _ _) (fun K hK => ?_); go_simp; refine hK _ ?_; clear hK K) | (refine wpRO_skip rfl rfl (fun K hK => ?_); go_simp; refine hK _ ?_; clear hK K)
                  first | (refine wpRO_pure rfl rfl _ (fun w' hG => by obtain ⟨g0, g1⟩ := hG; exact gives_agg2 rfl (by decide +kernel) rfl (by assumption) (by assumption)) (fun K hK => ?_); go_simp; refine hK _ ?_; clear hK K) | (refine wpRO_pure rfl rfl _ (fun w' hG => by obtain ⟨g0, g1⟩ := hG; go_simp; exact Gives.mk _ _) (fun K hK => ?_); go_simp; refine hK _ ?_; clear hK K) | (refine wpRO_skip rfl rfl (fun K hK => ?_); go_simp; refine hK _ ?_; clear hK K)
                  refine wpRO_chg rfl rfl rfl (fun K hK => ?_); unfold gRun; go_simp
                  refine (Ris_c A av t' v.1 _ (KM.out.keep ((Keeps.refl (fun _ => False) _).drew)).hr.hA (KM.out.keep ((Keeps.refl (fun _ => False) _).drew)).hr.hs (by omega)).mono ?_
                  rintro e w6 ⟨rfl, rfl⟩
                  refine hK _ _ ?_
                  clear hK K
                  refine wpRO_swi (fun _ => True) trivial ?_
                  cases hc : t'.contains v.1
                  · skip
                    refine wpRO_fin ?_
                    go_wp2_with fail
                    go_roundw
                    case rel => exact ⟨k + 1, by omega, by go_num, by rw [KST.out]; simp only [liveR, hc]; simpa using KNL.out.keep ((Keeps.refl _ _).drew)⟩
                    case measure => simp [intOf]; omega
                  · skip
                    refine wpRO_fin ?_
                    have hkd := (Keeps.refl (fun _ => False) wr).drew
                    have HST2 := Lib.hid (show newWait liveR (fun _ x => x) t' (wait.take (k + 1)) = nl ++ [v] by rw [KST.out]; simp [liveR, List.contains_iff_mem.1 hc])
                    generalize wr.drew = w7 at *
                    have KM7 := Lib.hid (KM.out.keep hkd); have KNL7 := Lib.hid (KNL.out.keep hkd)
                    clear hkd d0 d1 hgl i0 KST
                    have hrd := (H1.out.keep KM7.out.hK N1.out)
                    obtain ⟨g2, o2, e', hgl, d0, d1⟩ := hrd.ent k hlt
                    cases e'
                    rw [← HGV.out] at d0 d1
                    clear hrd
                    go_wp2_with (at_builtin; refine wpList_app rfl (.tmp 133) (.tmp 138) 38 rfl 41 ie (.agg #[.int .i64 0, .int .i64 0]) 2 16 Try.underlying38 Hi.out Hz0.out Hz1.out Hz2.out rfl (by decide) _ nl.length (entV nl) rfl (KNL7.out.keep ((Keeps.refl (fun _ => False) _).alloc _)).1 ⟨w7.heap.size, 0, none⟩ 1 1 [.int .i64 v.1, .int .i64 v.2] rfl rfl (news_at w7 41 #[.int .i64 v.1, .int .i64 v.2]) ent_one (by unfold maxLen; omega) (by omega) ?_)
                    intro v8 w8 hs8 hk8 ho8
                    have hnx := KNL7.out.app (e := v) ((Keeps.refl (fun _ => False) w7).alloc (.cells #[.int .i64 v.1, .int .i64 v.2] 41)) hs8 hk8 (by simpa using ho8)
                    have HNX := Lib.hid hnx
                    clear hnx hs8 hk8 ho8
                    go_wp2_with fail
                    go_roundw
                    case rel => exact ⟨k + 1, by omega, by go_num, by rw [HST2.out]; exact HNX.out⟩
                    case measure => simp [intOf]; omega
                · obtain rfl : k = wait.length := by omega
                  have hnl := KNL.out
                  rw [List.take_length] at hnl
                  have hle2 : (newWait liveR (fun _ x => x) t' wait).length ≤ 60 := by have := HWL.out wait; omega
                  obtain ⟨wl, hwl⟩ : ∃ wl, wl = newWait liveR (fun _ x => x) t' wait := ⟨_, rfl⟩
                  rw [← hwl] at hnl hle2
                  obtain ⟨wno, wnc, rfl, -, -, -⟩ := hnl.1.rd
                  have HWQ := Lib.hid hwl; have KN2 := Lib.hid hnl
                  clear hnl hwl KNL
                  have HB6 := Lib.hid KN2.out
                  obtain ⟨w6, rfl⟩ : ∃ w6 : World, w6 = wr := ⟨_, rfl⟩
                  go_wp2_with fail
                  go_loopw [20, 23] (fun v i wx => ∃ (k : Nat), k ≤ q'.length ∧ i = .int .i64 k ∧ NewR wb wx v (wl ++ newWait liveR (fun _ x => x) t' (q'.take k))) (fun _ i _ => q'.length - (intOf i).toNat)
                  case atStart => exact ⟨0, Nat.zero_le _, rfl, by simpa [newWait] using HB6.out⟩
                  case round =>
                    obtain ⟨k, hk, rfl, hnl⟩ := hrel
                    have KNL := Lib.hid hnl
                    have KM := Lib.hid (GM2.out.keep hnl.2.1)
                    clear hnl
                    by_cases hlt : k < q'.length
                    · obtain ⟨_, _, e', hrd, -, -⟩ := KM.out.hc.rd
                      cases e'
                      obtain ⟨g, o, rfl, hgl, d0, d1⟩ := hrd.ent k hlt
                      have hst := newWait_step (alive := liveR) (now := fun _ x => x) (t := t') hlt
                      have hle2 : (newWait liveR (fun _ x => x) t' (q'.take k)).length ≤ 60 := by have := HWL.out (q'.take k); have := List.length_take_le k q'; omega
                      obtain ⟨v, hgv⟩ : ∃ v, v = q'.getD k (0, 0) := ⟨_, rfl⟩
                      rw [← hgv] at d0 d1 hst
                      have HGV := Lib.hid hgv
                      obtain ⟨nl, hnl2⟩ : ∃ nl, nl = wl ++ newWait liveR (fun _ x => x) t' (q'.take k) := ⟨_, rfl⟩
                      have hle3 : nl.length ≤ 120 := by rw [hnl2, List.length_append]; omega
                      rw [← hnl2] at KNL
                      have HNL := Lib.hid hnl2
                      clear hnl2 hle2
                      obtain ⟨wno, wnc, rfl, -, -, -⟩ := KNL.out.1.rd
                      have KST := Lib.hid hst
                      have i0 := KM.out.hr.hI.cell 0
                      simp only [List.getElem?_cons_zero] at i0
                      clear hst hrd hgv
                      go_wp2_with fail
                      refine wp_region_ro (.free 1 (.free 2 (.free 3 (.free 4 (.pure 0 (.pure 5 (.run 6 (.swi [] (.fin))))))))) [6] (fun w' => w'.cell? ⟨Ib, 0, none⟩ = some (.func (.func 72) #[] #[.pointer (some ⟨A, 0, none⟩)]) ∧ w'.cell? ⟨g, o + k * 2, none⟩ = some (.int .i64 v.1)) (by kernel_rfl) (by kernel_rfl) ⟨i0, d0⟩ ?_
                      first | (refine wpRO_free rfl rfl _ (fun w' => by go_simp; exact Gives.mk _ _) (fun K hK => ?_); go_simp; refine hK _ ?_; clear hK K) | (refine wpRO_skipF rfl rfl (fun K hK => ?_); go_simp; refine hK _ ?_; clear hK K)
                      first | (refine wpRO_free rfl rfl _ (fun w' => by go_simp; exact Gives.mk _ _) (fun K hK => ?_); go_simp; refine hK _ ?_; clear hK K) | (refine wpRO_skipF rfl rfl (fun K hK => ?_); go_simp; refine hK _ ?_; clear hK K)
                      first | (refine wpRO_free rfl rfl _ (fun w' => by go_simp; exact Gives.mk _ _) (fun K hK => ?_); go_simp; refine hK _ ?_; clear hK K) | (refine wpRO_skipF rfl rfl (fun K hK => ?_); go_simp; refine hK _ ?_; clear hK K)
                      first | (refine wpRO_free rfl rfl _ (fun w' => by go_simp; exact Gives.mk _ _) (fun K hK => ?_); go_simp; refine hK _ ?_; clear hK K) | (refine wpRO_skipF rfl rfl (fun K hK => ?_); go_simp; refine hK _ ?_; clear hK K)
                      first | (refine wpRO_pure rfl rfl _ (fun w' hG => by obtain ⟨g0, g1⟩ := hG; exact gives_agg2 rfl (by decide +kernel) rfl (by assumption) (by assumption)) (fun K hK => ?_); go_simp; refine hK _ ?_; clear hK K) | (refine wpRO_pure rfl rfl _ (fun w' hG => by obtain ⟨g0, g1⟩ := hG; go_simp; exact Gives.mk _ _) (fun K hK => ?_); go_simp; refine hK _ ?_; clear hK K) | (refine wpRO_skip rfl rfl (fun K hK => ?_); go_simp; refine hK _ ?_; clear hK K)
                      first | (refine wpRO_pure rfl rfl _ (fun w' hG => by obtain ⟨g0, g1⟩ := hG; exact gives_agg2 rfl (by decide +kernel) rfl (by assumption) (by assumption)) (fun K hK => ?_); go_simp; refine hK _ ?_; clear hK K) | (refine wpRO_pure rfl rfl _ (fun w' hG => by obtain ⟨g0, g1⟩ := hG; go_simp; exact Gives.mk _ _) (fun K hK => ?_); go_simp; refine hK _ ?_; clear hK K) | (refine wpRO_skip rfl rfl (fun K hK => ?_); go_simp; refine hK _ ?_; clear hK K)
                      refine wpRO_chg rfl rfl rfl (fun K hK => ?_); unfold gRun; go_simp
                      refine (Ris_c A av t' v.1 _ (KM.out.keep ((Keeps.refl (fun _ => False) _).drew)).hr.hA (KM.out.keep ((Keeps.refl (fun _ => False) _).drew)).hr.hs (by omega)).mono ?_
                      rintro e w6 ⟨rfl, rfl⟩
                      refine hK _ _ ?_
                      clear hK K
                      refine wpRO_swi (fun _ => True) trivial ?_
                      cases hc : t'.contains v.1
                      · skip
                        refine wpRO_fin ?_
                        go_wp2_with fail
                        go_roundw
                        case rel => exact ⟨k + 1, by omega, by go_num, by rw [KST.out]; simp only [liveR, hc]; simpa [HNL.out] using KNL.out.keep ((Keeps.refl _ _).drew)⟩
                        case measure => simp [intOf]; omega
                      · skip
                        refine wpRO_fin ?_
                        have hkd := (Keeps.refl (fun _ => False) wr).drew
                        have HST2 := Lib.hid (show wl ++ newWait liveR (fun _ x => x) t' (q'.take (k + 1)) = nl ++ [v] by rw [KST.out, HNL.out]; simp [liveR, List.contains_iff_mem.1 hc])
                        generalize wr.drew = w7 at *
                        have KM7 := Lib.hid (KM.out.keep hkd); have KNL7 := Lib.hid (KNL.out.keep hkd)
                        clear hkd d0 d1 hgl i0 KST
                        obtain ⟨_, _, e', hrd, -, -⟩ := KM7.out.hc.rd
                        cases e'
                        obtain ⟨g2, o2, e', hgl, d0, d1⟩ := hrd.ent k hlt
                        cases e'
                        rw [← HGV.out] at d0 d1
                        clear hrd
                        go_wp2_with (at_builtin; refine wpList_app rfl (.tmp 153) (.tmp 158) 38 rfl 41 ie (.agg #[.int .i64 0, .int .i64 0]) 2 16 Try.underlying38 Hi.out Hz0.out Hz1.out Hz2.out rfl (by decide) _ nl.length (entV nl) rfl (KNL7.out.keep ((Keeps.refl (fun _ => False) _).alloc _)).1 ⟨w7.heap.size, 0, none⟩ 1 1 [.int .i64 v.1, .int .i64 v.2] rfl rfl (news_at w7 41 #[.int .i64 v.1, .int .i64 v.2]) ent_one (by unfold maxLen; omega) (by omega) ?_)
                        intro v8 w8 hs8 hk8 ho8
                        have hnx := KNL7.out.app (e := v) ((Keeps.refl (fun _ => False) w7).alloc (.cells #[.int .i64 v.1, .int .i64 v.2] 41)) hs8 hk8 (by simpa using ho8)
                        have HNX := Lib.hid hnx
                        clear hnx hs8 hk8 ho8
                        go_wp2_with fail
                        go_roundw
                        case rel => exact ⟨k + 1, by omega, by go_num, by rw [HST2.out]; exact HNX.out⟩
                        case measure => simp [intOf]; omega
                    · obtain rfl : k = q'.length := by omega
                      have hnl := KNL.out
                      rw [List.take_length] at hnl
                      have hst : wl ++ newWait liveR (fun _ x => x) t' q' = (settledM leads regs wait alive).2 := by
                        unfold settledM
                        rw [GE2.out, HWQ.out]
                        simp [newWait]
                      rw [hst] at hnl
                      have HNL := Lib.hid hnl
                      have a0 := KM.out.hr.hA.cell 0
                      simp only [List.getElem?_cons_zero] at a0
                      clear hnl hst
                      go_wp2_with fail
                      refine wp_region_ro (.free 0 (.free 1 (.free 3 (.free 4 (.pure 2 (.free 5 (.fin))))))) [] (fun w' => w'.cell? ⟨A, 0, none⟩ = some av) (by kernel_rfl) (by kernel_rfl) a0 ?_
                      first | (refine wpRO_free rfl rfl _ (fun w' => by go_simp; exact Gives.mk _ _) (fun K hK => ?_); go_simp; refine hK _ ?_; clear hK K) | (refine wpRO_skipF rfl rfl (fun K hK => ?_); go_simp; refine hK _ ?_; clear hK K)
                      first | (refine wpRO_free rfl rfl _ (fun w' => by go_simp; exact Gives.mk _ _) (fun K hK => ?_); go_simp; refine hK _ ?_; clear hK K) | (refine wpRO_skipF rfl rfl (fun K hK => ?_); go_simp; refine hK _ ?_; clear hK K)
                      first | (refine wpRO_free rfl rfl _ (fun w' => by go_simp; exact Gives.mk _ _) (fun K hK => ?_); go_simp; refine hK _ ?_; clear hK K) | (refine wpRO_skipF rfl rfl (fun K hK => ?_); go_simp; refine hK _ ?_; clear hK K)
                      first | (refine wpRO_free rfl rfl _ (fun w' => by go_simp; exact Gives.mk _ _) (fun K hK => ?_); go_simp; refine hK _ ?_; clear hK K) | (refine wpRO_skipF rfl rfl (fun K hK => ?_); go_simp; refine hK _ ?_; clear hK K)
                      first | (refine wpRO_pure rfl rfl _ (fun w' hG => by obtain g0 := hG; exact gives_agg2 rfl (by decide +kernel) rfl (by assumption) (by assumption)) (fun K hK => ?_); go_simp; refine hK _ ?_; clear hK K) | (refine wpRO_pure rfl rfl _ (fun w' hG => by obtain g0 := hG; go_simp; exact Gives.mk _ _) (fun K hK => ?_); go_simp; refine hK _ ?_; clear hK K) | (refine wpRO_skip rfl rfl (fun K hK => ?_); go_simp; refine hK _ ?_; clear hK K)
                      first | (refine wpRO_free rfl rfl _ (fun w' => by go_simp; exact Gives.mk _ _) (fun K hK => ?_); go_simp; refine hK _ ?_; clear hK K) | (refine wpRO_skipF rfl rfl (fun K hK => ?_); go_simp; refine hK _ ?_; clear hK K)
                      refine wpRO_fin ?_
                      go_wp2_with fail
                      go_ret3
                      refine ⟨_, _, _, rfl, ?_, ?_, KM.out.hK.drew, ?_, ?_, ?_⟩
                      · rw [← HRL.out]
                        exact (KNR.out.keep HNL.out.2.1).1
                      · exact HNL.out.1
                      · intro k hk
                        exact Nat.le_trans GM.out.hK.size (KNR.out.2.2 k hk)
                      · intro k hk
                        exact Nat.le_trans GM2.out.hK.size (HNL.out.2.2 k hk)
                      · rintro k ⟨hk1, hk2⟩
                        have h1 := (KNR.out.1.own hk1).1
                        have h2 := HNL.out.2.2 k hk2
                        omega
        · have he := GE.out
          simp only [if_true] at he
          have GE2 := Lib.hid he
          have hun := GU.out rfl
          clear he GE
          have hl0 : items.length = regs.length := by rw [← GF.out]; simp
          have HI : RScan w A Lb Ib D M (.slice ao alive.length ac) lo lc leads t' q' items regs.length _ wr 0 false :=
            ⟨t', q', av, [], rfl, by simpa using GM.out, by simpa using GN.out, by simpa using GT.out, by simp⟩
          have HL0 := Lib.hid hl0; have HUN := Lib.hid hun
          clear hl0 hun
          go_wp2_with fail
          go_loopw [16, 17, 18] (fun cv v i wx => ∃ (k : Nat) (more : Bool), k ≤ regs.length ∧ i = .int .i64 k ∧ v = .bool more ∧ RScan w A Lb Ib D M (.slice ao alive.length ac) lo lc leads t' q' items regs.length cv wx k more) (fun _ _ i _ => regs.length - (intOf i).toNat)
          case atStart => exact ⟨0, false, Nat.zero_le _, rfl, rfl, HI⟩
          case round =>
            clear HI
            obtain ⟨k, more, hk, rfl, rfl, hsc⟩ := hrel
            by_cases hlt : k < regs.length
            · obtain ⟨t2, q2, av2, done, hd, hm, hN, hT, hE⟩ := hsc
              have hki : k < items.length := by rw [HL0.out]; exact hlt
              have hdr : items.drop k = items[k] :: items.drop (k + 1) := List.drop_eq_getElem_cons hki
              have hgi : regs.getD k (0, 0) = items[k].1 := by
                have : regs[k]? = (items.map (·.1))[k]? := by rw [GF.out]
                simp only [List.getElem?_map, List.getElem?_eq_getElem hki, List.getElem?_eq_getElem hlt, Option.map_some, Option.some.injEq] at this
                simp [List.getD, hlt, this]
              have hrd := (H0.out.keep hm.hK N0.out)
              obtain ⟨g, o, rfl, hgl, d0, d1⟩ := hrd.ent k hlt
              rw [hgi] at d0 d1
              rw [hdr] at hm hN hT hE
              generalize items[k] = it at *
              obtain ⟨v, dd, mv⟩ := it
              have r1 := hm.hd.cell k; have r1l := hm.hd.lt
              have r2 := hm.hm.cell k; have r2l := hm.hm.lt
              have hgk : (done ++ (v, dd, mv) :: items.drop (k + 1))[k]? = some (v, dd, mv) := by simp [hd]
              rw [List.getElem?_map, hgk] at r1 r2
              simp only [Option.map_some] at r1 r2
              have i0 := hm.hr.hI.cell 0
              simp only [List.getElem?_cons_zero] at i0
              have KM := Lib.hid hm; have KD := Lib.hid hd; have KDR := Lib.hid hdr; have KN := Lib.hid hN; have KT := Lib.hid hT; have KE := Lib.hid hE; have HGI := Lib.hid hgi
              have ht2 : t2.length ≤ 70000 := by omega
              have hq2 : q2.length ≤ 60 := by omega
              clear hm hd hdr hN hT hE hgk hrd hgi
              try simp only at d0 d1
              have SKIP : Hid (∀ w2, Keeps (fun _ => False) wr w2 → ((dd && !mv) && liveR t2 v.1) = false → RScan w A Lb Ib D M (.slice ao alive.length ac) lo lc leads t' q' items regs.length _ w2 (k + 1) more) := fun w2 h1 h2 => RScan.skip KD.out KDR.out KM.out KN.out KT.out KE.out h1 h2
              cases dd
              · go_wp2_with fail
                refine wp_region_ro (.free 0 (.free 1 (.free 2 (.pure 3 (.free 4 (.free 5 (.free 6 (.free 7 (.pure 8 (.free 9 (.free 10 (.free 11 (.free 13 (.free 14 (.free 15 (.free 16 (.pure 12 (.pure 17 (.run 18 (.swi [] (.free 19 (.fin)))))))))))))))))))))) [18, 19] (fun w' => w'.cell? ⟨D, k, none⟩ = some (.bool false) ∧ w'.cell? ⟨M, k, none⟩ = some (.bool mv) ∧ w'.cell? ⟨Ib, 0, none⟩ = some (.func (.func 72) #[] #[.pointer (some ⟨A, 0, none⟩)]) ∧ w'.cell? ⟨g, o + k * 2, none⟩ = some (.int .i64 v.1)) (by kernel_rfl) (by kernel_rfl) ⟨r1, r2, i0, d0⟩ ?_
                first | (refine wpRO_free rfl rfl _ (fun w' => by go_simp; exact Gives.mk _ _) (fun K hK => ?_); go_simp; refine hK _ ?_; clear hK K) | (refine wpRO_skipF rfl rfl (fun K hK => ?_); go_simp; refine hK _ ?_; clear hK K)
                first | (refine wpRO_free rfl rfl _ (fun w' => by go_simp; exact Gives.mk _ _) (fun K hK => ?_); go_simp; refine hK _ ?_; clear hK K) | (refine wpRO_skipF rfl rfl (fun K hK => ?_); go_simp; refine hK _ ?_; clear hK K)
                first | (refine wpRO_free rfl rfl _ (fun w' => by go_simp; exact Gives.mk _ _) (fun K hK => ?_); go_simp; refine hK _ ?_; clear hK K) | (refine wpRO_skipF rfl rfl (fun K hK => ?_); go_simp; refine hK _ ?_; clear hK K)
                first | (refine wpRO_pure rfl rfl _ (fun w' hG => by obtain ⟨g0, g1, g2, g3⟩ := hG; exact gives_agg2 rfl (by decide +kernel) rfl (by assumption) (by assumption)) (fun K hK => ?_); go_simp; refine hK _ ?_; clear hK K) | (refine wpRO_pure rfl rfl _ (fun w' hG => by obtain ⟨g0, g1, g2, g3⟩ := hG; go_simp; exact Gives.mk _ _) (fun K hK => ?_); go_simp; refine hK _ ?_; clear hK K) | (refine wpRO_skip rfl rfl (fun K hK => ?_); go_simp; refine hK _ ?_; clear hK K)
                first | (refine wpRO_free rfl rfl _ (fun w' => by go_simp; exact Gives.mk _ _) (fun K hK => ?_); go_simp; refine hK _ ?_; clear hK K) | (refine wpRO_skipF rfl rfl (fun K hK => ?_); go_simp; refine hK _ ?_; clear hK K)
                first | (refine wpRO_free rfl rfl _ (fun w' => by go_simp; exact Gives.mk _ _) (fun K hK => ?_); go_simp; refine hK _ ?_; clear hK K) | (refine wpRO_skipF rfl rfl (fun K hK => ?_); go_simp; refine hK _ ?_; clear hK K)
                first | (refine wpRO_free rfl rfl _ (fun w' => by go_simp; exact Gives.mk _ _) (fun K hK => ?_); go_simp; refine hK _ ?_; clear hK K) | (refine wpRO_skipF rfl rfl (fun K hK => ?_); go_simp; refine hK _ ?_; clear hK K)
                first | (refine wpRO_free rfl rfl _ (fun w' => by go_simp; exact Gives.mk _ _) (fun K hK => ?_); go_simp; refine hK _ ?_; clear hK K) | (refine wpRO_skipF rfl rfl (fun K hK => ?_); go_simp; refine hK _ ?_; clear hK K)
                first | (refine wpRO_pure rfl rfl _ (fun w' hG => by obtain ⟨g0, g1, g2, g3⟩ := hG; exact gives_agg2 rfl (by decide +kernel) rfl (by assumption) (by assumption)) (fun K hK => ?_); go_simp; refine hK _ ?_; clear hK K) | (refine wpRO_pure rfl rfl _ (fun w' hG => by obtain ⟨g0, g1, g2, g3⟩ := hG; go_simp; exact Gives.mk _ _) (fun K hK => ?_); go_simp; refine hK _ ?_; clear hK K) | (refine wpRO_skip rfl rfl (fun K hK => ?_); go_simp; refine hK _ ?_; clear hK K)
                first | (refine wpRO_free rfl rfl _ (fun w' => by go_simp; exact Gives.mk _ _) (fun K hK => ?_); go_simp; refine hK _ ?_; clear hK K) | (refine wpRO_skipF rfl rfl (fun K hK => ?_); go_simp; refine hK _ ?_; clear hK K)
                first | (refine wpRO_free rfl rfl _ (fun w' => by go_simp; exact Gives.mk _ _) (fun K hK => ?_); go_simp; refine hK _ ?_; clear hK K) | (refine wpRO_skipF rfl rfl (fun K hK => ?_); go_simp; refine hK _ ?_; clear hK K)
                first | (refine wpRO_free rfl rfl _ (fun w' => by go_simp; exact Gives.mk _ _) (fun K hK => ?_); go_simp; refine hK _ ?_; clear hK K) | (refine wpRO_skipF rfl rfl (fun K hK => ?_); go_simp; refine hK _ ?_; clear hK K)
                first | (refine wpRO_free rfl rfl _ (fun w' => by go_simp; exact Gives.mk _ _) (fun K hK => ?_); go_simp; refine hK _ ?_; clear hK K) | (refine wpRO_skipF rfl rfl (fun K hK => ?_); go_simp; refine hK _ ?_; clear hK K)
                first | (refine wpRO_free rfl rfl _ (fun w' => by go_simp; exact Gives.mk _ _) (fun K hK => ?_); go_simp; refine hK _ ?_; clear hK K) | (refine wpRO_skipF rfl rfl (fun K hK => ?_); go_simp; refine hK _ ?_; clear hK K)
                first | (refine wpRO_free rfl rfl _ (fun w' => by go_simp; exact Gives.mk _ _) (fun K hK => ?_); go_simp; refine hK _ ?_; clear hK K) | (refine wpRO_skipF rfl rfl (fun K hK => ?_); go_simp; refine hK _ ?_; clear hK K)
                first | (refine wpRO_free rfl rfl _ (fun w' => by go_simp; exact Gives.mk _ _) (fun K hK => ?_); go_simp; refine hK _ ?_; clear hK K) | (refine wpRO_skipF rfl rfl (fun K hK => ?_); go_simp; refine hK _ ?_; clear hK K)
                first | (refine wpRO_pure rfl rfl _ (fun w' hG => by obtain ⟨g0, g1, g2, g3⟩ := hG; exact gives_agg2 rfl (by decide +kernel) rfl (by assumption) (by assumption)) (fun K hK => ?_); go_simp; refine hK _ ?_; clear hK K) | (refine wpRO_pure rfl rfl _ (fun w' hG => by obtain ⟨g0, g1, g2, g3⟩ := hG; go_simp; exact Gives.mk _ _) (fun K hK => ?_); go_simp; refine hK _ ?_; clear hK K) | (refine wpRO_skip rfl rfl (fun K hK => ?_); go_simp; refine hK _ ?_; clear hK K)
                first | (refine wpRO_pure rfl rfl _ (fun w' hG => by obtain ⟨g0, g1, g2, g3⟩ := hG; exact gives_agg2 rfl (by decide +kernel) rfl (by assumption) (by assumption)) (fun K hK => ?_); go_simp; refine hK _ ?_; clear hK K) | (refine wpRO_pure rfl rfl _ (fun w' hG => by obtain ⟨g0, g1, g2, g3⟩ := hG; go_simp; exact Gives.mk _ _) (fun K hK => ?_); go_simp; refine hK _ ?_; clear hK K) | (refine wpRO_skip rfl rfl (fun K hK => ?_); go_simp; refine hK _ ?_; clear hK K)
                refine wpRO_skipR rfl rfl (fun K hK => ?_)
                go_simp
                refine hK _ ?_
                clear hK K
                refine wpRO_swi (fun _ => True) trivial ?_
                first | (refine wpRO_free rfl rfl _ (fun w' => by go_simp; exact Gives.mk _ _) (fun K hK => ?_); go_simp; refine hK _ ?_; clear hK K) | (refine wpRO_skipF rfl rfl (fun K hK => ?_); go_simp; refine hK _ ?_; clear hK K)
                refine wpRO_fin ?_
                have HCC := (show ((false && !mv) && liveR t2 v.1) = false from rfl)
                go_wp2_with fail
                go_roundw
                case rel => exact ⟨k + 1, more, by omega, by go_num, rfl, SKIP.out _ ((Keeps.refl _ _).drew) HCC⟩
                case measure => simp [intOf]; omega
              · cases mv
                · go_wp2_with fail
                  refine wp_region_ro (.free 0 (.free 1 (.free 2 (.pure 3 (.free 4 (.free 5 (.free 6 (.free 7 (.pure 8 (.free 9 (.free 10 (.free 11 (.free 13 (.free 14 (.free 15 (.free 16 (.pure 12 (.pure 17 (.run 18 (.swi [] (.free 19 (.fin)))))))))))))))))))))) [18, 19] (fun w' => w'.cell? ⟨D, k, none⟩ = some (.bool true) ∧ w'.cell? ⟨M, k, none⟩ = some (.bool false) ∧ w'.cell? ⟨Ib, 0, none⟩ = some (.func (.func 72) #[] #[.pointer (some ⟨A, 0, none⟩)]) ∧ w'.cell? ⟨g, o + k * 2, none⟩ = some (.int .i64 v.1)) (by kernel_rfl) (by kernel_rfl) ⟨r1, r2, i0, d0⟩ ?_
                  first | (refine wpRO_free rfl rfl _ (fun w' => by go_simp; exact Gives.mk _ _) (fun K hK => ?_); go_simp; refine hK _ ?_; clear hK K) | (refine wpRO_skipF rfl rfl (fun K hK => ?_); go_simp; refine hK _ ?_; clear hK K)
                  first | (refine wpRO_free rfl rfl _ (fun w' => by go_simp; exact Gives.mk _ _) (fun K hK => ?_); go_simp; refine hK _ ?_; clear hK K) | (refine wpRO_skipF rfl rfl (fun K hK => ?_); go_simp; refine hK _ ?_; clear hK K)
                  first | (refine wpRO_free rfl rfl _ (fun w' => by go_simp; exact Gives.mk _ _) (fun K hK => ?_); go_simp; refine hK _ ?_; clear hK K) | (refine wpRO_skipF rfl rfl (fun K hK => ?_); go_simp; refine hK _ ?_; clear hK K)
                  first | (refine wpRO_pure rfl rfl _ (fun w' hG => by obtain ⟨g0, g1, g2, g3⟩ := hG; exact gives_agg2 rfl (by decide +kernel) rfl (by assumption) (by assumption)) (fun K hK => ?_); go_simp; refine hK _ ?_; clear hK K) | (refine wpRO_pure rfl rfl _ (fun w' hG => by obtain ⟨g0, g1, g2, g3⟩ := hG; go_simp; exact Gives.mk _ _) (fun K hK => ?_); go_simp; refine hK _ ?_; clear hK K) | (refine wpRO_skip rfl rfl (fun K hK => ?_); go_simp; refine hK _ ?_; clear hK K)
                  first | (refine wpRO_free rfl rfl _ (fun w' => by go_simp; exact Gives.mk _ _) (fun K hK => ?_); go_simp; refine hK _ ?_; clear hK K) | (refine wpRO_skipF rfl rfl (fun K hK => ?_); go_simp; refine hK _ ?_; clear hK K)
                  first | (refine wpRO_free rfl rfl _ (fun w' => by go_simp; exact Gives.mk _ _) (fun K hK => ?_); go_simp; refine hK _ ?_; clear hK K) | (refine wpRO_skipF rfl rfl (fun K hK => ?_); go_simp; refine hK _ ?_; clear hK K)
                  first | (refine wpRO_free rfl rfl _ (fun w' => by go_simp; exact Gives.mk _ _) (fun K hK => ?_); go_simp; refine hK _ ?_; clear hK K) | (refine wpRO_skipF rfl rfl (fun K hK => ?_); go_simp; refine hK _ ?_; clear hK K)
                  first | (refine wpRO_free rfl rfl _ (fun w' => by go_simp; exact Gives.mk _ _) (fun K hK => ?_); go_simp; refine hK _ ?_; clear hK K) | (refine wpRO_skipF rfl rfl (fun K hK => ?_); go_simp; refine hK _ ?_; clear hK K)
                  first | (refine wpRO_pure rfl rfl _ (fun w' hG => by obtain ⟨g0, g1, g2, g3⟩ := hG; exact gives_agg2 rfl (by decide +kernel) rfl (by assumption) (by assumption)) (fun K hK => ?_); go_simp; refine hK _ ?_; clear hK K) | (refine wpRO_pure rfl rfl _ (fun w' hG => by obtain ⟨g0, g1, g2, g3⟩ := hG; go_simp; exact Gives.mk _ _) (fun K hK => ?_); go_simp; refine hK _ ?_; clear hK K) | (refine wpRO_skip rfl rfl (fun K hK => ?_); go_simp; refine hK _ ?_; clear hK K)
                  first | (refine wpRO_free rfl rfl _ (fun w' => by go_simp; exact Gives.mk _ _) (fun K hK => ?_); go_simp; refine hK _ ?_; clear hK K) | (refine wpRO_skipF rfl rfl (fun K hK => ?_); go_simp; refine hK _ ?_; clear hK K)
                  first | (refine wpRO_free rfl rfl _ (fun w' => by go_simp; exact Gives.mk _ _) (fun K hK => ?_); go_simp; refine hK _ ?_; clear hK K) | (refine wpRO_skipF rfl rfl (fun K hK => ?_); go_simp; refine hK _ ?_; clear hK K)
                  first | (refine wpRO_free rfl rfl _ (fun w' => by go_simp; exact Gives.mk _ _) (fun K hK => ?_); go_simp; refine hK _ ?_; clear hK K) | (refine wpRO_skipF rfl rfl (fun K hK => ?_); go_simp; refine hK _ ?_; clear hK K)
                  first | (refine wpRO_free rfl rfl _ (fun w' => by go_simp; exact Gives.mk _ _) (fun K hK => ?_); go_simp; refine hK _ ?_; clear hK K) | (refine wpRO_skipF rfl rfl (fun K hK => ?_); go_simp; refine hK _ ?_; clear hK K)
                  first | (refine wpRO_free rfl rfl _ (fun w' => by go_simp; exact Gives.mk _ _) (fun K hK => ?_); go_simp; refine hK _ ?_; clear hK K) | (refine wpRO_skipF rfl rfl (fun K hK => ?_); go_simp; refine hK _ ?_; clear hK K)
                  first | (refine wpRO_free rfl rfl _ (fun w' => by go_simp; exact Gives.mk _ _) (fun K hK => ?_); go_simp; refine hK _ ?_; clear hK K) | (refine wpRO_skipF rfl rfl (fun K hK => ?_); go_simp; refine hK _ ?_; clear hK K)
                  first | (refine wpRO_free rfl rfl _ (fun w' => by go_simp; exact Gives.mk _ _) (fun K hK => ?_); go_simp; refine hK _ ?_; clear hK K) | (refine wpRO_skipF rfl rfl (fun K hK => ?_); go_simp; refine hK _ ?_; clear hK K)
                  first | (refine wpRO_pure rfl rfl _ (fun w' hG => by obtain ⟨g0, g1, g2, g3⟩ := hG; exact gives_agg2 rfl (by decide +kernel) rfl (by assumption) (by assumption)) (fun K hK => ?_); go_simp; refine hK _ ?_; clear hK K) | (refine wpRO_pure rfl rfl _ (fun w' hG => by obtain ⟨g0, g1, g2, g3⟩ := hG; go_simp; exact Gives.mk _ _) (fun K hK => ?_); go_simp; refine hK _ ?_; clear hK K) | (refine wpRO_skip rfl rfl (fun K hK => ?_); go_simp; refine hK _ ?_; clear hK K)
                  first | (refine wpRO_pure rfl rfl _ (fun w' hG => by obtain ⟨g0, g1, g2, g3⟩ := hG; exact gives_agg2 rfl (by decide +kernel) rfl (by assumption) (by assumption)) (fun K hK => ?_); go_simp; refine hK _ ?_; clear hK K) | (refine wpRO_pure rfl rfl _ (fun w' hG => by obtain ⟨g0, g1, g2, g3⟩ := hG; go_simp; exact Gives.mk _ _) (fun K hK => ?_); go_simp; refine hK _ ?_; clear hK K) | (refine wpRO_skip rfl rfl (fun K hK => ?_); go_simp; refine hK _ ?_; clear hK K)
                  refine wpRO_chg rfl rfl rfl (fun K hK => ?_); unfold gRun; go_simp
                  refine (Ris_c A av2 t2 v.1 _ (KM.out.keep ((Keeps.refl (fun _ => False) _).drew)).hr.hA (KM.out.keep ((Keeps.refl (fun _ => False) _).drew)).hr.hs (by omega)).mono ?_
                  rintro e w6 ⟨rfl, rfl⟩
                  refine hK _ _ ?_
                  clear hK K
                  refine wpRO_swi (fun _ => True) trivial ?_
                  cases hc : t2.contains v.1
                  · first | (refine wpRO_free rfl rfl _ (fun w' => by go_simp; exact Gives.mk _ _) (fun K hK => ?_); go_simp; refine hK _ ?_; clear hK K) | (refine wpRO_skipF rfl rfl (fun K hK => ?_); go_simp; refine hK _ ?_; clear hK K)
                    refine wpRO_fin ?_
                    have HCC := Lib.hid (show ((true && !false) && liveR t2 v.1) = false by unfold liveR; rw [hc]; rfl)
                    go_wp2_with fail
                    go_roundw
                    case rel => exact ⟨k + 1, more, by omega, by go_num, rfl, SKIP.out _ ((Keeps.refl _ _).drew) HCC.out⟩
                    case measure => simp [intOf]; omega
                  · first | (refine wpRO_free rfl rfl _ (fun w' => by go_simp; exact Gives.mk _ _) (fun K hK => ?_); go_simp; refine hK _ ?_; clear hK K) | (refine wpRO_skipF rfl rfl (fun K hK => ?_); go_simp; refine hK _ ?_; clear hK K)
                    refine wpRO_fin ?_
                    have HCC := Lib.hid (show ((true && !false) && liveR t2 v.1) = true by unfold liveR; rw [hc]; rfl)
                    have hkd := (Keeps.refl (fun _ => False) wr).drew
                    generalize wr.drew = w7 at *
                    have KM7 := Lib.hid (KM.out.keep hkd)
                    clear hkd d0 d1 hgl i0 r1 r1l r2 r2l
                    have hrd := (H0.out.keep KM7.out.hK N0.out)
                    obtain ⟨g2, o2, e', hgl, d0, d1⟩ := hrd.ent k hlt
                    cases e'
                    rw [HGI.out] at d0 d1
                    try simp only at d0 d1
                    clear hrd
                    go_wp2_with fail
                    refine (Rkeep_c A Lb Ib av2 lo lc t2 leads v.2 _ KM7.out.hr (fun a ha => Nat.lt_of_lt_of_le (N3.out a ha).1 KM7.out.hK.size) (by omega) (by omega)).mono ?_
                    rintro e w8 hkp
                    have he := hkp.1
                    subst he
                    obtain ⟨av3, hm8⟩ := KM7.out.kept hkp
                    have KM8 := Lib.hid hm8
                    clear hkp hm8 d0 d1 hgl
                    have hrd := (H0.out.keep KM8.out.hK N0.out)
                    obtain ⟨g2, o2, e', hgl, d0, d1⟩ := hrd.ent k hlt
                    cases e'
                    rw [HGI.out] at d0 d1
                    try simp only at d0 d1
                    clear hrd
                    obtain ⟨qo, qc, rfl, -, -, -⟩ := KM8.out.hc.rd
                    go_wp2_with (at_builtin; refine wpList_app rfl (.tmp 83) (.tmp 88) 38 rfl 41 ie (.agg #[.int .i64 0, .int .i64 0]) 2 16 Try.underlying38 Hi.out Hz0.out Hz1.out Hz2.out rfl (by decide) _ q2.length (entV q2) rfl (KM8.out.keep ((Keeps.refl (fun _ => False) _).alloc _)).hc ⟨w8.heap.size, 0, none⟩ 1 1 [.int .i64 v.1, .int .i64 v.2] rfl rfl (news_at w8 41 #[.int .i64 v.1, .int .i64 v.2]) ent_one (by unfold maxLen; omega) (by omega) ?_)
                    intro v9 w9 hs9 hk9 ho9
                    have hs9' : Sl w9 41 2 v9 (q2 ++ [v]).length (entV (q2 ++ [v])) := by simpa [entV] using hs9
                    have hm9 := RMid.grow (came' := q2 ++ [v]) (KM8.out.keep ((Keeps.refl (fun _ => False) w8).alloc (.cells #[.int .i64 v.1, .int .i64 v.2] 41))) hs9' hk9 (by simpa using ho9)
                    have r2 := hm9.hm.cell k; have r2l := hm9.hm.lt; have fz := hm9.hm.free k
                    have hgk : (done ++ (v, true, false) :: items.drop (k + 1))[k]? = some (v, true, false) := by simp [KD.out]
                    rw [List.getElem?_map, hgk] at r2
                    simp only [Option.map_some] at r2
                    have hm10 := hm9.move
                    rw [KD.out] at hm10
                    have HNX : Hid (RScan w A Lb Ib D M (.slice ao alive.length ac) lo lc leads t' q' items regs.length v9 (w9.setCell ⟨M, k, none⟩ (.bool true)) (k + 1) true) := RScan.took KD.out KN.out KT.out (by omega) KE.out hm10 HCC.out
                    obtain ⟨vo9, vc9, rfl, -, -, -⟩ := hs9'.rd
                    clear hs9 hs9' hk9 ho9 hm9 hm10 hgk d0 d1 hgl
                    go_wp2_with fail
                    go_roundw
                    case rel => exact ⟨k + 1, true, by omega, by go_num, rfl, by simpa using HNX.out⟩
                    case measure => simp [intOf]; omega
                · go_wp2_with fail
                  refine wp_region_ro (.free 0 (.free 1 (.free 2 (.pure 3 (.free 4 (.free 5 (.free 6 (.free 7 (.pure 8 (.free 9 (.free 10 (.free 11 (.free 13 (.free 14 (.free 15 (.free 16 (.pure 12 (.pure 17 (.run 18 (.swi [] (.free 19 (.fin)))))))))))))))))))))) [18, 19] (fun w' => w'.cell? ⟨D, k, none⟩ = some (.bool true) ∧ w'.cell? ⟨M, k, none⟩ = some (.bool true) ∧ w'.cell? ⟨Ib, 0, none⟩ = some (.func (.func 72) #[] #[.pointer (some ⟨A, 0, none⟩)]) ∧ w'.cell? ⟨g, o + k * 2, none⟩ = some (.int .i64 v.1)) (by kernel_rfl) (by kernel_rfl) ⟨r1, r2, i0, d0⟩ ?_
                  first | (refine wpRO_free rfl rfl _ (fun w' => by go_simp; exact Gives.mk _ _) (fun K hK => ?_); go_simp; refine hK _ ?_; clear hK K) | (refine wpRO_skipF rfl rfl (fun K hK => ?_); go_simp; refine hK _ ?_; clear hK K)
                  first | (refine wpRO_free rfl rfl _ (fun w' => by go_simp; exact Gives.mk _ _) (fun K hK => ?_); go_simp; refine hK _ ?_; clear hK K) | (refine wpRO_skipF rfl rfl (fun K hK => ?_); go_simp; refine hK _ ?_; clear hK K)
                  first | (refine wpRO_free rfl rfl _ (fun w' => by go_simp; exact Gives.mk _ _) (fun K hK => ?_); go_simp; refine hK _ ?_; clear hK K) | (refine wpRO_skipF rfl rfl (fun K hK => ?_); go_simp; refine hK _ ?_; clear hK K)
                  first | (refine wpRO_pure rfl rfl _ (fun w' hG => by obtain ⟨g0, g1, g2, g3⟩ := hG; exact gives_agg2 rfl (by decide +kernel) rfl (by assumption) (by assumption)) (fun K hK => ?_); go_simp; refine hK _ ?_; clear hK K) | (refine wpRO_pure rfl rfl _ (fun w' hG => by obtain ⟨g0, g1, g2, g3⟩ := hG; go_simp; exact Gives.mk _ _) (fun K hK => ?_); go_simp; refine hK _ ?_; clear hK K) | (refine wpRO_skip rfl rfl (fun K hK => ?_); go_simp; refine hK _ ?_; clear hK K)
                  first | (refine wpRO_free rfl rfl _ (fun w' => by go_simp; exact Gives.mk _ _) (fun K hK => ?_); go_simp; refine hK _ ?_; clear hK K) | (refine wpRO_skipF rfl rfl (fun K hK => ?_); go_simp; refine hK _ ?_; clear hK K)
                  first | (refine wpRO_free rfl rfl _ (fun w' => by go_simp; exact Gives.mk _ _) (fun K hK => ?_); go_simp; refine hK _ ?_; clear hK K) | (refine wpRO_skipF rfl rfl (fun K hK => ?_); go_simp; refine hK _ ?_; clear hK K)
                  first | (refine wpRO_free rfl rfl _ (fun w' => by go_simp; exact Gives.mk _ _) (fun K hK => ?_); go_simp; refine hK _ ?_; clear hK K) | (refine wpRO_skipF rfl rfl (fun K hK => ?_); go_simp; refine hK _ ?_; clear hK K)
                  first | (refine wpRO_free rfl rfl _ (fun w' => by go_simp; exact Gives.mk _ _) (fun K hK => ?_); go_simp; refine hK _ ?_; clear hK K) | (refine wpRO_skipF rfl rfl (fun K hK => ?_); go_simp; refine hK _ ?_; clear hK K)
                  first | (refine wpRO_pure rfl rfl _ (fun w' hG => by obtain ⟨g0, g1, g2, g3⟩ := hG; exact gives_agg2 rfl (by decide +kernel) rfl (by assumption) (by assumption)) (fun K hK => ?_); go_simp; refine hK _ ?_; clear hK K) | (refine wpRO_pure rfl rfl _ (fun w' hG => by obtain ⟨g0, g1, g2, g3⟩ := hG; go_simp; exact Gives.mk _ _) (fun K hK => ?_); go_simp; refine hK _ ?_; clear hK K) | (refine wpRO_skip rfl rfl (fun K hK => ?_); go_simp; refine hK _ ?_; clear hK K)
                  first | (refine wpRO_free rfl rfl _ (fun w' => by go_simp; exact Gives.mk _ _) (fun K hK => ?_); go_simp; refine hK _ ?_; clear hK K) | (refine wpRO_skipF rfl rfl (fun K hK => ?_); go_simp; refine hK _ ?_; clear hK K)
                  first | (refine wpRO_free rfl rfl _ (fun w' => by go_simp; exact Gives.mk _ _) (fun K hK => ?_); go_simp; refine hK _ ?_; clear hK K) | (refine wpRO_skipF rfl rfl (fun K hK => ?_); go_simp; refine hK _ ?_; clear hK K)
                  first | (refine wpRO_free rfl rfl _ (fun w' => by go_simp; exact Gives.mk _ _) (fun K hK => ?_); go_simp; refine hK _ ?_; clear hK K) | (refine wpRO_skipF rfl rfl (fun K hK => ?_); go_simp; refine hK _ ?_; clear hK K)
                  first | (refine wpRO_free rfl rfl _ (fun w' => by go_simp; exact Gives.mk _ _) (fun K hK => ?_); go_simp; refine hK _ ?_; clear hK K) | (refine wpRO_skipF rfl rfl (fun K hK => ?_); go_simp; refine hK _ ?_; clear hK K)
                  first | (refine wpRO_free rfl rfl _ (fun w' => by go_simp; exact Gives.mk _ _) (fun K hK => ?_); go_simp; refine hK _ ?_; clear hK K) | (refine wpRO_skipF rfl rfl (fun K hK => ?_); go_simp; refine hK _ ?_; clear hK K)
                  first | (refine wpRO_free rfl rfl _ (fun w' => by go_simp; exact Gives.mk _ _) (fun K hK => ?_); go_simp; refine hK _ ?_; clear hK K) | (refine wpRO_skipF rfl rfl (fun K hK => ?_); go_simp; refine hK _ ?_; clear hK K)
                  first | (refine wpRO_free rfl rfl _ (fun w' => by go_simp; exact Gives.mk _ _) (fun K hK => ?_); go_simp; refine hK _ ?_; clear hK K) | (refine wpRO_skipF rfl rfl (fun K hK => ?_); go_simp; refine hK _ ?_; clear hK K)
                  first | (refine wpRO_pure rfl rfl _ (fun w' hG => by obtain ⟨g0, g1, g2, g3⟩ := hG; exact gives_agg2 rfl (by decide +kernel) rfl (by assumption) (by assumption)) (fun K hK => ?_); go_simp; refine hK _ ?_; clear hK K) | (refine wpRO_pure rfl rfl _ (fun w' hG => by obtain ⟨g0, g1, g2, g3⟩ := hG; go_simp; exact Gives.mk _ _) (fun K hK => ?_); go_simp; refine hK _ ?_; clear hK K) | (refine wpRO_skip rfl rfl (fun K hK => ?_); go_simp; refine hK _ ?_; clear hK K)
                  first | (refine wpRO_pure rfl rfl _ (fun w' hG => by obtain ⟨g0, g1, g2, g3⟩ := hG; exact gives_agg2 rfl (by decide +kernel) rfl (by assumption) (by assumption)) (fun K hK => ?_); go_simp; refine hK _ ?_; clear hK K) | (refine wpRO_pure rfl rfl _ (fun w' hG => by obtain ⟨g0, g1, g2, g3⟩ := hG; go_simp; exact Gives.mk _ _) (fun K hK => ?_); go_simp; refine hK _ ?_; clear hK K) | (refine wpRO_skip rfl rfl (fun K hK => ?_); go_simp; refine hK _ ?_; clear hK K)
                  refine wpRO_skipR rfl rfl (fun K hK => ?_)
                  go_simp
                  refine hK _ ?_
                  clear hK K
                  refine wpRO_swi (fun _ => True) trivial ?_
                  first | (refine wpRO_free rfl rfl _ (fun w' => by go_simp; exact Gives.mk _ _) (fun K hK => ?_); go_simp; refine hK _ ?_; clear hK K) | (refine wpRO_skipF rfl rfl (fun K hK => ?_); go_simp; refine hK _ ?_; clear hK K)
                  refine wpRO_fin ?_
                  have HCC := (show ((true && !true) && liveR t2 v.1) = false from rfl)
                  go_wp2_with fail
                  go_roundw
                  case rel => exact ⟨k + 1, more, by omega, by go_num, rfl, SKIP.out _ ((Keeps.refl _ _).drew) HCC⟩
                  case measure => simp [intOf]; omega
            · obtain rfl : k = regs.length := by omega
              obtain ⟨done, hmi, h1, h2, h3⟩ := RMore.next GF.out HUN.out GE2.out hsc
              have HMI := Lib.hid hmi
              have hc2 := cntF_blk h3
              have HC2 := Lib.hid hc2
              clear hmi h3 hsc hc2
              go_wp2_with fail
              go_roundw
              case rel => exact ⟨more, done, rfl, HMI.out⟩
              case measure =>
                rw [HCN.out, HC2.out]
                cases more
                · show 2 * unN done + 0 < 2 * unN items + 1
                  omega
                · have := h2 rfl
                  show 2 * unN done + 1 < 2 * unN items + 1
                  omega

end Go.Proofs.Ytjifdalflepcoaa
