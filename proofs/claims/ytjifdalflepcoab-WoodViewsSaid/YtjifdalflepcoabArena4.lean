/-
  arena.Words, New, Things.
-/
import Derived.Test.YtjifdalflepcoabArena3
namespace Go.Proofs.Ytjifdalflepcoab
open Go.RowKit
set_option linter.unusedVariables false
set_option linter.unusedSimpArgs false

theorem info_i64 : (Try.prog.info? 2).map (fun i => (i.zero, i.size, i.bytes)) = some (some (.int .i64 0), 1, 8) := by kernel_rfl
theorem info_int : (Try.prog.info? 3).map (fun i => (i.zero, i.size, i.bytes)) = some (some (.int .i64 0), 1, 8) := by kernel_rfl

theorem nil_own {k : Nat} (h : ownB (.slice none 0 0) k) : False := by simp [ownB, Value.ownBlock] at h

/-- A new slice of numbers is returned; nothing that was there has turned. T: the type of its elements. -/
def NumsRet (T : TypeId) (w : World) (e : Ending) (w' : World) (l : List Int) : Prop :=
  ∃ ao cap, e = .returned (.slice ao l.length cap) ∧ Sl w' T 1 (.slice ao l.length cap) l.length (l.map (Value.int .i64)) ∧ Keeps (fun _ => False) w w' ∧ ∀ k, ownB (.slice ao l.length cap) k → w.heap.size ≤ k

set_option maxHeartbeats 2000000 in
set_option maxRecDepth 100000 in
theorem CloneI_c (a : Addr) (cap : Nat) (l : List Int) (w : World) (h : Rd w (some a) (l.map (Value.int .i64))) (hl : l.length ≤ 1000000) :
    Calls Try.prog 80 #[.slice (some a) l.length cap] w fun e w' => NumsRet 2 w e w' l := by
  obtain ⟨i0, hi, hz0, hz1, hz2⟩ := info_parts info_i64
  have Hi := Lib.hid hi; have Hz0 := Lib.hid hz0; have Hz1 := Lib.hid hz1; have Hz2 := Lib.hid hz2; clear hi hz0 hz1 hz2
  have hne := fun (wx : World) => Lib.run_eql_slice_nil (P := Try.prog) wx 22 2 (some a) l.length cap 0 0 Try.underlying22
  go_enter Try.func80, Try.ntmps80
  go_wp2_with (at_builtin; refine wpList_appR rfl (.tmp 5) (.tmp 6) 22 rfl 2 i0 (.int .i64 0) 1 8 Try.underlying22 Hi.out Hz0.out Hz1.out Hz2.out rfl (by decide) _ 0 [] rfl ⟨rfl, .inr ⟨w.heap.size, 0, 0, [], rfl, Blk.newAt _ rfl rfl, Nat.le_refl _, Nat.zero_le _, by simp, by simp⟩⟩ (some a) l.length cap (l.map (Value.int .i64)) rfl (by simp) (h.keep ((Keeps.refl (fun _ => False) w).alloc _) (fun _ _ _ h => h)) int_one' (by unfold maxLen; omega) (by omega) ?_)
  intro v2 w2 hs2 hk2 ho2
  go_wp2_with fail
  go_ret
  obtain ⟨ao, c2, rfl, _, _, _⟩ := hs2.rd
  refine ⟨ao, c2, rfl, hs2, ((Keeps.refl (fun _ => False) w).alloc _).then hk2 (fun j hj => by simp [ownB, Value.ownBlock] at hj; exact .inr (by omega)), fun j hj => ?_⟩
  rcases ho2 j hj with h | h
  · simp [ownB, Value.ownBlock] at h; omega
  · first | omega | (simp at h; omega)

/-- A new Arena is returned. -/
def ArenaRet (w : World) (n o : Int) (e : Ending) (w' : World) : Prop :=
  ∃ p g, e = .returned (.tuple #[.pointer (some ⟨p, 0, none⟩), .agg #[.int .i64 0, .int .i64 0]]) ∧ ArenaAt w' p g (Ar.new n o) ∧ Keeps (fun _ => False) w w' ∧ w.heap.size ≤ p ∧ w.heap.size ≤ g

section
variable {p g : Nat} {A : Ar}

set_option maxHeartbeats 2000000 in
set_option maxRecDepth 100000 in
theorem Words_c (w : World) (h : ArenaAt w p g A) :
    Calls Try.prog 18 #[.pointer (some ⟨p, 0, none⟩)] w fun e w' => NumsRet 2 w e w' A.ws := by
  have H := Lib.hid h
  obtain ⟨c0, -, -, -⟩ := h.cells
  have pl := h.hp.lt
  have o4 := h.ok.h4
  clear h
  go_enter Try.func18, Try.ntmps18
  go_wp2_with fail
  refine (CloneI_c ⟨g, 0, none⟩ A.ws.length A.ws _ (Rd.blk H.out.hg 0 _ (by simp only [List.drop_zero, List.take_length])) (by omega)).mono ?_
  rintro e w1 ⟨ao, cap, rfl, hs, hk, ho⟩
  go_wp2_with fail
  go_ret
  exact ⟨ao, cap, rfl, hs, hk, ho⟩

set_option maxHeartbeats 2000000 in
set_option maxRecDepth 100000 in
theorem ANew_no (n o : Int) (w : World) (h : Ar.fits n o = false) :
    Calls Try.prog 15 #[.int .i64 n, .int .i64 o] w fun e w' => e = .returned (.tuple #[.pointer none, .agg #[.int .i64 1, .int .i64 (-1)]]) ∧ Keeps (fun _ => False) w w' := by
  have hc : n < 16 ∨ 256 < n ∨ o < 0 ∨ 1024 < o := by
    by_cases h1 : 16 ≤ n
    · by_cases h2 : n ≤ 256
      · by_cases h3 : 0 ≤ o
        · by_cases h4 : o ≤ 1024
          · simp [Ar.fits, h1, h2, h3, h4] at h
          · omega
        · omega
      · omega
    · omega
  clear h
  by_cases c1 : n < 16
  · have d1 : decide (n < 16) = true := by simpa using c1
    go_enter Try.func15, Try.ntmps15
    go_wp2_with fail
    exact bodyPost_ret (v := .tuple #[.pointer none, .agg #[.int .i64 1, .int .i64 (-1)]]) (by simp [results, Try.results15, go_sem]) rfl ⟨rfl, ((Keeps.refl _ _).alloc _)⟩
  have d1 : decide (n < 16) = false := by simpa using c1
  by_cases c2 : 256 < n
  · have d2 : decide (256 < n) = true := by simpa using c2
    go_enter Try.func15, Try.ntmps15
    go_wp2_with fail
    exact bodyPost_ret (v := .tuple #[.pointer none, .agg #[.int .i64 1, .int .i64 (-1)]]) (by simp [results, Try.results15, go_sem]) rfl ⟨rfl, ((Keeps.refl _ _).alloc _)⟩
  have d2 : decide (256 < n) = false := by simpa using c2
  by_cases c3 : o < 0
  · have d3 : decide (o < 0) = true := by simpa using c3
    go_enter Try.func15, Try.ntmps15
    go_wp2_with fail
    exact bodyPost_ret (v := .tuple #[.pointer none, .agg #[.int .i64 1, .int .i64 (-1)]]) (by simp [results, Try.results15, go_sem]) rfl ⟨rfl, ((Keeps.refl _ _).alloc _)⟩
  have d3 : decide (o < 0) = false := by simpa using c3
  have d4 : decide (1024 < o) = true := by simp; omega
  go_enter Try.func15, Try.ntmps15
  go_wp2_with fail
  exact bodyPost_ret (v := .tuple #[.pointer none, .agg #[.int .i64 1, .int .i64 (-1)]]) (by simp [results, Try.results15, go_sem]) rfl ⟨rfl, ((Keeps.refl _ _).alloc _)⟩

set_option maxHeartbeats 2000000 in
set_option maxRecDepth 100000 in
theorem ANew_yes (n o : Int) (w : World) (h : Ar.fits n o = true) :
    Calls Try.prog 15 #[.int .i64 n, .int .i64 o] w fun e w' => ArenaRet w n o e w' := by
  have HOK := Lib.hid (Ar.new_ok h)
  simp [Ar.fits] at h
  obtain ⟨⟨⟨h1, h2⟩, h3⟩, h4⟩ := h
  obtain ⟨a, rfl⟩ : ∃ a : Nat, n = a := ⟨n.toNat, by omega⟩
  obtain ⟨b, rfl⟩ : ∃ b : Nat, o = b := ⟨o.toNat, by omega⟩
  have d1 : decide ((a : Int) < 16) = false := by simp; omega
  have d2 : decide (256 < (a : Int)) = false := by simp; omega
  have d3 : decide ((b : Int) < 0) = false := by simp
  have d4 : decide (1024 < (b : Int)) = false := by simp; omega
  obtain ⟨i0, hi, hz0, hz1, hz2⟩ := info_parts info_i64
  have hmk := fun (wx : World) => run_make_one (P := Try.prog) wx 22 2 i0 (.int .i64 0) Try.underlying22 hi hz0 rfl hz1 (a + b) (by rw [hz2]; omega) (by omega)
  have hcast : ((a + b : Nat) : Int) = (a : Int) + (b : Int) := by omega
  simp only [hcast] at hmk
  have HNEW := Lib.hid (show Ar.new a b = ⟨List.replicate (a + b) 0, a, 0, a⟩ by unfold Ar.new; congr 1)
  clear hi hz0 hz1 hz2 hcast
  go_enter Try.func15, Try.ntmps15
  go_wp2_with fail
  refine bodyPost_ret (v := .tuple #[.pointer (some ⟨w.heap.size + 2, 0, none⟩), .agg #[.int .i64 0, .int .i64 0]]) (by simp [results, Try.results15, go_sem]) rfl ⟨w.heap.size + 2, w.heap.size + 1, rfl, ?_, (((Keeps.refl _ _).alloc _).alloc _).alloc _, by omega, by omega⟩
  have hok := HOK.out
  rw [HNEW.out] at hok ⊢
  refine ⟨?_, ?_, hok⟩
  · refine Blk.newAt _ (by simp) ?_
    simp
  · refine (Blk.newAt _ (by simp) ?_).alloc _
    simp

/-- The arena's pointer within a closure's variable. -/
def BoxAt (w : World) (b p : Nat) : Prop := Blk w b [.pointer (some ⟨p, 0, none⟩)] 24

set_option maxHeartbeats 4000000 in
set_option maxRecDepth 100000 in
theorem List_c (b : Nat) (i j : Int) (w : World) (h : ArenaAt w p g A) (hb : BoxAt w b p) (hi : 0 ≤ i) (hi2 : i ≤ 1280) (hj : j ≤ 1280) :
    Calls Try.prog 86 #[.int .i64 i, .int .i64 j, .pointer (some ⟨b, 0, none⟩)] w fun e w' => NumsRet 3 w e w' (A.list 1300 i j) := by
  have H := Lib.hid h; have HB := Lib.hid hb
  have bl := hb.lt
  obtain ⟨i0, hi0, hz0, hz1, hz2⟩ := info_parts info_int
  have Hi := Lib.hid hi0; have Hz0 := Lib.hid hz0; have Hz1 := Lib.hid hz1; have Hz2 := Lib.hid hz2; clear hi0 hz0 hz1 hz2
  clear h hb
  go_enter Try.func86, Try.ntmps86
  go_wp2_with fail
  go_loopw [6, 7] (fun v k wr => ∃ (n : Nat) (c : Int) (done : List Int), k = .int .i64 c ∧ 0 ≤ c ∧ c ≤ 1300 ∧ done ++ A.list n c j = A.list 1300 i j ∧ (j - c).toNat < n ∧ done.length + (j - c).toNat ≤ 1300 ∧ Sl wr 3 1 v done.length (done.map (Value.int .i64)) ∧ Keeps (fun _ => False) w wr ∧ ∀ b, ownB v b → w.heap.size ≤ b) (fun _ k _ => (j - intOf k).toNat)
  case atStart =>
    exact ⟨1300, i, [], rfl, hi, by omega, rfl, by omega, by simp; omega, Sl.nil _ _ _, Keeps.refl _ _, fun b hb => (nil_own hb).elim⟩
  case round =>
    obtain ⟨n, c, done, rfl, hc0, hc1, hd, hn, hl, hs, hk, ho⟩ := hrel
    have HD := Lib.hid hd; have HS := Lib.hid hs; have HK := Lib.hid hk; have HO := Lib.hid ho
    have b0 := (hk.blk HB.out (fun h => h)).cell 0
    have bl2 := (hk.blk HB.out (fun h => h)).lt
    simp only [List.getElem?_cons_zero] at b0
    clear hd hs hk ho
    obtain ⟨ao, cap, rfl, -, -, -⟩ := HS.out.rd
    by_cases hlt : c < j
    · have hfl := A.thing_fields c
      obtain ⟨⟨k, m, e⟩, hT⟩ : ∃ t, A.thing c = t := ⟨_, rfl⟩
      rw [hT] at hfl
      dsimp only at hfl
      have HT := Lib.hid hT; clear hT
      go_wp2_with fail
      refine (Thing_c c _ (H.out.keep HK.out (fun h => h) (fun h => h))).mono ?_
      rintro e w1 ⟨rfl, rfl⟩
      rw [HT.out]
      dsimp only
      by_cases he : e = 0
      · subst he
        obtain ⟨n, rfl⟩ : ∃ q, n = q + 1 := ⟨n - 1, by omega⟩
        have HST := Lib.hid (Ar.list_step (n := n) hlt (by rw [HT.out]))
        go_wp2_with (at_builtin; refine wpList_app rfl (.tmp 25) (.tmp 27) 50 rfl 3 i0 (.int .i64 0) 1 8 Try.underlying50 Hi.out Hz0.out Hz1.out Hz2.out rfl (by decide) _ done.length (done.map (Value.int .i64)) rfl (HS.out.keep ((Keeps.refl (fun _ => False) wr).alloc _) (fun _ _ h => h)) ⟨wr.heap.size, 0, none⟩ 1 1 [.int .i64 c] rfl rfl (news_at wr 3 #[.int .i64 c]) (by intro u hu; simp at hu; subst hu; rfl) (by unfold maxLen; omega) (by omega) ?_)
        intro v2 w2 hs2 hk2 ho2
        have HK2 := Lib.hid ((HK.out.alloc (.cells #[.int .i64 c] 3)).then hk2 (fun b hb => .inr (HO.out b hb)))
        have HO2 : Hid (∀ b, ownB v2 b → w.heap.size ≤ b) := fun b hb => by
          rcases ho2 b hb with h | h
          · exact HO.out b h
          · have := HK.out.size; first | omega | (simp at h; omega)
        have HS2 := Lib.hid hs2
        clear hs2 hk2 ho2 b0 bl2
        go_wp2_with fail
        go_roundw
        case rel => exact ⟨n, c + 1 + m, done ++ [c], int_eq (by omega), by omega, by omega, by rw [← HD.out, HST.out, HT.out]; simp, by omega, by simp; omega, by simpa using HS2.out, HK2.out, HO2.out⟩
        case measure => simp [intOf]; omega
      · have heb : (e != 0) = true := by simpa using he
        have HE := Lib.hid (Ar.list_end (n := n) (j := j) (fun h => he (by have := h.2; rw [HT.out] at this; exact this)))
        clear he
        go_wp2_with fail
        go_ret
        have hd := HD.out
        rw [HE.out, List.append_nil] at hd
        rw [← hd]
        exact ⟨ao, cap, rfl, HS.out, HK.out, HO.out⟩
    · have HE := Lib.hid (Ar.list_end (A := A) (n := n) (i := c) (j := j) (fun h => hlt h.1))
      go_wp2_with fail
      go_ret
      have hd := HD.out
      rw [HE.out, List.append_nil] at hd
      rw [← hd]
      exact ⟨ao, cap, rfl, HS.out, HK.out, HO.out⟩

theorem listA (args : Array Value) (w : World) : (callFunc 86 args).run Try.prog w = .ok (.enter 86 args) w := by kernel_rfl

/-- Where things begin is returned, in two new slices; nothing that was there has turned. -/
def ThingsRet (A : Ar) (w : World) (e : Ending) (w' : World) : Prop :=
  ∃ ao ac bo bc, e = .returned (.tuple #[.slice ao A.things.1.length ac, .slice bo A.things.2.length bc]) ∧ Sl w' 3 1 (.slice ao A.things.1.length ac) A.things.1.length (A.things.1.map (Value.int .i64)) ∧
    Sl w' 3 1 (.slice bo A.things.2.length bc) A.things.2.length (A.things.2.map (Value.int .i64)) ∧ Keeps (fun _ => False) w w' ∧ (∀ k, ownB (.slice ao A.things.1.length ac) k → w.heap.size ≤ k) ∧ ∀ k, ownB (.slice bo A.things.2.length bc) k → w.heap.size ≤ k

set_option maxHeartbeats 4000000 in
set_option maxRecDepth 100000 in
theorem Things_c (w : World) (h : ArenaAt w p g A) :
    Calls Try.prog 34 #[.pointer (some ⟨p, 0, none⟩)] w fun e w' => ThingsRet A w e w' := by
  have o1 := h.ok.h1; have o2 := h.ok.h2; have o3 := h.ok.h3; have o4 := h.ok.h4
  have HLA : Hid (A.things = (A.list 1300 0 A.yng, A.list 1300 A.nur A.grn)) := rfl
  have ea := listA
  have hka := (Keeps.refl (fun _ => False) w).alloc (.cells #[.pointer (some ⟨p, 0, none⟩)] 24)
  have h1 := h.keep hka (fun h => h) (fun h => h)
  have hb : BoxAt (w.alloc (.cells #[.pointer (some ⟨p, 0, none⟩)] 24)) w.heap.size p := Blk.newAt _ rfl rfl
  have H1 := Lib.hid h1; have HB := Lib.hid hb; have HKA := Lib.hid hka
  clear h h1 hb hka
  go_enter Try.func34, Try.ntmps34
  go_wp2_with fail
  obtain ⟨-, c1, c2, c3⟩ := H1.out.cells
  have b0 := HB.out.cell 0
  have bl := HB.out.lt; have pl := H1.out.hp.lt
  simp only [List.getElem?_cons_zero] at b0
  generalize w.alloc (.cells #[.pointer (some ⟨p, 0, none⟩)] 24) = w1 at *
  refine wp_region_ro (.free 0 (.free 6 (.pure 1 (.free 2 (.free 3 (.pure 4 (.pure 7 (.free 8 (.free 9 (.pure 10 (.pure 11 (.free 12 (.free 13 (.pure 14 (.run 5 (.run 15 (.swi [] (.free 16 (.free 17 (.fin)))))))))))))))))))) [15, 16, 17] (fun w' => w'.cell? ⟨p, 1, none⟩ = some (.int .i64 A.nur) ∧ w'.cell? ⟨p, 2, none⟩ = some (.int .i64 A.yng) ∧ w'.cell? ⟨p, 3, none⟩ = some (.int .i64 A.grn) ∧ w'.cell? ⟨w.heap.size, 0, none⟩ = some (.pointer (some ⟨p, 0, none⟩))) (by kernel_rfl) (by kernel_rfl) ⟨c1, c2, c3, b0⟩ ?_
  first | (refine wpRO_free rfl rfl _ (fun w' => by go_simp; exact Gives.mk _ _) (fun K hK => ?_); go_simp; refine hK _ ?_; clear hK K) | (refine wpRO_skipF rfl rfl (fun K hK => ?_); go_simp; refine hK _ ?_; clear hK K)
  first | (refine wpRO_free rfl rfl _ (fun w' => by go_simp; exact Gives.mk _ _) (fun K hK => ?_); go_simp; refine hK _ ?_; clear hK K) | (refine wpRO_skipF rfl rfl (fun K hK => ?_); go_simp; refine hK _ ?_; clear hK K)
  first | (refine wpRO_pure rfl rfl _ (fun w' hG => by obtain ⟨g0, g1, g2, g3⟩ := hG; exact gives_agg2 rfl (by decide +kernel) rfl (by assumption) (by assumption)) (fun K hK => ?_); go_simp; refine hK _ ?_; clear hK K) | (refine wpRO_pure rfl rfl _ (fun w' hG => by obtain ⟨g0, g1, g2, g3⟩ := hG; go_simp; exact Gives.mk _ _) (fun K hK => ?_); go_simp; refine hK _ ?_; clear hK K) | (refine wpRO_skip rfl rfl (fun K hK => ?_); go_simp; refine hK _ ?_; clear hK K)
  first | (refine wpRO_free rfl rfl _ (fun w' => by go_simp; exact Gives.mk _ _) (fun K hK => ?_); go_simp; refine hK _ ?_; clear hK K) | (refine wpRO_skipF rfl rfl (fun K hK => ?_); go_simp; refine hK _ ?_; clear hK K)
  first | (refine wpRO_free rfl rfl _ (fun w' => by go_simp; exact Gives.mk _ _) (fun K hK => ?_); go_simp; refine hK _ ?_; clear hK K) | (refine wpRO_skipF rfl rfl (fun K hK => ?_); go_simp; refine hK _ ?_; clear hK K)
  first | (refine wpRO_pure rfl rfl _ (fun w' hG => by obtain ⟨g0, g1, g2, g3⟩ := hG; exact gives_agg2 rfl (by decide +kernel) rfl (by assumption) (by assumption)) (fun K hK => ?_); go_simp; refine hK _ ?_; clear hK K) | (refine wpRO_pure rfl rfl _ (fun w' hG => by obtain ⟨g0, g1, g2, g3⟩ := hG; go_simp; exact Gives.mk _ _) (fun K hK => ?_); go_simp; refine hK _ ?_; clear hK K) | (refine wpRO_skip rfl rfl (fun K hK => ?_); go_simp; refine hK _ ?_; clear hK K)
  first | (refine wpRO_pure rfl rfl _ (fun w' hG => by obtain ⟨g0, g1, g2, g3⟩ := hG; exact gives_agg2 rfl (by decide +kernel) rfl (by assumption) (by assumption)) (fun K hK => ?_); go_simp; refine hK _ ?_; clear hK K) | (refine wpRO_pure rfl rfl _ (fun w' hG => by obtain ⟨g0, g1, g2, g3⟩ := hG; go_simp; exact Gives.mk _ _) (fun K hK => ?_); go_simp; refine hK _ ?_; clear hK K) | (refine wpRO_skip rfl rfl (fun K hK => ?_); go_simp; refine hK _ ?_; clear hK K)
  first | (refine wpRO_free rfl rfl _ (fun w' => by go_simp; exact Gives.mk _ _) (fun K hK => ?_); go_simp; refine hK _ ?_; clear hK K) | (refine wpRO_skipF rfl rfl (fun K hK => ?_); go_simp; refine hK _ ?_; clear hK K)
  first | (refine wpRO_free rfl rfl _ (fun w' => by go_simp; exact Gives.mk _ _) (fun K hK => ?_); go_simp; refine hK _ ?_; clear hK K) | (refine wpRO_skipF rfl rfl (fun K hK => ?_); go_simp; refine hK _ ?_; clear hK K)
  first | (refine wpRO_pure rfl rfl _ (fun w' hG => by obtain ⟨g0, g1, g2, g3⟩ := hG; exact gives_agg2 rfl (by decide +kernel) rfl (by assumption) (by assumption)) (fun K hK => ?_); go_simp; refine hK _ ?_; clear hK K) | (refine wpRO_pure rfl rfl _ (fun w' hG => by obtain ⟨g0, g1, g2, g3⟩ := hG; go_simp; exact Gives.mk _ _) (fun K hK => ?_); go_simp; refine hK _ ?_; clear hK K) | (refine wpRO_skip rfl rfl (fun K hK => ?_); go_simp; refine hK _ ?_; clear hK K)
  first | (refine wpRO_pure rfl rfl _ (fun w' hG => by obtain ⟨g0, g1, g2, g3⟩ := hG; exact gives_agg2 rfl (by decide +kernel) rfl (by assumption) (by assumption)) (fun K hK => ?_); go_simp; refine hK _ ?_; clear hK K) | (refine wpRO_pure rfl rfl _ (fun w' hG => by obtain ⟨g0, g1, g2, g3⟩ := hG; go_simp; exact Gives.mk _ _) (fun K hK => ?_); go_simp; refine hK _ ?_; clear hK K) | (refine wpRO_skip rfl rfl (fun K hK => ?_); go_simp; refine hK _ ?_; clear hK K)
  first | (refine wpRO_free rfl rfl _ (fun w' => by go_simp; exact Gives.mk _ _) (fun K hK => ?_); go_simp; refine hK _ ?_; clear hK K) | (refine wpRO_skipF rfl rfl (fun K hK => ?_); go_simp; refine hK _ ?_; clear hK K)
  first | (refine wpRO_free rfl rfl _ (fun w' => by go_simp; exact Gives.mk _ _) (fun K hK => ?_); go_simp; refine hK _ ?_; clear hK K) | (refine wpRO_skipF rfl rfl (fun K hK => ?_); go_simp; refine hK _ ?_; clear hK K)
  first | (refine wpRO_pure rfl rfl _ (fun w' hG => by obtain ⟨g0, g1, g2, g3⟩ := hG; exact gives_agg2 rfl (by decide +kernel) rfl (by assumption) (by assumption)) (fun K hK => ?_); go_simp; refine hK _ ?_; clear hK K) | (refine wpRO_pure rfl rfl _ (fun w' hG => by obtain ⟨g0, g1, g2, g3⟩ := hG; go_simp; exact Gives.mk _ _) (fun K hK => ?_); go_simp; refine hK _ ?_; clear hK K) | (refine wpRO_skip rfl rfl (fun K hK => ?_); go_simp; refine hK _ ?_; clear hK K)
  refine wpRO_run rfl rfl (fun K hK => ?_); unfold gRun; go_simp
  refine (List_c w.heap.size 0 A.yng _ (H1.out.keep (Keeps.refl (fun _ => False) w1).drew (fun h => h) (fun h => h)) HB.out.drew (by omega) (by omega) (by omega)).mono ?_
  rintro e w2 ⟨ao, ac, rfl, hs2, hk2, ho2⟩
  have hkd := (Keeps.refl (fun _ => False) w1).drew.trans hk2
  have H2 := Lib.hid (H1.out.keep hkd (fun h => h) (fun h => h)); have HB2 := Lib.hid (show BoxAt w2 w.heap.size p from hkd.blk HB.out (fun h => h))
  have HS2 := Lib.hid hs2; have HKD := Lib.hid hkd
  have HO2 : Hid (∀ k, ownB (.slice ao (A.list 1300 0 A.yng).length ac) k → w.heap.size ≤ k) := fun k hk => by have h1 := ho2 k hk; have h2 := HKA.out.size; exact Nat.le_trans h2 h1
  refine hK _ _ (fun _ => ?gg) ?_
  case gg => obtain ⟨-, c1, c2, c3⟩ := H2.out.cells; exact ⟨c1, c2, c3, HB2.out.cell 0⟩
  clear hK K hs2 hkd hk2 ho2
  refine wpRO_chg rfl rfl rfl (fun K hK => ?_); unfold gRun; go_simp
  refine (List_c w.heap.size A.nur A.grn _ H2.out HB2.out (by omega) (by omega) (by omega)).mono ?_
  rintro e w3 ⟨bo, bc, rfl, hs3, hk3, ho3⟩
  have HS3 := Lib.hid hs3; have HS23 := Lib.hid (HS2.out.keep hk3 (fun _ _ h => h)); have HKE := Lib.hid ((HKA.out.trans HKD.out).trans hk3)
  have HO3 : Hid (∀ k, ownB (.slice bo (A.list 1300 A.nur A.grn).length bc) k → w.heap.size ≤ k) := fun k hk => by have h1 := ho3 k hk; have h2 := HKA.out.size; have h3 := HKD.out.size; exact Nat.le_trans (Nat.le_trans h2 h3) h1
  refine hK _ _ ?_
  clear hK K hs3 hk3 ho3 c1 c2 c3 b0
  refine wpRO_swi (fun _ => True) trivial ?_
  first | (refine wpRO_free rfl rfl _ (fun w' => by go_simp; exact Gives.mk _ _) (fun K hK => ?_); go_simp; refine hK _ ?_; clear hK K) | (refine wpRO_skipF rfl rfl (fun K hK => ?_); go_simp; refine hK _ ?_; clear hK K)
  first | (refine wpRO_free rfl rfl _ (fun w' => by go_simp; exact Gives.mk _ _) (fun K hK => ?_); go_simp; refine hK _ ?_; clear hK K) | (refine wpRO_skipF rfl rfl (fun K hK => ?_); go_simp; refine hK _ ?_; clear hK K)
  refine wpRO_fin ?_
  go_wp2_with fail
  go_ret2
  unfold ThingsRet
  rw [HLA.out]
  exact ⟨ao, ac, bo, bc, rfl, HS23.out, HS3.out, HKE.out, HO2.out, HO3.out⟩
end

end Go.Proofs.Ytjifdalflepcoab
