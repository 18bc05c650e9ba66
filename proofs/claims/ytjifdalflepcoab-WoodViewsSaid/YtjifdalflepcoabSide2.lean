/-
  side.Pop, side.At, side.Copy, and what they call of package slices.
-/
import Derived.Test.YtjifdalflepcoabSide
namespace Go.Proofs.Ytjifdalflepcoab
open Go.RowKit
set_option linter.unusedVariables false
set_option linter.unusedSimpArgs false

theorem entV_get : ∀ (l : List (Int × Int)) (i : Nat), i < l.length → (entV l)[i * 2]? = some (.int .i64 (l.getD i (0, 0)).1) ∧ (entV l)[i * 2 + 1]? = some (.int .i64 (l.getD i (0, 0)).2)
  | e :: l, 0, _ => by simp [entV]
  | e :: l, i + 1, h => by
    have ih := entV_get l i (by simpa using h)
    have h1 : (i + 1) * 2 = i * 2 + 1 + 1 := by omega
    have h2 : (i + 1) * 2 + 1 = i * 2 + 1 + 1 + 1 := by omega
    have e0 : entV (e :: l) = .int .i64 e.1 :: .int .i64 e.2 :: entV l := by simp [entV]
    rw [h2, h1, e0]
    simpa using ih

theorem Rd.ent {w : World} {ao : Option Addr} {l : List (Int × Int)} (h : Rd w ao (entV l)) (i : Nat) (hi : i < l.length) :
    ∃ g o, ao = some ⟨g, o, none⟩ ∧ g < w.heap.size ∧ w.cell? ⟨g, o + i * 2, none⟩ = some (.int .i64 (l.getD i (0, 0)).1) ∧ w.cell? ⟨g, o + i * 2 + 1, none⟩ = some (.int .i64 (l.getD i (0, 0)).2) := by
  have hl := entV_length l
  obtain ⟨g, o, rfl, hg, hc⟩ := h (by intro e; rw [e] at hl; simp at hl; omega)
  have hi2 := entV_get l i hi
  refine ⟨g, o, rfl, hg, ?_, ?_⟩
  · rw [hc _ (by omega)]; exact hi2.1
  · rw [show o + i * 2 + 1 = o + (i * 2 + 1) by omega, hc _ (by omega)]; exact hi2.2

set_option maxHeartbeats 1000000 in
theorem PopF_c (b : Nat) (x g t : Int) (w : World) (h : w.cell? ⟨b, 0, none⟩ = some (.int .i64 x)) (hb : b < w.heap.size) :
    Calls Try.prog 159 #[.agg #[.int .i64 g, .int .i64 t], .pointer (some ⟨b, 0, none⟩)] w fun e w' => e = .returned (.bool (g == x)) ∧ Keeps (fun _ => False) w w' := by
  go_enter Try.func159, Try.ntmps159
  go_wp2
  go_ret
  exact ⟨rfl, (Keeps.refl _ _).alloc _⟩

/-- The place of the first entry of a guardian; the length: none. -/
def findG (x : Int) : List (Int × Int) → Nat
  | [] => 0
  | e :: l => if e.1 = x then 0 else findG x l + 1

/-- As IndexFunc tells it. -/
def idxG (x : Int) (l : List (Int × Int)) : Int := if findG x l < l.length then (findG x l : Int) else -1

theorem findG_le (x : Int) : ∀ l, findG x l ≤ l.length
  | [] => Nat.le_refl _
  | e :: l => by simp only [findG]; split; omega; have := findG_le x l; simp; omega

theorem findG_stop {x : Int} : ∀ {l : List (Int × Int)} {k : Nat}, k < l.length → (∀ j, j < k → (l.getD j (0, 0)).1 ≠ x) → (l.getD k (0, 0)).1 = x → findG x l = k
  | e :: l, 0, _, _, h => by simp at h; simp [findG, h]
  | e :: l, k + 1, hk, hj, h => by
    have h0 := hj 0 (by omega)
    simp at h0
    simp only [findG, h0, if_false]
    rw [findG_stop (k := k) (by simpa using hk) (fun j hjk => by simpa using hj (j + 1) (by omega)) (by simpa using h)]

theorem findG_none {x : Int} : ∀ {l : List (Int × Int)}, (∀ j, j < l.length → (l.getD j (0, 0)).1 ≠ x) → findG x l = l.length
  | [], _ => rfl
  | e :: l, h => by
    have h0 := h 0 (by simp)
    simp at h0
    simp only [findG, h0, if_false]
    rw [findG_none (fun j hj => by simpa using h (j + 1) (by simpa using hj))]; rfl

set_option maxHeartbeats 1000000 in
set_option maxRecDepth 100000 in
theorem IndexFunc_c (ao : Option Addr) (cap b : Nat) (x : Int) (l : List (Int × Int)) (w : World) (h : Rd w ao (entV l)) (hc : w.cell? ⟨b, 0, none⟩ = some (.int .i64 x)) (hl : l.length ≤ 9223372036854775806) (hb : b < w.heap.size) :
    Calls Try.prog 158 #[.slice ao l.length cap, .func (.func 159) #[] #[.pointer (some ⟨b, 0, none⟩)]] w fun e w' =>
      e = .returned (.int .i64 (idxG x l)) ∧ Keeps (fun _ => False) w w' := by
  have HR := Lib.hid h; have HB := Lib.hid hc; clear h hc
  go_enter Try.func158, Try.ntmps158
  go_wp2_with fail
  go_loopw [8] (fun i wr => ∃ k : Nat, k ≤ l.length ∧ i = .int .i64 k ∧ Hid (∀ j, j < k → (l.getD j (0, 0)).1 ≠ x) ∧ Keeps (fun _ => False) w wr) (fun i _ => l.length - (intOf i).toNat)
  case atStart => exact ⟨0, Nat.zero_le _, rfl, (fun j hj => by omega), Keeps.refl _ _⟩
  case round =>
    obtain ⟨k, hk, rfl, hno, hkk⟩ := hrel
    have HK := Lib.hid hkk; clear hkk
    by_cases hlt : k < l.length
    · obtain ⟨g, o, rfl, _, hc0, hc1⟩ := (HR.out.keep HK.out (fun _ _ _ h => h)).ent k hlt
      have hbb : wr.cell? ⟨b, 0, none⟩ = some (.int .i64 x) := by
        rw [← HB.out]; exact World.cell?_of_block (w := w) (a := ⟨b, 0, none⟩) (HK.out.block b hb (fun h => h))
      have hbs : b < wr.heap.size := Nat.lt_of_lt_of_le hb HK.out.size
      generalize hv : l.getD k (0, 0) = v at *
      have HV := Lib.hid hv; clear hv
      cases he : (v.1 == x)
      · go_wp2_with (go_at_call 159; refine (PopF_c b x v.1 v.2 _ hbb hbs).mono ?_; rintro e w2 ⟨rfl, hk2⟩)
        go_roundw
        case rel => exact ⟨k + 1, by omega, by go_num, fun j hj => by
          by_cases e : j = k
          · subst e; rw [HV.out]; simpa using he
          · exact hno.out j (by omega), HK.out.trans hk2⟩
        case measure => simp [intOf]; omega
      · have HE := Lib.hid (findG_stop hlt hno.out (by rw [HV.out]; simpa using he))
        go_wp2_with (go_at_call 159; refine (PopF_c b x v.1 v.2 _ hbb hbs).mono ?_; rintro e w2 ⟨rfl, hk2⟩)
        go_ret
        exact ⟨ret_int (by unfold idxG; rw [HE.out, if_pos hlt]), HK.out.trans hk2⟩
    · obtain rfl : k = l.length := by omega
      have HE := Lib.hid (findG_none hno.out)
      go_wp2_with fail
      go_ret
      exact ⟨ret_int (by unfold idxG; rw [HE.out, if_neg (by omega)]), HK.out⟩

theorem one_entV {l : List (Int × Int)} {u : Value} (h : u ∈ entV l) : u.oneCell' = true := by
  simp only [entV, List.mem_flatMap] at h
  obtain ⟨e, _, he⟩ := h
  simp at he
  rcases he with rfl | rfl <;> rfl

theorem entV_cons (e : Int × Int) (l : List (Int × Int)) : entV (e :: l) = .int .i64 e.1 :: .int .i64 e.2 :: entV l := by simp [entV]

theorem entV_erase : ∀ {l : List (Int × Int)} {i : Nat}, i < l.length → entV (l.eraseIdx i) = (entV l).take (i * 2) ++ (entV l).drop ((i + 1) * 2)
  | e :: l, 0, _ => by simp [entV_cons]
  | e :: l, i + 1, h => by
    have ih := entV_erase (l := l) (i := i) (by simpa using h)
    have e1 : (i + 1) * 2 = i * 2 + 1 + 1 := by omega
    have e2 : (i + 1 + 1) * 2 = i * 2 + 1 + 1 + 1 + 1 := by omega
    rw [List.eraseIdx_cons_succ, entV_cons, entV_cons, ih, e2, e1]
    rfl

/-- A part cut out of a block. -/
theorem cut_row {cur news rest : List Value} {o k j : Nat} (hk : o + k ≤ cur.length) (hj : j = k + news.length) (tail : List Value) :
    (((cur.take (o + k) ++ news ++ tail).take (o + j) ++ rest).drop o).take j = (cur.drop o).take k ++ news := by
  subst hj
  have h1 : (cur.take (o + k) ++ news ++ tail).take (o + (k + news.length)) = cur.take (o + k) ++ news := by
    apply List.take_left'
    simp; omega
  rw [h1, List.append_assoc, List.drop_append_of_le_length (by simp; omega), List.drop_take, show o + k - o = k by omega, ← List.append_assoc]
  apply List.take_left'
  simp; omega

set_option maxHeartbeats 1000000 in
set_option maxRecDepth 100000 in
theorem Delete_c (g o cap i m : Nat) (l : List (Int × Int)) (cur : List Value) (w : World) (hb : Blk w g cur 170) (hn : l.length = i + 1 + m) (hcap : i + 1 + m ≤ cap) (hcm : cap ≤ 9223372036854775807) (hoc : o + cap * 2 ≤ cur.length)
    (hx : (cur.drop o).take (l.length * 2) = entV l) :
    Calls Try.prog 160 #[.slice (some ⟨g, o, none⟩) (i + 1 + m) cap, .int .i64 i, .int .i64 ((i : Int) + 1)] w fun e w' =>
      e = .returned (.slice (some ⟨g, o, none⟩) (i + m) cap) ∧ Sl w' 170 2 (.slice (some ⟨g, o, none⟩) (i + m) cap) (i + m) (entV (l.eraseIdx i)) ∧ Keeps (· = g) w w' := by
  obtain ⟨i0, hi0, hz0, hz1, hz2⟩ := info_parts info_entry
  have Hi := Lib.hid hi0; have Hz1 := Lib.hid hz1; clear hi0 hz0 hz1 hz2
  have HX := Lib.hid hx; have HB := Lib.hid hb; have HN := Lib.hid hn; clear hx hb hn
  have hne : ((i : Int) == (i : Int) + 1) = false := by simp; omega
  have b1 : (0 : Int) ≤ (i : Int) + 1 := by omega
  have b2 : (i : Int) + 1 ≤ ((i + 1 + m : Nat) : Int) := by omega
  have b3 : (i : Int) + 1 ≤ (i : Int) + 1 + (m : Int) := by omega
  have b4 : (i : Int) ≤ (cap : Int) := by omega
  have b5 : (i : Int) ≤ (i : Int) + 1 := by omega
  by_cases hcc : cap = i + 1
  · have hif : (if cap = i + 1 then some (⟨g, o, none⟩ : Addr) else some ⟨g, o + (i + 1) * 2, none⟩) = some ⟨g, o, none⟩ := if_pos hcc
    have hif2 : (if cap = i + m then some (⟨g, o, none⟩ : Addr) else some ⟨g, o + (i + m) * 2, none⟩) = some ⟨g, o + (i + m) * 2, none⟩ := if_neg (by omega)
    have HCC := Lib.hid hcc; clear hcc
    have hm0 : m ≤ 0 := by have := HCC.out; omega
    go_enter Try.func160, Try.ntmps160
    go_wp2_with fail
    refine wp_region_ord [(0, 0), (1, 0), (2, 0), (3, 0), (4, 0), (5, 0), (6, 1), (7, 0)] (fun _ => True) (by kernel_rfl) (by kernel_rfl) trivial ?_
    iterate 6 (refine wpOrd_pure rfl rfl _ (fun w' hG => by obtain ⟨_⟩ := hG; go_simp; exact Gives.mk _ _) (fun K hK => ?_); go_simp; refine hK _ ?_; clear hK K)
    refine wpOrd_run rfl rfl (fun K hK => ?_)
    refine gRun_app_room (.tmp 22) (.tmp 25) 127 rfl 170 i0 2 Try.underlying127 Hi.out Hz1.out g o i cap cur rfl HB.out ⟨g, o, none⟩ m (cap - (i + 1)) ((entV l).drop ((i + 1) * 2)) ?hxq ?hlq ?hnq ?h1q ?hrq hoc ?hkq
    case hxq => rfl
    case hlq => rw [List.length_drop, entV_length, HN.out]; omega
    case hnq =>
      intro j u hu
      have hj := (List.getElem?_eq_some_iff.1 hu).1
      rw [List.length_drop, entV_length, HN.out] at hj
      omega
    case h1q => intro u hu; exact one_entV (List.mem_of_mem_drop hu)
    case hrq => omega
    case hkq =>
      refine hK _ _ trivial ?_
      clear hK K
      have hb1 : Blk (w.drew.setRow g (cur.take (o + i * 2) ++ (entV l).drop ((i + 1) * 2) ++ cur.drop (o + i * 2 + ((entV l).drop ((i + 1) * 2)).length)).toArray) g _ 170 := Blk.setRow (w := w.drew) HB.out _
      have hk1 : Keeps (· = g) w (w.drew.setRow g (cur.take (o + i * 2) ++ (entV l).drop ((i + 1) * 2) ++ cur.drop (o + i * 2 + ((entV l).drop ((i + 1) * 2)).length)).toArray) := ((Keeps.refl (· = g) w).drew).setRow (g := g) (.inl rfl) _
      generalize hc1 : cur.take (o + i * 2) ++ (entV l).drop ((i + 1) * 2) ++ cur.drop (o + i * 2 + ((entV l).drop ((i + 1) * 2)).length) = c1 at *
      generalize w.drew.setRow g _ = w1 at *
      have hln : ((entV l).drop ((i + 1) * 2)).length = m * 2 := by rw [List.length_drop, entV_length, HN.out]; omega
      have hl1 : c1.length = cur.length := by
        rw [← hc1]
        simp only [List.length_append, List.length_take, List.length_drop, hln]; simp at hln; omega
      obtain ⟨zs, hzl, hclr⟩ := run_clear_at (P := Try.prog) w1 127 0 170 (.agg #[.int .i64 0, .int .i64 0]) Try.underlying127 (by intro w; kernel_rfl) (by intro u hu; simp [Value.cells] at hu; subst hu; rfl) (by decide) g (o + (i + m) * 2) (i + 1 + m - (i + m)) (cap - (i + m)) _ hb1 (by rw [hl1]; show o + (i + m) * 2 + (i + 1 + m - (i + m)) * 2 ≤ _; omega)
      generalize hc2 : c1.take (o + (i + m) * 2) ++ zs ++ c1.drop (o + (i + m) * 2 + zs.length) = c2 at *
      have HB2 := Lib.hid (hb1.setRow c2)
      have HK2 := Lib.hid (hk1.setRow (g := g) (.inl rfl) c2.toArray)
      have HL := Lib.hid hl1; have HZ := Lib.hid hzl; have HLN := Lib.hid hln; have HC1 := Lib.hid hc1; have HC2 := Lib.hid hc2
      clear hb1 hk1 hl1 hzl hln hc1 hc2
      iterate 1 (refine wpOrd_pure rfl rfl _ (fun w' hG => by obtain ⟨_⟩ := hG; go_simp; exact Gives.mk _ _) (fun K hK => ?_); go_simp; refine hK _ ?_; clear hK K)
      refine wpOrd_end ?_
      go_wp2_with fail
      go_ret
      refine ⟨rfl, ⟨?_, .inr ⟨g, o, cap, _, rfl, HB2.out, by omega, by unfold maxLen; omega, ?_, ?_⟩⟩, HK2.out⟩
      · rw [entV_length, List.length_eraseIdx_of_lt (by rw [HN.out]; omega), HN.out]; omega
      · have h1 := HL.out; have h2 := HZ.out
        have h3 : zs.length = (i + 1 + m - (i + m)) * 2 := h2
        rw [← HC2.out]
        simp only [List.length_append, List.length_take, List.length_drop]
        omega
      · rw [← HC2.out, ← HC1.out, List.append_assoc _ zs _, cut_row (by omega) (by rw [HLN.out]; omega), entV_erase (by rw [HN.out]; omega)]
        congr 1
        rw [← HX.out, HN.out, List.take_take, Nat.min_eq_left (by omega)]
  · go_enter Try.func160, Try.ntmps160
    go_wp2_with fail
    refine wp_region_ord [(0, 0), (1, 0), (2, 0), (3, 0), (4, 0), (5, 0), (6, 1), (7, 0)] (fun _ => True) (by kernel_rfl) (by kernel_rfl) trivial ?_
    iterate 6 (refine wpOrd_pure rfl rfl _ (fun w' hG => by obtain ⟨_⟩ := hG; go_simp; exact Gives.mk _ _) (fun K hK => ?_); go_simp; refine hK _ ?_; clear hK K)
    refine wpOrd_run rfl rfl (fun K hK => ?_)
    refine gRun_app_room (.tmp 22) (.tmp 25) 127 rfl 170 i0 2 Try.underlying127 Hi.out Hz1.out g o i cap cur rfl HB.out ⟨g, o + (i + 1) * 2, none⟩ m (cap - (i + 1)) ((entV l).drop ((i + 1) * 2)) ?hx ?hl ?hn ?h1 ?hr hoc ?hk
    case hx => rfl
    case hl => rw [List.length_drop, entV_length, HN.out]; omega
    case hn =>
      intro j u hu
      have hj := (List.getElem?_eq_some_iff.1 hu).1
      rw [List.length_drop, entV_length, HN.out] at hj
      rw [addr_add]
      show w.cell? ⟨g, o + (i + 1) * 2 + j, none⟩ = some u
      rw [HB.out.cell, ← hu, ← HX.out, HN.out, List.getElem?_drop, List.getElem?_take, if_pos (by omega), List.getElem?_drop]
      congr 1; omega
    case h1 => intro u hu; exact one_entV (List.mem_of_mem_drop hu)
    case hr => omega
    case hk =>
      refine hK _ _ trivial ?_
      clear hK K
      have hb1 : Blk (w.drew.setRow g (cur.take (o + i * 2) ++ (entV l).drop ((i + 1) * 2) ++ cur.drop (o + i * 2 + ((entV l).drop ((i + 1) * 2)).length)).toArray) g _ 170 := Blk.setRow (w := w.drew) HB.out _
      have hk1 : Keeps (· = g) w (w.drew.setRow g (cur.take (o + i * 2) ++ (entV l).drop ((i + 1) * 2) ++ cur.drop (o + i * 2 + ((entV l).drop ((i + 1) * 2)).length)).toArray) := ((Keeps.refl (· = g) w).drew).setRow (g := g) (.inl rfl) _
      generalize hc1 : cur.take (o + i * 2) ++ (entV l).drop ((i + 1) * 2) ++ cur.drop (o + i * 2 + ((entV l).drop ((i + 1) * 2)).length) = c1 at *
      generalize w.drew.setRow g _ = w1 at *
      have hln : ((entV l).drop ((i + 1) * 2)).length = m * 2 := by rw [List.length_drop, entV_length, HN.out]; omega
      have hl1 : c1.length = cur.length := by
        rw [← hc1]
        simp only [List.length_append, List.length_take, List.length_drop, hln]; simp at hln; omega
      obtain ⟨zs, hzl, hclr⟩ := run_clear_at (P := Try.prog) w1 127 0 170 (.agg #[.int .i64 0, .int .i64 0]) Try.underlying127 (by intro w; kernel_rfl) (by intro u hu; simp [Value.cells] at hu; subst hu; rfl) (by decide) g (o + (i + m) * 2) (i + 1 + m - (i + m)) (cap - (i + m)) _ hb1 (by rw [hl1]; show o + (i + m) * 2 + (i + 1 + m - (i + m)) * 2 ≤ _; omega)
      generalize hc2 : c1.take (o + (i + m) * 2) ++ zs ++ c1.drop (o + (i + m) * 2 + zs.length) = c2 at *
      have HB2 := Lib.hid (hb1.setRow c2)
      have HK2 := Lib.hid (hk1.setRow (g := g) (.inl rfl) c2.toArray)
      have HL := Lib.hid hl1; have HZ := Lib.hid hzl; have HLN := Lib.hid hln; have HC1 := Lib.hid hc1; have HC2 := Lib.hid hc2
      clear hb1 hk1 hl1 hzl hln hc1 hc2
      iterate 1 (refine wpOrd_pure rfl rfl _ (fun w' hG => by obtain ⟨_⟩ := hG; go_simp; exact Gives.mk _ _) (fun K hK => ?_); go_simp; refine hK _ ?_; clear hK K)
      refine wpOrd_end ?_
      go_wp2_with fail
      go_ret
      refine ⟨rfl, ⟨?_, .inr ⟨g, o, cap, _, rfl, HB2.out, by omega, by unfold maxLen; omega, ?_, ?_⟩⟩, HK2.out⟩
      · rw [entV_length, List.length_eraseIdx_of_lt (by rw [HN.out]; omega), HN.out]; omega
      · have h1 := HL.out; have h2 := HZ.out
        have h3 : zs.length = (i + 1 + m - (i + m)) * 2 := h2
        rw [← HC2.out]
        simp only [List.length_append, List.length_take, List.length_drop]
        omega
      · rw [← HC2.out, ← HC1.out, List.append_assoc _ zs _, cut_row (by omega) (by rw [HLN.out]; omega), entV_erase (by rw [HN.out]; omega)]
        congr 1
        rw [← HX.out, HN.out, List.take_take, Nat.min_eq_left (by omega)]

end Go.Proofs.Ytjifdalflepcoab
