/-
  Laws on the builtins make, clear, append, over blocks of cells. No program in sight.
-/
import Derived.Test.YtjifdalflepcoabBase
namespace Go.Proofs.Ytjifdalflepcoab
open Go.RowKit
set_option linter.unusedVariables false
set_option linter.unusedSimpArgs false

theorem Blk.setRow {w : World} {b : Nat} {c : List Value} {T : TypeId} (h : Blk w b c T) (d : List Value) : Blk (w.setRow b d.toArray) b d T :=
  setRow_heap w b _ _ T _ h

theorem heap_setRow_other (w : World) (g k : Nat) (cs : Array Value) (h : k ≠ g) : (w.setRow g cs).heap[k]? = w.heap[k]? := by
  unfold World.setRow
  simp only [Array.getElem?_modify]
  rw [if_neg (fun e => h e.symm)]

theorem size_setRow (w : World) (g : Nat) (cs : Array Value) : (w.setRow g cs).heap.size = w.heap.size := by simp [World.setRow]

theorem Blk.setRowOther {w : World} {b : Nat} {c : List Value} {T : TypeId} (h : Blk w b c T) {g : Nat} (hn : b ≠ g) (cs : Array Value) : Blk (w.setRow g cs) b c T := by
  unfold Blk at *
  rw [heap_setRow_other _ _ _ _ hn]; exact h

theorem Keeps.setRow {S : Nat → Prop} {w w' : World} (h : Keeps S w w') {g : Nat} (hp : S g ∨ w.heap.size ≤ g) (cs : Array Value) : Keeps S w (w'.setRow g cs) := by
  refine ⟨h.os, h.tape, h.output, by rw [size_setRow]; exact h.size, fun k hk hn => ?_⟩
  rw [heap_setRow_other _ _ _ _ (by rintro rfl; rcases hp with hp | hp; exact hn hp; omega)]
  exact h.block k hk hn

theorem madeCells_one (z : Value) (hz : z.cells = #[z]) (n : Nat) : madeCells z.cells n = (List.replicate n z).toArray := by
  rw [hz]
  apply Array.ext
  · simp [size_madeCells]
  · intro i h1 h2
    simp [madeCells, Nat.mod_one]

theorem zeroCells_one (z : Value) (hz : z.cells = #[z]) (n : Nat) : Builtin.zeroCells z.cells n = (List.replicate n z).toArray := by
  rw [hz]
  apply Array.ext
  · simp [Builtin.zeroCells]
  · intro i h1 h2
    simp [Builtin.zeroCells, Nat.mod_one]

/-- make of n one-celled elements. -/
theorem run_make_one {P : Program} (w : World) (t e : TypeId) (i : TypeInfo) (z : Value) (ht : P.underlying t = some (.slice e)) (hi : P.info? e = some i) (hz : i.zero = some z) (hc : z.cells = #[z]) (hs : i.size = 1)
    (n : Nat) (hbytes : i.bytes * n ≤ 281474976710656) (h63 : n ≤ 9223372036854775807) :
    (Instr.makeSlice t (.int .i64 n) (.int .i64 n)).run P w = .ok (.slice (some ⟨w.heap.size, 0, none⟩) n n) (w.alloc (.cells (List.replicate n z).toArray e)) := by
  have hb' : (i.bytes : Int) * (n : Int) ≤ 281474976710656 := by
    have h : ((i.bytes * n : Nat) : Int) ≤ 281474976710656 := by omega
    rwa [Int.natCast_mul] at h
  rw [run_make (P := P) w t e i z ht hi hz .i64 .i64 n n (by omega) (Int.le_refl _) hb' (by omega)]
  simp only [Int.toNat_natCast, hs, Nat.mul_one]
  rw [madeCells_one z hc]

/-- clear of a slice that is a whole block of one-celled elements. -/
theorem run_clear_one {P : Program} (w : World) (t ty e : TypeId) (z : Value) (ht : P.underlying t = some (.slice e)) (hz : ∀ w, (zeroValue e).run P w = .ok z w) (hc : z.cells = #[z]) (h1 : z.oneCell' = true)
    (g n cap : Nat) (c : List Value) (hg : Blk w g c e) (hn : c.length = n) :
    (Builtin.clear_ #[t] ty #[.slice (some ⟨g, 0, none⟩) n cap]).run P w = .ok (.tuple #[]) (w.setRow g (List.replicate n z).toArray) := by
  subst hn
  cases c with
  | nil =>
    have : w.setRow g (List.replicate 0 z).toArray = w := by
      have := setRow_self w g _ e (0, 0) hg
      simpa using this
    simp only [List.length_nil]
    rw [this]
    simp [Builtin.clear_, run_underlying ht]
  | cons a l =>
    have hst := run_storeCells_at P g 0 e (List.replicate (l.length + 1) z) 0 (a :: l).toArray w hg (by simp) (by intro v hv; rw [(List.mem_replicate.1 hv).2]; exact h1)
    simp only [Nat.add_zero, List.take_zero, List.nil_append, Nat.zero_add, List.length_replicate] at hst
    simp only [List.length_cons]
    have hd : List.drop (l.length + 1) (a :: l) = [] := by simp
    simp only [List.toList_toArray, hd, List.append_nil] at hst
    simp [Builtin.clear_, run_underlying ht, hz, zeroCells_one z hc, hst]

/-- A slice value at 'ao' reads as the cells xs. -/
def Rd (w : World) (ao : Option Addr) (xs : List Value) : Prop :=
  xs ≠ [] → ∃ g o, ao = some ⟨g, o, none⟩ ∧ g < w.heap.size ∧ ∀ j, j < xs.length → w.cell? ⟨g, o + j, none⟩ = xs[j]?

theorem Rd.nil (w : World) (ao : Option Addr) : Rd w ao [] := fun h => (h rfl).elim

theorem Rd.keep {w w' : World} {ao : Option Addr} {xs : List Value} {S : Nat → Prop} (h : Rd w ao xs) (k : Keeps S w w') (hn : ∀ a, ao = some a → a.block < w.heap.size → ¬ S a.block) : Rd w' ao xs := by
  intro hx
  obtain ⟨g, o, rfl, hg, hc⟩ := h hx
  refine ⟨g, o, rfl, Nat.lt_of_lt_of_le hg k.size, fun j hj => ?_⟩
  rw [← hc j hj]
  exact World.cell?_of_block (w := w) (a := ⟨g, o + j, none⟩) (k.block g hg (hn _ rfl hg))

theorem Rd.blk {w : World} {g : Nat} {c : List Value} {T : TypeId} (h : Blk w g c T) (o : Nat) (xs : List Value) (hx : (c.drop o).take xs.length = xs) : Rd w (some ⟨g, o, none⟩) xs := by
  intro _
  refine ⟨g, o, rfl, h.lt, fun j hj => ?_⟩
  rw [h.cell]
  have : ((c.drop o).take xs.length)[j]? = xs[j]? := by rw [hx]
  rw [← this, List.getElem?_take, if_pos hj, List.getElem?_drop]

/-- One cell of a list of integers. -/
theorem Rd.int {w : World} {ao : Option Addr} {k : IntKind} {l : List Int} (h : Rd w ao (l.map (Value.int k))) (i : Nat) (hi : i < l.length) :
    ∃ g o, ao = some ⟨g, o, none⟩ ∧ w.cell? ⟨g, o + i, none⟩ = some (.int k (l.getD i 0)) := by
  obtain ⟨g, o, rfl, _, hc⟩ := h (by intro e; simp at e; subst e; simp at hi)
  refine ⟨g, o, rfl, ?_⟩
  rw [hc i (by simpa using hi)]
  simp [List.getD, hi]

def ownB (v : Value) (k : Nat) : Prop := v.ownBlock = some k

/-- A slice value v of n elements of type e, 'size' cells each, that holds the cells xs; its room may be written. -/
def Sl (w : World) (e size : Nat) (v : Value) (n : Nat) (xs : List Value) : Prop :=
  xs.length = n * size ∧ ((v = .slice none 0 0 ∧ n = 0) ∨
    ∃ g o cap cur, v = .slice (some ⟨g, o, none⟩) n cap ∧ Blk w g cur e ∧ n ≤ cap ∧ cap ≤ maxLen ∧ o + cap * size ≤ cur.length ∧ (cur.drop o).take (n * size) = xs)

theorem Sl.nil (w : World) (e size : Nat) : Sl w e size (.slice none 0 0) 0 [] := ⟨by simp, .inl ⟨rfl, rfl⟩⟩

theorem Sl.own {w : World} {e size : Nat} {v : Value} {n : Nat} {xs : List Value} (h : Sl w e size v n xs) {k : Nat} (hk : ownB v k) : k < w.heap.size ∧ ∃ cur, Blk w k cur e := by
  obtain ⟨_, ⟨rfl, _⟩ | ⟨g, o, cap, cur, rfl, hb, _⟩⟩ := h
  · simp [ownB, Value.ownBlock] at hk
  · simp [ownB, Value.ownBlock] at hk; subst hk; exact ⟨hb.lt, _, hb⟩

theorem Sl.keep {w w' : World} {e size : Nat} {v : Value} {n : Nat} {xs : List Value} {S : Nat → Prop} (h : Sl w e size v n xs) (k : Keeps S w w') (hn : ∀ g, ownB v g → ¬ S g) : Sl w' e size v n xs := by
  refine ⟨h.1, ?_⟩
  rcases h.2 with h | ⟨g, o, cap, cur, rfl, hb, r⟩
  · exact .inl h
  · exact .inr ⟨g, o, cap, cur, rfl, k.blk hb (hn g rfl), r⟩

theorem Sl.rd {w : World} {e size : Nat} {v : Value} {n : Nat} {xs : List Value} (h : Sl w e size v n xs) : ∃ ao cap, v = .slice ao n cap ∧ Rd w ao xs ∧ n ≤ maxLen ∧ n ≤ cap := by
  obtain ⟨hl, ⟨rfl, rfl⟩ | ⟨g, o, cap, cur, rfl, hb, h1, h2, h3, h4⟩⟩ := h
  · refine ⟨none, 0, rfl, ?_, Nat.zero_le _, Nat.le_refl _⟩
    have : xs = [] := by simpa using hl
    subst this; exact Rd.nil _ _
  · exact ⟨_, cap, rfl, Rd.blk hb o xs (by rw [hl]; exact h4), Nat.le_trans h1 h2, h1⟩

theorem Sl.len {w : World} {e size : Nat} {v : Value} {n : Nat} {xs : List Value} (h : Sl w e size v n xs) : xs.length = n * size := h.1

theorem addr_add (g o j : Nat) : (⟨g, o, none⟩ : Addr).add j = ⟨g, o + j, none⟩ := by unfold Addr.add; split <;> simp_all

/-- append: what it gives, whether there was room or not. -/
theorem run_app {P : Program} (w : World) (t ty e : TypeId) (i : TypeInfo) (z : Value) (size bytes : Nat) (ht : P.underlying t = some (.slice e)) (hi : P.info? e = some i) (hz : i.zero = some z)
    (hsize : i.size = size) (hby : i.bytes = bytes) (hzs : z.cells.size = size) (hsz : 0 < size)
    (v : Value) (n : Nat) (xs : List Value) (hs : Sl w e size v n xs)
    (a : Addr) (m c : Nat) (news : List Value) (hl : news.length = m * size) (hnews : ∀ j u, news[j]? = some u → w.cell? (a.add j) = some u) (h1 : ∀ u ∈ news, u.oneCell' = true)
    (h63 : n + m ≤ maxLen) (hbytes : (n + m) * bytes ≤ 140737488355328) :
    ∃ v' w', (Builtin.append_ #[t, t] ty #[v, .slice (some a) m c]).run P w = .ok v' w' ∧ Sl w' e size v' (n + m) (xs ++ news) ∧ Keeps (ownB v) w w' ∧ (∀ k, ownB v' k → ownB v k ∨ w.heap.size ≤ k) := by
  subst hsize
  subst hby
  obtain ⟨hxl, hv⟩ := hs
  have hlen : (xs ++ news).length = (n + m) * i.size := by rw [List.length_append, hxl, hl, Nat.add_mul]
  have h63' : n + m ≤ 9223372036854775807 := by simpa [maxLen] using h63
  have grown : ∀ (old : Nat) (S : Nat → Prop),
      Sl (w.drew.alloc (.cells (xs.toArray ++ news.toArray ++ Builtin.zeroCells z.cells (grownCap w (n + m) old e - (n + m))) e)) e i.size (.slice (some ⟨w.heap.size, 0, none⟩) (n + m) (grownCap w (n + m) old e)) (n + m) (xs ++ news) ∧
      Keeps S w (w.drew.alloc (.cells (xs.toArray ++ news.toArray ++ Builtin.zeroCells z.cells (grownCap w (n + m) old e - (n + m))) e)) := by
    intro old S
    have hge := grownCap_ge w (n + m) old e
    have hcm : grownCap w (n + m) old e ≤ maxLen := grownCap_le_maxLen w (n + m) old e h63
    refine ⟨⟨hlen, .inr ⟨w.heap.size, 0, _, _, rfl, Blk.newAt _ rfl rfl, hge, hcm, ?_, ?_⟩⟩, ((Keeps.refl _ _).drew).alloc _⟩
    · simp only [Array.length_toList, Array.size_append, List.size_toArray, size_zeroCells, hzs, hxl, hl, ← Nat.add_mul, Nat.zero_add]
      apply Nat.mul_le_mul_right
      omega
    · simp only [Array.toList_append, List.append_assoc, List.drop_zero]
      rw [← List.append_assoc, ← hlen]
      exact List.take_left
  rcases hv with ⟨rfl, rfl⟩ | ⟨g, o, cap, cur, rfl, hb, hnc, hcm, hoc, hx⟩
  · have hx : xs = [] := List.eq_nil_of_length_eq_zero (by simpa using hxl)
    subst hx
    by_cases hm : m = 0
    · subst hm
      have hn : news = [] := List.eq_nil_of_length_eq_zero (by simpa using hl)
      subst hn
      refine ⟨.slice none 0 0, w, ?_, Sl.nil _ _ _, Keeps.refl _ _, fun k hk => .inl hk⟩
      simp [Builtin.append_, run_underlying ht, sizeOf, typeInfo, hi, Builtin.lenOf, Builtin.firstCells, loadCells, loadCellsFrom]
    · have hr := run_append_nil (P := P) w t ty e i z ht hi hz a m c news hl hnews (by omega) (by omega) (by have hb := hbytes; simp only [Nat.zero_add] at hb; omega)
      have hgr := grown 0 (ownB (.slice none 0 0))
      simp only [Nat.zero_add, List.nil_append, Array.empty_append] at hgr ⊢
      refine ⟨_, _, hr, hgr.1, hgr.2, fun k hk => .inr ?_⟩
      simp [ownB, Value.ownBlock] at hk
      omega
  · by_cases hr : n + m ≤ cap
    · have hf := run_firstCells_some (P := P) w i.size m a m c news hl hnews
      have hfit : o + n * i.size + news.length ≤ cur.length := by
        have : (n + m) * i.size ≤ cap * i.size := Nat.mul_le_mul_right _ hr
        rw [Nat.add_mul] at this
        omega
      have hst := run_storeCells_at P g (o + n * i.size) e news 0 cur.toArray w hb (by simpa using hfit) h1
      simp only [Nat.add_zero] at hst
      refine ⟨.slice (some ⟨g, o, none⟩) (n + m) cap, w.setRow g (cur.take (o + n * i.size) ++ news ++ cur.drop (o + n * i.size + news.length)).toArray, ?_, ?_, ?_, ?_⟩
      · simp [Builtin.append_, run_underlying ht, sizeOf, typeInfo, hi, Builtin.lenOf, hr, hf, addr_add, hst]
      · refine ⟨hlen, .inr ⟨g, o, cap, _, rfl, Blk.setRow hb _, hr, hcm, ?_, ?_⟩⟩
        · simp
          omega
        · have h1 : (cur.take (o + n * i.size) ++ news ++ cur.drop (o + n * i.size + news.length)).drop o = (cur.drop o).take (n * i.size) ++ news ++ cur.drop (o + n * i.size + news.length) := by
            rw [List.append_assoc, List.drop_append_of_le_length (by simp; omega), List.drop_take, ← List.append_assoc]
            congr 3
            omega
          rw [h1, hx, ← hlen, List.take_append_of_le_length (by simp), List.take_length]
      · exact (Keeps.refl (ownB (.slice (some ⟨g, o, none⟩) n cap)) w).setRow (g := g) (.inl rfl) _
      · intro k hk; exact .inl hk
    · have holds : ∀ j u, xs[j]? = some u → w.cell? ((⟨g, o, none⟩ : Addr).add j) = some u := by
        intro j u hu
        have := (List.getElem?_eq_some_iff.1 hu).1
        rw [addr_add, hb.cell, ← hu, ← hx, List.getElem?_take, List.getElem?_drop, if_pos (by omega)]
      have hr := run_append_grow (P := P) w t ty e i z ht hi hz ⟨g, o, none⟩ n cap xs hxl holds a m c news hl hnews (by omega) (by omega) (growslice_fits (by omega) hbytes)
      have hgr := grown cap (ownB (.slice (some ⟨g, o, none⟩) n cap))
      refine ⟨_, _, hr, hgr.1, hgr.2, fun k hk => .inr ?_⟩
      simp [ownB, Value.ownBlock] at hk
      omega

/-- append in a walk. -/
theorem wpList_app {P : Program} {w : World} {ops : Array Oper} {rest : List Oper} {o : Oper} {a : Act} {Q : Exit → Act → World → Prop} (hgd : o.guard = none) (s x : Operand) (t : TypeId)
    (ho : o.op = .call { callee := .builtin .append, args := #[s, x], argTypes := #[t, t] })
    (e : TypeId) (i : TypeInfo) (z : Value) (size bytes : Nat) (ht : P.underlying t = some (.slice e)) (hi : P.info? e = some i) (hz : i.zero = some z)
    (hsize : i.size = size) (hby : i.bytes = bytes) (hzs : z.cells.size = size) (hsz : 0 < size)
    (v : Value) (n : Nat) (xs : List Value) (hs : a.eval s = v) (hown : Sl w e size v n xs)
    (ad : Addr) (m c : Nat) (news : List Value) (hx : a.eval x = .slice (some ad) m c) (hl : news.length = m * size) (hnews : ∀ j u, news[j]? = some u → w.cell? (ad.add j) = some u) (h1 : ∀ u ∈ news, u.oneCell' = true)
    (h63 : n + m ≤ maxLen) (hbytes : (n + m) * bytes ≤ 140737488355328)
    (h : ∀ v' w', Sl w' e size v' (n + m) (xs ++ news) → Keeps (ownB v) w w' → (∀ k, ownB v' k → ownB v k ∨ w.heap.size ≤ k) → wpList P ops Q rest (a.put o.dst v') w') : wpList P ops Q (o :: rest) a w := by
  refine wpList_plain hgd fun _ hK => ?_
  obtain ⟨v', w', hr, h2, h3, h4⟩ := run_app (P := P) w t o.type e i z size bytes ht hi hz hsize hby hzs hsz v n xs hown ad m c news hl hnews h1 h63 hbytes
  unfold Oper.wp execOp
  simp only [ho, resolve, invoke, builtin, Sem.run_bind, Sem.run_pure, Result.andThen_ok, List.map_toArray, List.map_cons, List.map_nil, hs, hx, hr]
  exact hK _ _ (h v' w' h2 h3 h4)

/-- The cells of a block that has just been laid. -/
theorem news_at (w : World) (T : TypeId) (a : Array Value) : ∀ (j : Nat) (u : Value), a.toList[j]? = some u → (w.alloc (.cells a T)).cell? ((⟨w.heap.size, 0, none⟩ : Addr).add j) = some u := by
  intro j u h
  rw [addr_add, (Blk.newAt (w := w) (T := T) a rfl rfl).cell, Nat.zero_add]
  exact h

/-- append where there is room: what it gives to the cell. -/
theorem run_app_room {P : Program} (w : World) (t ty e : TypeId) (i : TypeInfo) (size : Nat) (ht : P.underlying t = some (.slice e)) (hi : P.info? e = some i) (hsize : i.size = size)
    (g o n cap : Nat) (cur : List Value) (hb : Blk w g cur e) (a : Addr) (m c : Nat) (news : List Value) (hl : news.length = m * size) (hnews : ∀ j u, news[j]? = some u → w.cell? (a.add j) = some u) (h1 : ∀ u ∈ news, u.oneCell' = true)
    (hr : n + m ≤ cap) (hoc : o + cap * size ≤ cur.length) :
    (Builtin.append_ #[t, t] ty #[.slice (some ⟨g, o, none⟩) n cap, .slice (some a) m c]).run P w = .ok (.slice (some ⟨g, o, none⟩) (n + m) cap) (w.setRow g (cur.take (o + n * size) ++ news ++ cur.drop (o + n * size + news.length)).toArray) := by
  subst hsize
  have hf := run_firstCells_some (P := P) w i.size m a m c news hl hnews
  have hfit : o + n * i.size + news.length ≤ cur.length := by
    have : (n + m) * i.size ≤ cap * i.size := Nat.mul_le_mul_right _ hr
    rw [Nat.add_mul] at this
    omega
  have hst := run_storeCells_at P g (o + n * i.size) e news 0 cur.toArray w hb (by simpa using hfit) h1
  simp only [Nat.add_zero] at hst
  simp [Builtin.append_, run_underlying ht, sizeOf, typeInfo, hi, Builtin.lenOf, hr, hf, addr_add, hst]

/-- clear of a slice within a block. -/
theorem run_clear_at {P : Program} (w : World) (t ty e : TypeId) (z : Value) (ht : P.underlying t = some (.slice e)) (hz : ∀ w, (zeroValue e).run P w = .ok z w) (h1 : ∀ u ∈ z.cells, u.oneCell' = true) (hpos : 0 < z.cells.size)
    (g o n cap : Nat) (cur : List Value) (hb : Blk w g cur e) (hfit : o + n * z.cells.size ≤ cur.length) :
    ∃ zs : List Value, zs.length = n * z.cells.size ∧ (Builtin.clear_ #[t] ty #[.slice (some ⟨g, o, none⟩) n cap]).run P w = .ok (.tuple #[]) (w.setRow g (cur.take o ++ zs ++ cur.drop (o + zs.length)).toArray) := by
  refine ⟨(Builtin.zeroCells z.cells n).toList, by simp [size_zeroCells], ?_⟩
  cases n with
  | zero =>
    have hz0 : (Builtin.zeroCells z.cells 0).toList = [] := by simp [Builtin.zeroCells]
    have : w.setRow g (cur.take o ++ [] ++ cur.drop (o + 0)).toArray = w := by
      have := setRow_self w g _ e (0, 0) hb
      simpa using this
    rw [hz0]
    simp only [List.length_nil]
    rw [this]
    simp [Builtin.clear_, run_underlying ht]
  | succ n =>
    have hlen : (Builtin.zeroCells z.cells (n + 1)).toList.length = (n + 1) * z.cells.size := by simp [size_zeroCells]
    have hst := run_storeCells_at P g o e (Builtin.zeroCells z.cells (n + 1)).toList 0 cur.toArray w hb (by simp only [Nat.add_zero, hlen, List.size_toArray]; exact hfit) (by
      intro v hv
      simp only [Builtin.zeroCells, Array.toList_map, List.mem_map] at hv
      obtain ⟨i, _, rfl⟩ := hv
      apply h1
      have hm : i % z.cells.size < z.cells.size := Nat.mod_lt _ hpos
      rw [getElem!_pos z.cells _ hm]
      exact Array.getElem_mem hm)
    simp only [Nat.add_zero] at hst
    simp [Builtin.clear_, run_underlying ht, hz, hst]

end Go.Proofs.Ytjifdalflepcoab
