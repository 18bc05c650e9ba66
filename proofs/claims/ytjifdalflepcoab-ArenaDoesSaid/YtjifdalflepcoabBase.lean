/-
  Base laws: blocks of cells, and what a call leaves alone. No program in sight.
-/
import Derived.WalkKit
import Derived.WalkSpells
import Derived.WalkLawsBesides
import Derived.Deep.QuietTactic
import Derived.BigQuiet
import Derived.Lib.Hide
namespace Go.Proofs.Ytjifdalflepcoab
open Go.RowKit
set_option linter.unusedVariables false
set_option linter.unusedSimpArgs false

theorem int_eq {k : IntKind} {a b : Int} (h : a = b) : Value.int k a = Value.int k b := by rw [h]
theorem ret_of {a b : Value} (h : a = b) : Ending.returned a = Ending.returned b := by rw [h]
theorem ret_int {k : IntKind} {a b : Int} (h : a = b) : Ending.returned (.int k a) = Ending.returned (.int k b) := by rw [h]
theorem ret_bool {a b : Bool} (h : a = b) : Ending.returned (.bool a) = Ending.returned (.bool b) := by rw [h]

/-- Block b holds just these cells, of type T, none frozen. -/
def Blk (w : World) (b : Nat) (c : List Value) (T : TypeId) : Prop := w.heap[b]? = some (.cells c.toArray T (0, 0))

theorem Blk.lt {w : World} {b : Nat} {c : List Value} {T : TypeId} (h : Blk w b c T) : b < w.heap.size := lt_of_block h

theorem Blk.cell {w : World} {b : Nat} {c : List Value} {T : TypeId} (h : Blk w b c T) (i : Nat) : w.cell? ⟨b, i, none⟩ = c[i]? := by
  unfold Blk at h; simp [World.cell?, h]

theorem Blk.free {w : World} {b : Nat} {c : List Value} {T : TypeId} (h : Blk w b c T) (i : Nat) : w.frozen? ⟨b, i, none⟩ = false := by
  unfold Blk at h; simp [World.frozen?, h]

theorem Blk.ne {w : World} {a b : Nat} {c d : List Value} {T U : TypeId} (h : Blk w a c T) (k : Blk w b d U) (hTU : T ≠ U) : a ≠ b := by
  rintro rfl
  unfold Blk at h k
  rw [h] at k
  simp at k
  exact hTU k.2

theorem Blk.setSame {w : World} {b : Nat} {c : List Value} {T : TypeId} (h : Blk w b c T) (i : Nat) (v : Value) : Blk (w.setCell ⟨b, i, none⟩ v) b (c.set i v) T := by
  unfold Blk at *
  simp [World.setCell, Array.getElem?_modify, h]

theorem Blk.setOther {w : World} {b : Nat} {c : List Value} {T : TypeId} (h : Blk w b c T) {a : Addr} (hn : b ≠ a.block) (v : Value) : Blk (w.setCell a v) b c T := by
  unfold Blk at *
  rw [Below.heap_setCell _ _ _ _ hn]; exact h

theorem Blk.alloc {w : World} {b : Nat} {c : List Value} {T : TypeId} (h : Blk w b c T) (o : Obj) : Blk (w.alloc o) b c T := by
  have := h.lt
  unfold Blk at *
  rw [Below.heap_alloc _ _ _ this]; exact h

theorem Blk.drew {w : World} {b : Nat} {c : List Value} {T : TypeId} (h : Blk w b c T) : Blk w.drew b c T := h

theorem Blk.drewN {w : World} {b : Nat} {c : List Value} {T : TypeId} (h : Blk w b c T) (n : Nat) : Blk (w.drewN n) b c T := by
  unfold Blk at *; rw [World.heap_drewN]; exact h

theorem Blk.new (w : World) (c : List Value) (T : TypeId) : Blk (w.alloc (.cells c.toArray T)) w.heap.size c T := by
  unfold Blk
  show (w.heap.push _)[w.heap.size]? = _
  simp

theorem Blk.newAt {w : World} {b : Nat} {c : List Value} {T : TypeId} (a : Array Value) (hb : b = w.heap.size) (hc : a.toList = c) : Blk (w.alloc (.cells a T)) b c T := by
  subst hb; subst hc
  simpa using Blk.new w a.toList T

/-- All blocks that were there, but those in S, are as they were. -/
structure Keeps (S : Nat → Prop) (w w' : World) : Prop where
  os : w'.os = w.os
  tape : w'.tape = w.tape
  output : w'.output = w.output
  size : w.heap.size ≤ w'.heap.size
  block : ∀ k, k < w.heap.size → ¬ S k → w'.heap[k]? = w.heap[k]?

theorem Keeps.refl (S : Nat → Prop) (w : World) : Keeps S w w := ⟨rfl, rfl, rfl, Nat.le_refl _, fun _ _ _ => rfl⟩

theorem Keeps.trans {S : Nat → Prop} {a b c : World} (h : Keeps S a b) (k : Keeps S b c) : Keeps S a c :=
  ⟨k.os.trans h.os, k.tape.trans h.tape, k.output.trans h.output, Nat.le_trans h.size k.size,
    fun i hi hn => (k.block i (Nat.lt_of_lt_of_le hi h.size) hn).trans (h.block i hi hn)⟩

theorem Keeps.mono {S T : Nat → Prop} {w w' : World} (h : Keeps S w w') (hST : ∀ k, k < w.heap.size → S k → T k) : Keeps T w w' :=
  ⟨h.os, h.tape, h.output, h.size, fun i hi hn => h.block i hi (fun hs => hn (hST i hi hs))⟩

theorem Keeps.blk {S : Nat → Prop} {w w' : World} (h : Keeps S w w') {b : Nat} {c : List Value} {T : TypeId} (k : Blk w b c T) (hn : ¬ S b) : Blk w' b c T := by
  have := h.block b k.lt hn
  unfold Blk at *; rw [this]; exact k

theorem Keeps.drew {S : Nat → Prop} {w w' : World} (h : Keeps S w w') : Keeps S w w'.drew := ⟨h.os, h.tape, h.output, h.size, h.block⟩

theorem Keeps.drewN {S : Nat → Prop} {w w' : World} (h : Keeps S w w') (n : Nat) : Keeps S w (w'.drewN n) := by
  induction n with
  | zero => exact h
  | succ n ih => exact ih.drew

theorem Keeps.alloc {S : Nat → Prop} {w w' : World} (h : Keeps S w w') (o : Obj) : Keeps S w (w'.alloc o) :=
  h.trans ⟨rfl, rfl, rfl, by simp, fun k hk _ => Below.heap_alloc _ _ _ hk⟩

theorem Keeps.setCell {S : Nat → Prop} {w w' : World} (h : Keeps S w w') {p : Addr} (hp : S p.block ∨ w.heap.size ≤ p.block) (u : Value) : Keeps S w (w'.setCell p u) := by
  refine ⟨h.os, h.tape, h.output, by simpa using h.size, fun k hk hn => ?_⟩
  rw [Below.heap_setCell _ _ _ _ (by rintro rfl; rcases hp with hp | hp; exact hn hp; omega)]
  exact h.block k hk hn

/-- Nothing at all that was there has turned. -/
theorem Keeps.below {S : Nat → Prop} {w w' : World} (h : Keeps S w w') (hS : ∀ k, k < w.heap.size → ¬ S k) : Below w.heap.size w w' :=
  ⟨h.os, h.tape, h.output, h.size, fun k hk => h.block k hk (hS k hk)⟩

/-- What was made since w₀ may be written: from w₀ on. -/
theorem Keeps.from {S : Nat → Prop} {w₀ w w' : World} (h₀ : Keeps S w₀ w) (h : Keeps (fun k => S k ∨ w₀.heap.size ≤ k) w w') : Keeps S w₀ w' :=
  ⟨h.os.trans h₀.os, h.tape.trans h₀.tape, h.output.trans h₀.output, Nat.le_trans h₀.size h.size,
    fun i hi hn => (h.block i (Nat.lt_of_lt_of_le hi h₀.size) (by rintro (hs | hs); exact hn hs; omega)).trans (h₀.block i hi hn)⟩

theorem Keeps.then {S T : Nat → Prop} {w₀ w w' : World} (h₀ : Keeps S w₀ w) (h : Keeps T w w') (hT : ∀ k, T k → S k ∨ w₀.heap.size ≤ k) : Keeps S w₀ w' :=
  h₀.from (h.mono fun k _ hk => hT k hk)

end Go.Proofs.Ytjifdalflepcoab
