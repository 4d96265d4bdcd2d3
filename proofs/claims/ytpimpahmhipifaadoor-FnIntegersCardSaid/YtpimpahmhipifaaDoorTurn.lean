/- Worlds in which only the blocks of a range have turned; slices of slices: compared and marked. -/
import Derived.Test.YtpimpahmhipifaaDoorRows2
import Derived.Test.YtpimpahmhipifaaDoorDecs
import Derived.Test.YtpimpahmhipifaaDoorSlices
namespace Go.Proofs.YtpimpahmhipifaaDoor
open Go.RowKit
set_option linter.unusedSimpArgs false
set_option linter.unusedVariables false

/-- w' is w with at most new blocks, and with the blocks from lo on and below hi turned. -/
structure Turn (lo hi : Nat) (w w' : World) : Prop where
  os : w'.os = w.os
  tape : w'.tape = w.tape
  output : w'.output = w.output
  size : w.heap.size ≤ w'.heap.size
  block : ∀ k, k < w.heap.size → (k < lo ∨ hi ≤ k) → w'.heap[k]? = w.heap[k]?
theorem Turn.refl (lo hi : Nat) (w : World) : Turn lo hi w w := ⟨rfl, rfl, rfl, Nat.le_refl _, fun _ _ _ => rfl⟩
theorem Turn.trans {lo hi : Nat} {a b c : World} (h : Turn lo hi a b) (k : Turn lo hi b c) : Turn lo hi a c :=
  ⟨k.os.trans h.os, k.tape.trans h.tape, k.output.trans h.output, Nat.le_trans h.size k.size, fun i hi ho => (k.block i (Nat.lt_of_lt_of_le hi h.size) ho).trans (h.block i hi ho)⟩
theorem Turn.wide {lo hi lo' hi' : Nat} {a b : World} (h : Turn lo hi a b) (h1 : lo' ≤ lo) (h2 : hi ≤ hi') : Turn lo' hi' a b :=
  ⟨h.os, h.tape, h.output, h.size, fun k hk ho => h.block k hk (by omega)⟩
theorem Turn.grown {lo hi : Nat} {w w' : World} {b : Option Nat} (h : w.grownBy w' b) (hb : ∀ k, b = some k → lo ≤ k ∧ k < hi) : Turn lo hi w w' :=
  ⟨h.os, h.tape, h.output, h.size, fun k hk ho => h.block k hk (fun e => by have := hb k e.symm; omega)⟩
theorem Turn.ext {lo hi : Nat} {w w' : World} (h : Ext w w') : Turn lo hi w w' :=
  ⟨h.below.os, h.below.tape, h.below.output, h.size, fun k hk _ => h.below.block k hk⟩
theorem Ext.turn {lo hi : Nat} {w0 w w' : World} (h : Ext w0 w) (t : Turn lo hi w w') (hl : w0.heap.size ≤ lo) : Ext w0 w' :=
  ⟨{ h.below with
      os := t.os.trans h.below.os, tape := t.tape.trans h.below.tape, output := t.output.trans h.below.output, size := Nat.le_trans h.below.size t.size
      block := fun k hk => (t.block k (Nat.lt_of_lt_of_le hk h.size) (by omega)).trans (h.below.block k hk) }⟩
theorem OwnI.turn {lo hi B : Nat} {w w' : World} {v : Value} {l : List Int} (h : OwnI w B v l) (t : Turn lo hi w w') (hd : hi ≤ B ∨ ∀ k, v.ownBlock = some k → k < lo) : OwnI w' B v l := by
  rcases h.own with h | ⟨b, rest, h1, rfl, h3, h4⟩
  · exact ⟨.inl h⟩
  · exact ⟨.inr ⟨b, rest, h1, rfl, h3.block (t.block b h3.lt (by
      rcases hd with hd | hd
      · exact .inr (Nat.le_trans hd h1)
      · exact .inl (hd b rfl))), h4⟩⟩

/-- The rows' lengths, together. -/
theorem sizeSS_drop {ll : List (List Int)} {j : Nat} {l : List Int} (h : ll.drop j = l :: ll.drop (j + 1)) : sizeSS (ll.drop j) = l.length + sizeSS (ll.drop (j + 1)) := by rw [h, sizeSS_cons]
theorem sizeSS_le (ll : List (List Int)) (j : Nat) : sizeSS (ll.drop j) ≤ sizeSS ll := by
  induction ll generalizing j with
  | nil => simp
  | cons l t ih =>
    cases j with
    | zero => simp
    | succ j => rw [List.drop_succ_cons, sizeSS_cons]; exact Nat.le_trans (ih j) (by omega)
end Go.Proofs.YtpimpahmhipifaaDoor
