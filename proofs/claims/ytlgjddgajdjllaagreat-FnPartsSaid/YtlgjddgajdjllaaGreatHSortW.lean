/- sortedInts, equalTensors, SortTensor, SameTensor, PermuteTensor of the program. -/
import Derived.Test.YtlgjddgajdjllaaGreatHPermW
import Derived.Test.YtlgjddgajdjllaaGreatHShelf
set_option linter.unusedSimpArgs false
set_option linter.unusedVariables false
namespace Go.Proofs.YtlgjddgajdjllaaGreat
open Go.RowKit
theorem heap_grow_lt {w : World} {os : Array Obj} {b : Nat} (h : b < w.heap.size) : (Sort.grow w os).heap[b]? = w.heap[b]? := Sort.heap_grow_old w os h
theorem grown_grow {w0 w : World} {r : Option Nat} (h : w0.grownBy w r) (os : Array Obj) : w0.grownBy (Sort.grow w os) r :=
  ⟨h.os, h.tape, h.output, by have := h.size; simp [Sort.grow]; omega, fun k hk hne => (heap_grow_lt (Nat.lt_of_lt_of_le hk h.size)).trans (h.block k hk hne)⟩
theorem sortL_length (l : List Int) : (sortL l).length = l.length := (sortL_perm l).length_eq
theorem sort_own {w : World} {B b cap : Nat} {l : List Int} (h : OwnI w B (.slice (some ⟨b, 0, none⟩) l.length cap) l) (hl : l.length ≤ 1000) :
    Calls Tryz.prog 101 #[.slice (some ⟨b, 0, none⟩) l.length cap] w fun e w' => e = .returned (.tuple #[]) ∧ OwnI w' B (.slice (some ⟨b, 0, none⟩) l.length cap) (sortL l) ∧ w.grownBy w' (some b) := by
  obtain ⟨rest, hP, rfl, _, hb, hm⟩ := h.part
  have hH : Sort.Holds (Value.int .i64) w b 0 l.toArray := fun j hj => by
    simp at hj
    obtain ⟨h1, h2⟩ := hP.cell (List.getElem?_eq_getElem hj)
    rw [Nat.zero_add] at h1 h2 ⊢
    exact ⟨by rw [h1]; simp [hj], h2⟩
  refine (Tryz.slices_Sort_int b 0 _ l w hH hP.blk.lt (by omega)).mono ?_
  rintro e w' ⟨rfl, q, os, rfl⟩
  have hlen : (sortL l).length = l.toArray.size := by simp [sortL_length]
  have e1 := Lib.sorted_world (Value.int .i64) w b 0 q l.toArray (sortL l) os hH hlen
  have e2 : (l.mergeSort fun x y => decide (x ≤ y)) = sortL l := rfl
  rw [e2, e1]
  have g1 : w.grownBy ((w.drewN q).setCells b 0 ((sortL l).map (Value.int .i64))) (some b) := grown_sets _ (grown_drewN (grown_refl w (some b)) q) 0
  have B1 := (hP.blk.ext ((Ext.refl w).drewN q)).sets ((sortL l).map (Value.int .i64)) 0 (by simp [sortL_length, ints])
  have hlt := B1.lt
  refine ⟨rfl, OwnI.of_part hb (l := l) (l' := sortL l) (rest := rest) (B1.block (heap_grow_lt hlt)) (sortL_length l) hm, grown_grow g1 os⟩
end Go.Proofs.YtlgjddgajdjllaaGreat
