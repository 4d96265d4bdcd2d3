/- The cells of boxes laid one behind the other. -/
import Derived.Test.YtodooalhbcoihaaDoorMem
namespace Go.Proofs.YtodooalhbcoihaaDoor
open Go.RowKit
set_option linter.unusedSimpArgs false
set_option linter.unusedVariables false

/-- The cells of three boxes, laid one behind the other. -/
theorem boxes3 (w : World) (A B C : Array Value) (ta tb tc : TypeId) :
    (∀ o, (((w.alloc (.cells A ta)).alloc (.cells B tb)).alloc (.cells C tc)).cell? ⟨w.heap.size, o, none⟩ = A[o]?) ∧
    (∀ o, (((w.alloc (.cells A ta)).alloc (.cells B tb)).alloc (.cells C tc)).cell? ⟨w.heap.size + 1, o, none⟩ = B[o]?) ∧
    (∀ o, (((w.alloc (.cells A ta)).alloc (.cells B tb)).alloc (.cells C tc)).cell? ⟨w.heap.size + 2, o, none⟩ = C[o]?) := by
  refine ⟨fun o => ?_, fun o => ?_, fun o => World.cell?_alloc_at _ _ _ _ (by simp)⟩
  · rw [World.cell?_alloc_past _ _ _ (by simp; omega), World.cell?_alloc_past _ _ _ (by simp), World.cell?_alloc_at _ _ _ _ rfl]
  · rw [World.cell?_alloc_past _ _ _ (by simp), World.cell?_alloc_at _ _ _ _ (by simp)]
theorem boxes2 (w : World) (A B : Array Value) (ta tb : TypeId) :
    (∀ o, ((w.alloc (.cells A ta)).alloc (.cells B tb)).cell? ⟨w.heap.size, o, none⟩ = A[o]?) ∧
    (∀ o, ((w.alloc (.cells A ta)).alloc (.cells B tb)).cell? ⟨w.heap.size + 1, o, none⟩ = B[o]?) := by
  refine ⟨fun o => ?_, fun o => World.cell?_alloc_at _ _ _ _ (by simp)⟩
  rw [World.cell?_alloc_past _ _ _ (by simp), World.cell?_alloc_at _ _ _ _ rfl]

end Go.Proofs.YtodooalhbcoihaaDoor
