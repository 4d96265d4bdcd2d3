/- Drawn networks: l12Net, MakeNetwork. -/
import Derived.Test.YtlgjddgajdjllaaGreatDoorQNetD
set_option linter.unusedSimpArgs false
set_option linter.unusedVariables false
namespace Go.Proofs.YtlgjddgajdjllaaGreatDoor
open Go.RowKit
theorem HeldX.setB5 {ex : Option Nat} {a w : World} {L : List Asn} {b k : Nat} {T : TypeId} {p0 p1 p2 p3 p4 : Value} (h : HeldX ex a w L) (hk : L[k]? = some (aB b T [p0, p1, p2, p3, p4])) (x0 x1 x2 x3 x4 : Value) :
    HeldX ex a (((((w.setCell ⟨b, 0, none⟩ x0).setCell ⟨b, 1, none⟩ x1).setCell ⟨b, 2, none⟩ x2).setCell ⟨b, 3, none⟩ x3).setCell ⟨b, 4, none⟩ x4) (L.set k (aB b T [x0, x1, x2, x3, x4])) := by
  have hlt : k < L.length := (List.getElem?_eq_some_iff.1 hk).1
  have h1 := h.setB hk 0 x0
  have h2 := h1.setB (List.getElem?_set_self hlt) 1 x1
  rw [set_set_same] at h2
  have h3 := h2.setB (List.getElem?_set_self hlt) 2 x2
  rw [set_set_same] at h3
  have h4 := h3.setB (List.getElem?_set_self hlt) 3 x3
  rw [set_set_same] at h4
  have h5 := h4.setB (List.getElem?_set_self hlt) 4 x4
  rw [set_set_same] at h5
  exact h5
theorem HeldX.join {ex ob : Option Nat} {a w w' : World} {L L2 : List Asn} (h : HeldX ex a w L) (h2 : HeldX ob w w' L2) (hob : ∀ q, ob = some q → a.heap.size ≤ q ∧ ∀ A ∈ L, q ∉ A.fp) : HeldX ex a w' (L ++ L2) :=
  ⟨gr_above h.grown h2.grown fun q hq => (hob q hq).1, fun A hA => by
    rcases List.mem_append.1 hA with hA | hA
    · obtain ⟨h3, h4⟩ := h.all A hA
      exact ⟨A.loc w w' (fun c hc => h2.grown.block c (A.lt w h3 c hc) fun e => (hob c e.symm).2 A hA hc) h3, h4⟩
    · obtain ⟨h3, h4⟩ := h2.all A hA
      exact ⟨h3, fun c hc => Nat.le_trans h.size (h4 c hc)⟩,
   List.pairwise_append.2 ⟨h.apart, h2.apart, fun A hA A2 hA2 c hc hc2 => by
    have h3 := A.lt w (h.all A hA).1 c hc
    have h4 := (h2.all A2 hA2).2 c hc2
    omega⟩⟩
end Go.Proofs.YtlgjddgajdjllaaGreatDoor
