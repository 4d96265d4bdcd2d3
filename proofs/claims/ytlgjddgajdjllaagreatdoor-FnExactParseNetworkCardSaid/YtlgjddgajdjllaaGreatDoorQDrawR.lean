/- Drawn rings, elements and numbers. -/
import Derived.Test.YtlgjddgajdjllaaGreatDoorQClosed
set_option linter.unusedSimpArgs false
set_option linter.unusedVariables false
namespace Go.Proofs.YtlgjddgajdjllaaGreatDoor
open Go.RowKit
theorem built (w : World) (l : List Int) (c : Array Value) (b n : Nat) (hc : c = (ints l).toArray) (hb : b = w.heap.size) (hn : n = l.length) (hl : l.length ≤ maxLen) : OwnI (w.alloc (.cells c 3)) w.heap.size (.slice (some ⟨b, 0, none⟩) n n) l := by
  subst hc; subst hb; subst hn
  exact OwnI.of (Nat.le_refl _) (Blk.new w _ 3) hl
end Go.Proofs.YtlgjddgajdjllaaGreatDoor
