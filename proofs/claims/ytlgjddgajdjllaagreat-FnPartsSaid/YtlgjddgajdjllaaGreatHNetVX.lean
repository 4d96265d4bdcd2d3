/- NetworkValue of the program. -/
import Derived.Test.YtlgjddgajdjllaaGreatHNetW
import Derived.Test.YtlgjddgajdjllaaGreatHG15
set_option linter.unusedSimpArgs false
set_option linter.unusedVariables false
namespace Go.Proofs.YtlgjddgajdjllaaGreat
open Go.RowKit
theorem OwnT.shape3 {w : World} {B : Nat} {v : Value} {L D X : List Int} (h : OwnT w B v L D X) (k1 k2 k3 : Nat) (h1 : L.length = k1) (h2 : D.length = k2) (h3 : X.length = k3) :
    ∃ a1 c1 a2 c2 a3 c3, v = .agg #[.slice a1 k1 c1, .slice a2 k2 c2, .slice a3 k3 c3] := h.shapeN h1 h2 h3
theorem OwnI.shape1 {w : World} {B : Nat} {v : Value} {l : List Int} (h : OwnI w B v l) (k1 : Nat) (h1 : l.length = k1) : ∃ a c, v = .slice a k1 c := h.shapeN h1
theorem IsT.flatL {k p n : Int} {dm : Int → Int} {U : List Int} (hr : ringOk k p n = true) {L : List Int} {xs : List (El k p n)} (h : IsT k p n dm U L xs) : (flat xs).length ≤ 1048576 := by
  obtain ⟨P0, W, hP, hW, hP1, hP2, hW1', hW6, hXl⟩ := (h.ok hr).nat hr
  have h1 := h.small
  rw [flat_length hW, h.len]
  have := Nat.mul_le_mul h1 hW6
  omega
section
variable {k p n : Int} (hr : ringOk k p n = true) {W : Nat} (hW : ringWidth k n = (W : Int))
variable {dm : Int → Int} {U : List Int} {ts : List (NT k p n)} {op : List Int}
theorem netZ_zero' : netZ hr dm ts op 0 = List.replicate (size (axs dm op)) (rig hr).zero := rfl
end
end Go.Proofs.YtlgjddgajdjllaaGreat
